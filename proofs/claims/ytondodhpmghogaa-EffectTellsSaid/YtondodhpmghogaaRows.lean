/-
  No cell of these rows narrows 'for every input' (looked for: loops, veiled, ifaces, maps, wideKeys, modest, calm, conditions, laid).
  DERIVED. THE GIVEN ROWS OF THIS SEAT. 11 by the template 'for every input the law returns true; each argument reads behind the call as it read before'; 0 by the template 'total and deterministic' (their statements: YtondodhpmghogaaTotals.lean).
  GIVEN WITH THE SEED: the statements are not yours to turn. If you find one false, say at which input.
  Laid BY PROGRAM, IN A SANDBOX (cutbox-rows.mjs): the forced cells as the released guide's own fill.sh prints them over the translation e69acec3ba82c7fc… (all of the seat's roots in one cut). By AI agents, Wed Nov 11 2026. No macro, syntax, notation, axiom, sorry.
-/
import Derived.Test.YtondodhpmghogaaChecked
import GoSem.Claim
import GoSem.ClaimJoined
import GoSem.ClaimMapViews
import Derived.JoinedTies
import Derived.KernelRfl
namespace Go.Proofs.Ytondodhpmghogaa
/- THE CELL 'sum', in the pinned program and in every row, IS THE sha256 OF THE DUMP (.gsa) THAT YtondodhpmghogaaProg.lean LOADS. Nothing in Lean hashes anything: it is a label: what it is worth is what the hold of that sum in a sandbox is worth. -/
noncomputable def Try.pinned : Pinned := { name := "ytondodhpmghogaa", sum := "e69acec3ba82c7fc46ba2c06a2a40fcdf678e207d041da3e538bf0e5be384f22", checked := Try.checked }
namespace Rows
def none {H : Type} : Left H := { results := [], args := [] }

/-- 'tributarylaw01.WireWrites': WHATEVER THE INPUT: true; the input reads as it did. -/
def wireWritesSpec : ChangeSpec := { name := "wireWrites", fn := fun _ => fun
  | [d] => { results := [.lit (.bool true)], args := [d] }
  | _ => none }
def wireWritesRow : OpenClaim := { program := "ytondodhpmghogaa", sum := "e69acec3ba82c7fc46ba2c06a2a40fcdf678e207d041da3e538bf0e5be384f22", func := "tributary/tributarylaw01.WireWrites", spec := "wireWrites", unfollowed := true, recurses := true, apart := false }
def WireWritesSaid : Prop := wireWritesRow.holds Try.pinned (OpenSpec.ofChange wireWritesSpec)

/-- ITS FALSE NEIGHBOUR: 'it returns false'. Refute it at one input. -/
def wireWritesWrong : ChangeSpec := { name := "wireWrites", fn := fun _ => fun
  | [d] => { results := [.lit (.bool false)], args := [d] }
  | _ => none }
def WireWritesWrongFalsely : Prop := wireWritesRow.holds Try.pinned (OpenSpec.ofChange wireWritesWrong)

/-- 'tributarylaw01.WireKnown': WHATEVER THE INPUT: true; the input reads as it did. -/
def wireKnownSpec : ChangeSpec := { name := "wireKnown", fn := fun _ => fun
  | [] => { results := [.lit (.bool true)], args := [] }
  | _ => none }
def wireKnownRow : OpenClaim := { program := "ytondodhpmghogaa", sum := "e69acec3ba82c7fc46ba2c06a2a40fcdf678e207d041da3e538bf0e5be384f22", func := "tributary/tributarylaw01.WireKnown", spec := "wireKnown", unfollowed := true, recurses := true, apart := false }
def WireKnownSaid : Prop := wireKnownRow.holds Try.pinned (OpenSpec.ofChange wireKnownSpec)

/-- ITS FALSE NEIGHBOUR: 'it returns false'. Refute it at one input. -/
def wireKnownWrong : ChangeSpec := { name := "wireKnown", fn := fun _ => fun
  | [] => { results := [.lit (.bool false)], args := [] }
  | _ => none }
def WireKnownWrongFalsely : Prop := wireKnownRow.holds Try.pinned (OpenSpec.ofChange wireKnownWrong)

/-- 'tributarylaw01.WireReads': WHATEVER THE INPUT: true; the input reads as it did. -/
def wireReadsSpec : ChangeSpec := { name := "wireReads", fn := fun _ => fun
  | [d1, d2] => { results := [.lit (.bool true)], args := [d1, d2] }
  | _ => none }
def wireReadsRow : OpenClaim := { program := "ytondodhpmghogaa", sum := "e69acec3ba82c7fc46ba2c06a2a40fcdf678e207d041da3e538bf0e5be384f22", func := "tributary/tributarylaw01.WireReads", spec := "wireReads", unfollowed := true, recurses := true, apart := false }
def WireReadsSaid : Prop := wireReadsRow.holds Try.pinned (OpenSpec.ofChange wireReadsSpec)

/-- ITS FALSE NEIGHBOUR: 'it returns false'. Refute it at one input. -/
def wireReadsWrong : ChangeSpec := { name := "wireReads", fn := fun _ => fun
  | [d1, d2] => { results := [.lit (.bool false)], args := [d1, d2] }
  | _ => none }
def WireReadsWrongFalsely : Prop := wireReadsRow.holds Try.pinned (OpenSpec.ofChange wireReadsWrong)

/-- 'tributarylaw01.WireNone': WHATEVER THE INPUT: true; the input reads as it did. -/
def wireNoneSpec : ChangeSpec := { name := "wireNone", fn := fun _ => fun
  | [d1, d2] => { results := [.lit (.bool true)], args := [d1, d2] }
  | _ => none }
def wireNoneRow : OpenClaim := { program := "ytondodhpmghogaa", sum := "e69acec3ba82c7fc46ba2c06a2a40fcdf678e207d041da3e538bf0e5be384f22", func := "tributary/tributarylaw01.WireNone", spec := "wireNone", unfollowed := true, recurses := true, apart := false }
def WireNoneSaid : Prop := wireNoneRow.holds Try.pinned (OpenSpec.ofChange wireNoneSpec)

/-- ITS FALSE NEIGHBOUR: 'it returns false'. Refute it at one input. -/
def wireNoneWrong : ChangeSpec := { name := "wireNone", fn := fun _ => fun
  | [d1, d2] => { results := [.lit (.bool false)], args := [d1, d2] }
  | _ => none }
def WireNoneWrongFalsely : Prop := wireNoneRow.holds Try.pinned (OpenSpec.ofChange wireNoneWrong)

/-- 'tributarylaw01.WireBack': WHATEVER THE INPUT: true; the input reads as it did. -/
def wireBackSpec : ChangeSpec := { name := "wireBack", fn := fun _ => fun
  | [d] => { results := [.lit (.bool true)], args := [d] }
  | _ => none }
def wireBackRow : OpenClaim := { program := "ytondodhpmghogaa", sum := "e69acec3ba82c7fc46ba2c06a2a40fcdf678e207d041da3e538bf0e5be384f22", func := "tributary/tributarylaw01.WireBack", spec := "wireBack", unfollowed := true, recurses := true, apart := false }
def WireBackSaid : Prop := wireBackRow.holds Try.pinned (OpenSpec.ofChange wireBackSpec)

/-- ITS FALSE NEIGHBOUR: 'it returns false'. Refute it at one input. -/
def wireBackWrong : ChangeSpec := { name := "wireBack", fn := fun _ => fun
  | [d] => { results := [.lit (.bool false)], args := [d] }
  | _ => none }
def WireBackWrongFalsely : Prop := wireBackRow.holds Try.pinned (OpenSpec.ofChange wireBackWrong)

/-- 'tributarylaw01.WireAgain': WHATEVER THE INPUT: true; the input reads as it did. -/
def wireAgainSpec : ChangeSpec := { name := "wireAgain", fn := fun _ => fun
  | [d1, d2] => { results := [.lit (.bool true)], args := [d1, d2] }
  | _ => none }
def wireAgainRow : OpenClaim := { program := "ytondodhpmghogaa", sum := "e69acec3ba82c7fc46ba2c06a2a40fcdf678e207d041da3e538bf0e5be384f22", func := "tributary/tributarylaw01.WireAgain", spec := "wireAgain", unfollowed := true, recurses := true, apart := false }
def WireAgainSaid : Prop := wireAgainRow.holds Try.pinned (OpenSpec.ofChange wireAgainSpec)

/-- ITS FALSE NEIGHBOUR: 'it returns false'. Refute it at one input. -/
def wireAgainWrong : ChangeSpec := { name := "wireAgain", fn := fun _ => fun
  | [d1, d2] => { results := [.lit (.bool false)], args := [d1, d2] }
  | _ => none }
def WireAgainWrongFalsely : Prop := wireAgainRow.holds Try.pinned (OpenSpec.ofChange wireAgainWrong)

/-- 'tributarylaw04.EffectTells': WHATEVER THE INPUT: true; the input reads as it did. -/
def effectTellsSpec : ChangeSpec := { name := "effectTells", fn := fun _ => fun
  | [d1, d2] => { results := [.lit (.bool true)], args := [d1, d2] }
  | _ => none }
def effectTellsRow : OpenClaim := { program := "ytondodhpmghogaa", sum := "e69acec3ba82c7fc46ba2c06a2a40fcdf678e207d041da3e538bf0e5be384f22", func := "tributary/tributarylaw04.EffectTells", spec := "effectTells", inPlace := ["internal/bytealg.Compare"], unfollowed := true, recurses := true, apart := false }
def EffectTellsSaid : Prop := effectTellsRow.holds Try.pinned (OpenSpec.ofChange effectTellsSpec)

/-- ITS FALSE NEIGHBOUR: 'it returns false'. Refute it at one input. -/
def effectTellsWrong : ChangeSpec := { name := "effectTells", fn := fun _ => fun
  | [d1, d2] => { results := [.lit (.bool false)], args := [d1, d2] }
  | _ => none }
def EffectTellsWrongFalsely : Prop := effectTellsRow.holds Try.pinned (OpenSpec.ofChange effectTellsWrong)

/-- 'tributarylaw04.EffectReads': WHATEVER THE INPUT: true; the input reads as it did. -/
def effectReadsSpec : ChangeSpec := { name := "effectReads", fn := fun _ => fun
  | [d] => { results := [.lit (.bool true)], args := [d] }
  | _ => none }
def effectReadsRow : OpenClaim := { program := "ytondodhpmghogaa", sum := "e69acec3ba82c7fc46ba2c06a2a40fcdf678e207d041da3e538bf0e5be384f22", func := "tributary/tributarylaw04.EffectReads", spec := "effectReads", inPlace := ["internal/bytealg.Compare"], unfollowed := true, recurses := true, apart := false }
def EffectReadsSaid : Prop := effectReadsRow.holds Try.pinned (OpenSpec.ofChange effectReadsSpec)

/-- ITS FALSE NEIGHBOUR: 'it returns false'. Refute it at one input. -/
def effectReadsWrong : ChangeSpec := { name := "effectReads", fn := fun _ => fun
  | [d] => { results := [.lit (.bool false)], args := [d] }
  | _ => none }
def EffectReadsWrongFalsely : Prop := effectReadsRow.holds Try.pinned (OpenSpec.ofChange effectReadsWrong)

/-- 'tributarylaw04.EffectKnown': WHATEVER THE INPUT: true; the input reads as it did. -/
def effectKnownSpec : ChangeSpec := { name := "effectKnown", fn := fun _ => fun
  | [] => { results := [.lit (.bool true)], args := [] }
  | _ => none }
def effectKnownRow : OpenClaim := { program := "ytondodhpmghogaa", sum := "e69acec3ba82c7fc46ba2c06a2a40fcdf678e207d041da3e538bf0e5be384f22", func := "tributary/tributarylaw04.EffectKnown", spec := "effectKnown", inPlace := ["internal/bytealg.Compare"], unfollowed := true, recurses := true, apart := false }
def EffectKnownSaid : Prop := effectKnownRow.holds Try.pinned (OpenSpec.ofChange effectKnownSpec)

/-- ITS FALSE NEIGHBOUR: 'it returns false'. Refute it at one input. -/
def effectKnownWrong : ChangeSpec := { name := "effectKnown", fn := fun _ => fun
  | [] => { results := [.lit (.bool false)], args := [] }
  | _ => none }
def EffectKnownWrongFalsely : Prop := effectKnownRow.holds Try.pinned (OpenSpec.ofChange effectKnownWrong)

/-- 'tributarylaw04.EffectBack': WHATEVER THE INPUT: true; the input reads as it did. -/
def effectBackSpec : ChangeSpec := { name := "effectBack", fn := fun _ => fun
  | [d1, d2] => { results := [.lit (.bool true)], args := [d1, d2] }
  | _ => none }
def effectBackRow : OpenClaim := { program := "ytondodhpmghogaa", sum := "e69acec3ba82c7fc46ba2c06a2a40fcdf678e207d041da3e538bf0e5be384f22", func := "tributary/tributarylaw04.EffectBack", spec := "effectBack", inPlace := ["internal/bytealg.Compare"], unfollowed := true, recurses := true, apart := false }
def EffectBackSaid : Prop := effectBackRow.holds Try.pinned (OpenSpec.ofChange effectBackSpec)

/-- ITS FALSE NEIGHBOUR: 'it returns false'. Refute it at one input. -/
def effectBackWrong : ChangeSpec := { name := "effectBack", fn := fun _ => fun
  | [d1, d2] => { results := [.lit (.bool false)], args := [d1, d2] }
  | _ => none }
def EffectBackWrongFalsely : Prop := effectBackRow.holds Try.pinned (OpenSpec.ofChange effectBackWrong)

/-- 'tributarylaw04.EffectOrder': WHATEVER THE INPUT: true; the input reads as it did. -/
def effectOrderSpec : ChangeSpec := { name := "effectOrder", fn := fun _ => fun
  | [d1, d2, d3] => { results := [.lit (.bool true)], args := [d1, d2, d3] }
  | _ => none }
def effectOrderRow : OpenClaim := { program := "ytondodhpmghogaa", sum := "e69acec3ba82c7fc46ba2c06a2a40fcdf678e207d041da3e538bf0e5be384f22", func := "tributary/tributarylaw04.EffectOrder", spec := "effectOrder", inPlace := ["internal/bytealg.Compare"], unfollowed := true, recurses := true, apart := false }
def EffectOrderSaid : Prop := effectOrderRow.holds Try.pinned (OpenSpec.ofChange effectOrderSpec)

/-- ITS FALSE NEIGHBOUR: 'it returns false'. Refute it at one input. -/
def effectOrderWrong : ChangeSpec := { name := "effectOrder", fn := fun _ => fun
  | [d1, d2, d3] => { results := [.lit (.bool false)], args := [d1, d2, d3] }
  | _ => none }
def EffectOrderWrongFalsely : Prop := effectOrderRow.holds Try.pinned (OpenSpec.ofChange effectOrderWrong)

/- THE SECOND FORM. 'bulk': how many values and letters a reading holds, each counted each time it is reached (what is shared counts as often as it is met; a slice's spare places count too). A statement '..UptoSaid' is the law's where the arguments, and the package variables that the reading takes, are together of bulk at most 1048576: NARROWER than '..Said'. Prove '..Said' where nothing that the law and all that it calls make is longer than what came in: it says more and counts as full. Else prove '..UptoSaid'. A law counts once. -/
mutual
def uptoBulk {H : Type} : DataW H → Nat
  | .lit (.string bytes) => bytes.length + 1
  | .lit _ => 1
  | .nil => 1
  | .ptr d => uptoBulk d + 1
  | .slice elems spare => uptoBulkAll elems + uptoBulkAll spare + 1
  | .agg parts => uptoBulkAll parts + 1
  | .iface _ d => uptoBulk d + 1
  | .map entries => uptoBulkEntries entries + 1
  | .held _ => 1
def uptoBulkAll {H : Type} : List (DataW H) → Nat
  | [] => 0
  | d :: r => uptoBulk d + uptoBulkAll r
def uptoBulkEntries {H : Type} : List (Lit × DataW H) → Nat
  | [] => 0
  | x :: r => uptoBulkEntry x + uptoBulkEntries r
def uptoBulkEntry {H : Type} : Lit × DataW H → Nat
  | (.string bytes, d) => bytes.length + uptoBulk d + 1
  | (_, d) => uptoBulk d + 1
 end
def uptoSmall : (H : Type) → List (DataW H) → Bool := fun _ ds => decide (uptoBulkAll ds ≤ 1048576)
def OpenSpec.upto (s : _root_.Go.ChangeSpec) : _root_.Go.OpenSpec := { _root_.Go.OpenSpec.ofChange s with cond := some uptoSmall }

/-- 'tributarylaw01.WireWrites', WHERE WHAT IT READS IS OF BULK AT MOST 1048576: true; the input reads as it did. -/
def wireWritesUptoRow : OpenClaim := { program := "ytondodhpmghogaa", sum := "e69acec3ba82c7fc46ba2c06a2a40fcdf678e207d041da3e538bf0e5be384f22", func := "tributary/tributarylaw01.WireWrites", spec := "wireWrites", unfollowed := true, recurses := true, apart := false, narrowed := true }
def WireWritesUptoSaid : Prop := wireWritesUptoRow.holds Try.pinned (OpenSpec.upto wireWritesSpec)

/-- 'tributarylaw01.WireKnown', WHERE WHAT IT READS IS OF BULK AT MOST 1048576: true; the input reads as it did. -/
def wireKnownUptoRow : OpenClaim := { program := "ytondodhpmghogaa", sum := "e69acec3ba82c7fc46ba2c06a2a40fcdf678e207d041da3e538bf0e5be384f22", func := "tributary/tributarylaw01.WireKnown", spec := "wireKnown", unfollowed := true, recurses := true, apart := false, narrowed := true }
def WireKnownUptoSaid : Prop := wireKnownUptoRow.holds Try.pinned (OpenSpec.upto wireKnownSpec)

/-- 'tributarylaw01.WireReads', WHERE WHAT IT READS IS OF BULK AT MOST 1048576: true; the input reads as it did. -/
def wireReadsUptoRow : OpenClaim := { program := "ytondodhpmghogaa", sum := "e69acec3ba82c7fc46ba2c06a2a40fcdf678e207d041da3e538bf0e5be384f22", func := "tributary/tributarylaw01.WireReads", spec := "wireReads", unfollowed := true, recurses := true, apart := false, narrowed := true }
def WireReadsUptoSaid : Prop := wireReadsUptoRow.holds Try.pinned (OpenSpec.upto wireReadsSpec)

/-- 'tributarylaw01.WireNone', WHERE WHAT IT READS IS OF BULK AT MOST 1048576: true; the input reads as it did. -/
def wireNoneUptoRow : OpenClaim := { program := "ytondodhpmghogaa", sum := "e69acec3ba82c7fc46ba2c06a2a40fcdf678e207d041da3e538bf0e5be384f22", func := "tributary/tributarylaw01.WireNone", spec := "wireNone", unfollowed := true, recurses := true, apart := false, narrowed := true }
def WireNoneUptoSaid : Prop := wireNoneUptoRow.holds Try.pinned (OpenSpec.upto wireNoneSpec)

/-- 'tributarylaw01.WireBack', WHERE WHAT IT READS IS OF BULK AT MOST 1048576: true; the input reads as it did. -/
def wireBackUptoRow : OpenClaim := { program := "ytondodhpmghogaa", sum := "e69acec3ba82c7fc46ba2c06a2a40fcdf678e207d041da3e538bf0e5be384f22", func := "tributary/tributarylaw01.WireBack", spec := "wireBack", unfollowed := true, recurses := true, apart := false, narrowed := true }
def WireBackUptoSaid : Prop := wireBackUptoRow.holds Try.pinned (OpenSpec.upto wireBackSpec)

/-- 'tributarylaw01.WireAgain', WHERE WHAT IT READS IS OF BULK AT MOST 1048576: true; the input reads as it did. -/
def wireAgainUptoRow : OpenClaim := { program := "ytondodhpmghogaa", sum := "e69acec3ba82c7fc46ba2c06a2a40fcdf678e207d041da3e538bf0e5be384f22", func := "tributary/tributarylaw01.WireAgain", spec := "wireAgain", unfollowed := true, recurses := true, apart := false, narrowed := true }
def WireAgainUptoSaid : Prop := wireAgainUptoRow.holds Try.pinned (OpenSpec.upto wireAgainSpec)

/-- 'tributarylaw04.EffectTells', WHERE WHAT IT READS IS OF BULK AT MOST 1048576: true; the input reads as it did. -/
def effectTellsUptoRow : OpenClaim := { program := "ytondodhpmghogaa", sum := "e69acec3ba82c7fc46ba2c06a2a40fcdf678e207d041da3e538bf0e5be384f22", func := "tributary/tributarylaw04.EffectTells", spec := "effectTells", inPlace := ["internal/bytealg.Compare"], unfollowed := true, recurses := true, apart := false, narrowed := true }
def EffectTellsUptoSaid : Prop := effectTellsUptoRow.holds Try.pinned (OpenSpec.upto effectTellsSpec)

/-- 'tributarylaw04.EffectReads', WHERE WHAT IT READS IS OF BULK AT MOST 1048576: true; the input reads as it did. -/
def effectReadsUptoRow : OpenClaim := { program := "ytondodhpmghogaa", sum := "e69acec3ba82c7fc46ba2c06a2a40fcdf678e207d041da3e538bf0e5be384f22", func := "tributary/tributarylaw04.EffectReads", spec := "effectReads", inPlace := ["internal/bytealg.Compare"], unfollowed := true, recurses := true, apart := false, narrowed := true }
def EffectReadsUptoSaid : Prop := effectReadsUptoRow.holds Try.pinned (OpenSpec.upto effectReadsSpec)

/-- 'tributarylaw04.EffectKnown', WHERE WHAT IT READS IS OF BULK AT MOST 1048576: true; the input reads as it did. -/
def effectKnownUptoRow : OpenClaim := { program := "ytondodhpmghogaa", sum := "e69acec3ba82c7fc46ba2c06a2a40fcdf678e207d041da3e538bf0e5be384f22", func := "tributary/tributarylaw04.EffectKnown", spec := "effectKnown", inPlace := ["internal/bytealg.Compare"], unfollowed := true, recurses := true, apart := false, narrowed := true }
def EffectKnownUptoSaid : Prop := effectKnownUptoRow.holds Try.pinned (OpenSpec.upto effectKnownSpec)

/-- 'tributarylaw04.EffectBack', WHERE WHAT IT READS IS OF BULK AT MOST 1048576: true; the input reads as it did. -/
def effectBackUptoRow : OpenClaim := { program := "ytondodhpmghogaa", sum := "e69acec3ba82c7fc46ba2c06a2a40fcdf678e207d041da3e538bf0e5be384f22", func := "tributary/tributarylaw04.EffectBack", spec := "effectBack", inPlace := ["internal/bytealg.Compare"], unfollowed := true, recurses := true, apart := false, narrowed := true }
def EffectBackUptoSaid : Prop := effectBackUptoRow.holds Try.pinned (OpenSpec.upto effectBackSpec)

/-- 'tributarylaw04.EffectOrder', WHERE WHAT IT READS IS OF BULK AT MOST 1048576: true; the input reads as it did. -/
def effectOrderUptoRow : OpenClaim := { program := "ytondodhpmghogaa", sum := "e69acec3ba82c7fc46ba2c06a2a40fcdf678e207d041da3e538bf0e5be384f22", func := "tributary/tributarylaw04.EffectOrder", spec := "effectOrder", inPlace := ["internal/bytealg.Compare"], unfollowed := true, recurses := true, apart := false, narrowed := true }
def EffectOrderUptoSaid : Prop := effectOrderUptoRow.holds Try.pinned (OpenSpec.upto effectOrderSpec)

end Rows
end Go.Proofs.Ytondodhpmghogaa
