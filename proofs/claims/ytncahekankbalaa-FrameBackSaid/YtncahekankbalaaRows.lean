/-
  No cell of these rows narrows 'for every input' (looked for: loops, veiled, ifaces, maps, wideKeys, modest, calm, conditions, laid).
  DERIVED. THE GIVEN ROWS OF THIS SEAT. 5 by the template 'for every input the law returns true; each argument reads behind the call as it read before'; 0 by the template 'total and deterministic' (their statements: YtncahekankbalaaTotals.lean).
  GIVEN WITH THE SEED: the statements are not yours to turn. If you find one false, say at which input.
  Laid BY PROGRAM, IN A SANDBOX (cutbox-rows.mjs): the forced cells as the released guide's own fill.sh prints them over the translation ca28034de5f37581… (all of the seat's roots in one cut). By AI agents, Wed Nov 11 2026. No macro, syntax, notation, axiom, sorry.
-/
import Derived.Test.YtncahekankbalaaChecked
import GoSem.Claim
import GoSem.ClaimJoined
import GoSem.ClaimMapViews
import Derived.JoinedTies
import Derived.KernelRfl
namespace Go.Proofs.Ytncahekankbalaa
/- THE CELL 'sum', in the pinned program and in every row, IS THE sha256 OF THE DUMP (.gsa) THAT YtncahekankbalaaProg.lean LOADS. Nothing in Lean hashes anything: it is a label: what it is worth is what the hold of that sum in a sandbox is worth. -/
noncomputable def Try.pinned : Pinned := { name := "ytncahekankbalaa", sum := "ca28034de5f375811df77016a27276a3427912384702da28fa1562fd7eb82afb", checked := Try.checked }
namespace Rows
def none {H : Type} : Left H := { results := [], args := [] }

/-- 'tributarylaw17.FramePackets': WHATEVER THE INPUT: true; the input reads as it did. -/
def framePacketsSpec : ChangeSpec := { name := "framePackets", fn := fun _ => fun
  | [d1, d2] => { results := [.lit (.bool true)], args := [d1, d2] }
  | _ => none }
def framePacketsRow : OpenClaim := { program := "ytncahekankbalaa", sum := "ca28034de5f375811df77016a27276a3427912384702da28fa1562fd7eb82afb", func := "tributary/tributarylaw17.FramePackets", spec := "framePackets", unfollowed := true, recurses := true, apart := false }
def FramePacketsSaid : Prop := framePacketsRow.holds Try.pinned (OpenSpec.ofChange framePacketsSpec)

/-- ITS FALSE NEIGHBOUR: 'it returns false'. Refute it at one input. -/
def framePacketsWrong : ChangeSpec := { name := "framePackets", fn := fun _ => fun
  | [d1, d2] => { results := [.lit (.bool false)], args := [d1, d2] }
  | _ => none }
def FramePacketsWrongFalsely : Prop := framePacketsRow.holds Try.pinned (OpenSpec.ofChange framePacketsWrong)

/-- 'tributarylaw17.FrameDamaged': WHATEVER THE INPUT: true; the input reads as it did. -/
def frameDamagedSpec : ChangeSpec := { name := "frameDamaged", fn := fun _ => fun
  | [d1, d2, d3] => { results := [.lit (.bool true)], args := [d1, d2, d3] }
  | _ => none }
def frameDamagedRow : OpenClaim := { program := "ytncahekankbalaa", sum := "ca28034de5f375811df77016a27276a3427912384702da28fa1562fd7eb82afb", func := "tributary/tributarylaw17.FrameDamaged", spec := "frameDamaged", unfollowed := true, recurses := true, apart := false }
def FrameDamagedSaid : Prop := frameDamagedRow.holds Try.pinned (OpenSpec.ofChange frameDamagedSpec)

/-- ITS FALSE NEIGHBOUR: 'it returns false'. Refute it at one input. -/
def frameDamagedWrong : ChangeSpec := { name := "frameDamaged", fn := fun _ => fun
  | [d1, d2, d3] => { results := [.lit (.bool false)], args := [d1, d2, d3] }
  | _ => none }
def FrameDamagedWrongFalsely : Prop := frameDamagedRow.holds Try.pinned (OpenSpec.ofChange frameDamagedWrong)

/-- 'tributarylaw17.FrameMessages': WHATEVER THE INPUT: true; the input reads as it did. -/
def frameMessagesSpec : ChangeSpec := { name := "frameMessages", fn := fun _ => fun
  | [d1, d2] => { results := [.lit (.bool true)], args := [d1, d2] }
  | _ => none }
def frameMessagesRow : OpenClaim := { program := "ytncahekankbalaa", sum := "ca28034de5f375811df77016a27276a3427912384702da28fa1562fd7eb82afb", func := "tributary/tributarylaw17.FrameMessages", spec := "frameMessages", unfollowed := true, recurses := true, apart := false }
def FrameMessagesSaid : Prop := frameMessagesRow.holds Try.pinned (OpenSpec.ofChange frameMessagesSpec)

/-- ITS FALSE NEIGHBOUR: 'it returns false'. Refute it at one input. -/
def frameMessagesWrong : ChangeSpec := { name := "frameMessages", fn := fun _ => fun
  | [d1, d2] => { results := [.lit (.bool false)], args := [d1, d2] }
  | _ => none }
def FrameMessagesWrongFalsely : Prop := frameMessagesRow.holds Try.pinned (OpenSpec.ofChange frameMessagesWrong)

/-- 'tributarylaw17.FrameKnown': WHATEVER THE INPUT: true; the input reads as it did. -/
def frameKnownSpec : ChangeSpec := { name := "frameKnown", fn := fun _ => fun
  | [] => { results := [.lit (.bool true)], args := [] }
  | _ => none }
def frameKnownRow : OpenClaim := { program := "ytncahekankbalaa", sum := "ca28034de5f375811df77016a27276a3427912384702da28fa1562fd7eb82afb", func := "tributary/tributarylaw17.FrameKnown", spec := "frameKnown", unfollowed := true, recurses := true, apart := false }
def FrameKnownSaid : Prop := frameKnownRow.holds Try.pinned (OpenSpec.ofChange frameKnownSpec)

/-- ITS FALSE NEIGHBOUR: 'it returns false'. Refute it at one input. -/
def frameKnownWrong : ChangeSpec := { name := "frameKnown", fn := fun _ => fun
  | [] => { results := [.lit (.bool false)], args := [] }
  | _ => none }
def FrameKnownWrongFalsely : Prop := frameKnownRow.holds Try.pinned (OpenSpec.ofChange frameKnownWrong)

/-- 'tributarylaw17.FrameBack': WHATEVER THE INPUT: true; the input reads as it did. -/
def frameBackSpec : ChangeSpec := { name := "frameBack", fn := fun _ => fun
  | [d1, d2, d3] => { results := [.lit (.bool true)], args := [d1, d2, d3] }
  | _ => none }
def frameBackRow : OpenClaim := { program := "ytncahekankbalaa", sum := "ca28034de5f375811df77016a27276a3427912384702da28fa1562fd7eb82afb", func := "tributary/tributarylaw17.FrameBack", spec := "frameBack", unfollowed := true, recurses := true, apart := false }
def FrameBackSaid : Prop := frameBackRow.holds Try.pinned (OpenSpec.ofChange frameBackSpec)

/-- ITS FALSE NEIGHBOUR: 'it returns false'. Refute it at one input. -/
def frameBackWrong : ChangeSpec := { name := "frameBack", fn := fun _ => fun
  | [d1, d2, d3] => { results := [.lit (.bool false)], args := [d1, d2, d3] }
  | _ => none }
def FrameBackWrongFalsely : Prop := frameBackRow.holds Try.pinned (OpenSpec.ofChange frameBackWrong)

/- THE SECOND FORM. 'bulk': how many values and letters a reading holds, each counted each time it is reached (what is shared counts as often as it is met; a slice's spare places count too). A statement '..UptoSaid' is the law's where the arguments, and the package variables that the reading takes, are together of bulk at most 1048576: NARROWER than '..Said'. Prove '..Said' where nothing that the law and all that it calls make is longer than what came in: it says more and counts as full. Else prove '..UptoSaid'. A law counts once. -/
mutual
def uptoBulk {H : Type} : DataW H → Nat
  | .lit (.string bytes) => bytes.length + 1
  | .lit _ => 1
  | .nil => 1
  | .ptr d => uptoBulk d + 1
  | .slice elems spare => uptoBulkAll elems + uptoBulkAll spare + 1
  | .agg parts => uptoBulkAll parts + 1
  | .iface _ d => uptoBulk d + 1
  | .map entries => uptoBulkEntries entries + 1
  | .held _ => 1
def uptoBulkAll {H : Type} : List (DataW H) → Nat
  | [] => 0
  | d :: r => uptoBulk d + uptoBulkAll r
def uptoBulkEntries {H : Type} : List (Lit × DataW H) → Nat
  | [] => 0
  | x :: r => uptoBulkEntry x + uptoBulkEntries r
def uptoBulkEntry {H : Type} : Lit × DataW H → Nat
  | (.string bytes, d) => bytes.length + uptoBulk d + 1
  | (_, d) => uptoBulk d + 1
 end
def uptoSmall : (H : Type) → List (DataW H) → Bool := fun _ ds => decide (uptoBulkAll ds ≤ 1048576)
def OpenSpec.upto (s : _root_.Go.ChangeSpec) : _root_.Go.OpenSpec := { _root_.Go.OpenSpec.ofChange s with cond := some uptoSmall }

/-- 'tributarylaw17.FramePackets', WHERE WHAT IT READS IS OF BULK AT MOST 1048576: true; the input reads as it did. -/
def framePacketsUptoRow : OpenClaim := { program := "ytncahekankbalaa", sum := "ca28034de5f375811df77016a27276a3427912384702da28fa1562fd7eb82afb", func := "tributary/tributarylaw17.FramePackets", spec := "framePackets", unfollowed := true, recurses := true, apart := false, narrowed := true }
def FramePacketsUptoSaid : Prop := framePacketsUptoRow.holds Try.pinned (OpenSpec.upto framePacketsSpec)

/-- 'tributarylaw17.FrameDamaged', WHERE WHAT IT READS IS OF BULK AT MOST 1048576: true; the input reads as it did. -/
def frameDamagedUptoRow : OpenClaim := { program := "ytncahekankbalaa", sum := "ca28034de5f375811df77016a27276a3427912384702da28fa1562fd7eb82afb", func := "tributary/tributarylaw17.FrameDamaged", spec := "frameDamaged", unfollowed := true, recurses := true, apart := false, narrowed := true }
def FrameDamagedUptoSaid : Prop := frameDamagedUptoRow.holds Try.pinned (OpenSpec.upto frameDamagedSpec)

/-- 'tributarylaw17.FrameMessages', WHERE WHAT IT READS IS OF BULK AT MOST 1048576: true; the input reads as it did. -/
def frameMessagesUptoRow : OpenClaim := { program := "ytncahekankbalaa", sum := "ca28034de5f375811df77016a27276a3427912384702da28fa1562fd7eb82afb", func := "tributary/tributarylaw17.FrameMessages", spec := "frameMessages", unfollowed := true, recurses := true, apart := false, narrowed := true }
def FrameMessagesUptoSaid : Prop := frameMessagesUptoRow.holds Try.pinned (OpenSpec.upto frameMessagesSpec)

/-- 'tributarylaw17.FrameKnown', WHERE WHAT IT READS IS OF BULK AT MOST 1048576: true; the input reads as it did. -/
def frameKnownUptoRow : OpenClaim := { program := "ytncahekankbalaa", sum := "ca28034de5f375811df77016a27276a3427912384702da28fa1562fd7eb82afb", func := "tributary/tributarylaw17.FrameKnown", spec := "frameKnown", unfollowed := true, recurses := true, apart := false, narrowed := true }
def FrameKnownUptoSaid : Prop := frameKnownUptoRow.holds Try.pinned (OpenSpec.upto frameKnownSpec)

/-- 'tributarylaw17.FrameBack', WHERE WHAT IT READS IS OF BULK AT MOST 1048576: true; the input reads as it did. -/
def frameBackUptoRow : OpenClaim := { program := "ytncahekankbalaa", sum := "ca28034de5f375811df77016a27276a3427912384702da28fa1562fd7eb82afb", func := "tributary/tributarylaw17.FrameBack", spec := "frameBack", unfollowed := true, recurses := true, apart := false, narrowed := true }
def FrameBackUptoSaid : Prop := frameBackUptoRow.holds Try.pinned (OpenSpec.upto frameBackSpec)

end Rows
end Go.Proofs.Ytncahekankbalaa
