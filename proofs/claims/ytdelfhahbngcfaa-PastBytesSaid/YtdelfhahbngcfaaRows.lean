/-
  No cell of these rows narrows 'for every input' (looked for: loops, veiled, ifaces, maps, wideKeys, modest, calm, conditions, laid).
  DERIVED. THE GIVEN ROWS OF THIS SEAT. 6 by the template 'for every input the law returns true; each argument reads behind the call as it read before'; 0 by the template 'total and deterministic' (their statements: YtdelfhahbngcfaaTotals.lean).
  GIVEN WITH THE SEED: the statements are not yours to turn. If you find one false, say at which input.
  Laid BY PROGRAM, IN A SANDBOX (cutbox-rows.mjs): the forced cells as the released guide's own fill.sh prints them over the translation c189833383c3cc8e… (all of the seat's roots in one cut). By AI agents, Wed Nov 11 2026. No macro, syntax, notation, axiom, sorry.
-/
import Derived.Test.YtdelfhahbngcfaaChecked
import GoSem.Claim
import GoSem.ClaimJoined
import GoSem.ClaimMapViews
import Derived.JoinedTies
import Derived.KernelRfl
namespace Go.Proofs.Ytdelfhahbngcfaa
/- THE CELL 'sum', in the pinned program and in every row, IS THE sha256 OF THE DUMP (.gsa) THAT YtdelfhahbngcfaaProg.lean LOADS. Nothing in Lean hashes anything: it is a label: what it is worth is what the hold of that sum in a sandbox is worth. -/
noncomputable def Try.pinned : Pinned := { name := "ytdelfhahbngcfaa", sum := "c189833383c3cc8e20df858c70f9166b8e3280698809a0dc5fd6d93c9f53139c", checked := Try.checked }
namespace Rows
def none {H : Type} : Left H := { results := [], args := [] }

/-- 'tributarylaw07.PastBytes': WHATEVER THE INPUT: true; the input reads as it did. -/
def pastBytesSpec : ChangeSpec := { name := "pastBytes", fn := fun _ => fun
  | [d1, d2] => { results := [.lit (.bool true)], args := [d1, d2] }
  | _ => none }
def pastBytesRow : OpenClaim := { program := "ytdelfhahbngcfaa", sum := "c189833383c3cc8e20df858c70f9166b8e3280698809a0dc5fd6d93c9f53139c", func := "tributary/tributarylaw07.PastBytes", spec := "pastBytes", unfollowed := true, recurses := true, apart := false }
def PastBytesSaid : Prop := pastBytesRow.holds Try.pinned (OpenSpec.ofChange pastBytesSpec)

/-- ITS FALSE NEIGHBOUR: 'it returns false'. Refute it at one input. -/
def pastBytesWrong : ChangeSpec := { name := "pastBytes", fn := fun _ => fun
  | [d1, d2] => { results := [.lit (.bool false)], args := [d1, d2] }
  | _ => none }
def PastBytesWrongFalsely : Prop := pastBytesRow.holds Try.pinned (OpenSpec.ofChange pastBytesWrong)

/-- 'tributarylaw07.PastDots': WHATEVER THE INPUT: true; the input reads as it did. -/
def pastDotsSpec : ChangeSpec := { name := "pastDots", fn := fun _ => fun
  | [d1, d2] => { results := [.lit (.bool true)], args := [d1, d2] }
  | _ => none }
def pastDotsRow : OpenClaim := { program := "ytdelfhahbngcfaa", sum := "c189833383c3cc8e20df858c70f9166b8e3280698809a0dc5fd6d93c9f53139c", func := "tributary/tributarylaw07.PastDots", spec := "pastDots", unfollowed := true, recurses := true, apart := false }
def PastDotsSaid : Prop := pastDotsRow.holds Try.pinned (OpenSpec.ofChange pastDotsSpec)

/-- ITS FALSE NEIGHBOUR: 'it returns false'. Refute it at one input. -/
def pastDotsWrong : ChangeSpec := { name := "pastDots", fn := fun _ => fun
  | [d1, d2] => { results := [.lit (.bool false)], args := [d1, d2] }
  | _ => none }
def PastDotsWrongFalsely : Prop := pastDotsRow.holds Try.pinned (OpenSpec.ofChange pastDotsWrong)

/-- 'tributarylaw07.PastSets': WHATEVER THE INPUT: true; the input reads as it did. -/
def pastSetsSpec : ChangeSpec := { name := "pastSets", fn := fun _ => fun
  | [d1, d2, d3] => { results := [.lit (.bool true)], args := [d1, d2, d3] }
  | _ => none }
def pastSetsRow : OpenClaim := { program := "ytdelfhahbngcfaa", sum := "c189833383c3cc8e20df858c70f9166b8e3280698809a0dc5fd6d93c9f53139c", func := "tributary/tributarylaw07.PastSets", spec := "pastSets", unfollowed := true, recurses := true, apart := false }
def PastSetsSaid : Prop := pastSetsRow.holds Try.pinned (OpenSpec.ofChange pastSetsSpec)

/-- ITS FALSE NEIGHBOUR: 'it returns false'. Refute it at one input. -/
def pastSetsWrong : ChangeSpec := { name := "pastSets", fn := fun _ => fun
  | [d1, d2, d3] => { results := [.lit (.bool false)], args := [d1, d2, d3] }
  | _ => none }
def PastSetsWrongFalsely : Prop := pastSetsRow.holds Try.pinned (OpenSpec.ofChange pastSetsWrong)

/-- 'tributarylaw07.PastBack': WHATEVER THE INPUT: true; the input reads as it did. -/
def pastBackSpec : ChangeSpec := { name := "pastBack", fn := fun _ => fun
  | [d1, d2, d3] => { results := [.lit (.bool true)], args := [d1, d2, d3] }
  | _ => none }
def pastBackRow : OpenClaim := { program := "ytdelfhahbngcfaa", sum := "c189833383c3cc8e20df858c70f9166b8e3280698809a0dc5fd6d93c9f53139c", func := "tributary/tributarylaw07.PastBack", spec := "pastBack", unfollowed := true, recurses := true, apart := false }
def PastBackSaid : Prop := pastBackRow.holds Try.pinned (OpenSpec.ofChange pastBackSpec)

/-- ITS FALSE NEIGHBOUR: 'it returns false'. Refute it at one input. -/
def pastBackWrong : ChangeSpec := { name := "pastBack", fn := fun _ => fun
  | [d1, d2, d3] => { results := [.lit (.bool false)], args := [d1, d2, d3] }
  | _ => none }
def PastBackWrongFalsely : Prop := pastBackRow.holds Try.pinned (OpenSpec.ofChange pastBackWrong)

/-- 'tributarylaw07.PastKnown': WHATEVER THE INPUT: true; the input reads as it did. -/
def pastKnownSpec : ChangeSpec := { name := "pastKnown", fn := fun _ => fun
  | [] => { results := [.lit (.bool true)], args := [] }
  | _ => none }
def pastKnownRow : OpenClaim := { program := "ytdelfhahbngcfaa", sum := "c189833383c3cc8e20df858c70f9166b8e3280698809a0dc5fd6d93c9f53139c", func := "tributary/tributarylaw07.PastKnown", spec := "pastKnown", unfollowed := true, recurses := true, apart := false }
def PastKnownSaid : Prop := pastKnownRow.holds Try.pinned (OpenSpec.ofChange pastKnownSpec)

/-- ITS FALSE NEIGHBOUR: 'it returns false'. Refute it at one input. -/
def pastKnownWrong : ChangeSpec := { name := "pastKnown", fn := fun _ => fun
  | [] => { results := [.lit (.bool false)], args := [] }
  | _ => none }
def PastKnownWrongFalsely : Prop := pastKnownRow.holds Try.pinned (OpenSpec.ofChange pastKnownWrong)

/-- 'tributarylaw07.PastHas': WHATEVER THE INPUT: true; the input reads as it did. -/
def pastHasSpec : ChangeSpec := { name := "pastHas", fn := fun _ => fun
  | [d1, d2, d3, d4] => { results := [.lit (.bool true)], args := [d1, d2, d3, d4] }
  | _ => none }
def pastHasRow : OpenClaim := { program := "ytdelfhahbngcfaa", sum := "c189833383c3cc8e20df858c70f9166b8e3280698809a0dc5fd6d93c9f53139c", func := "tributary/tributarylaw07.PastHas", spec := "pastHas", unfollowed := true, recurses := true, apart := false }
def PastHasSaid : Prop := pastHasRow.holds Try.pinned (OpenSpec.ofChange pastHasSpec)

/-- ITS FALSE NEIGHBOUR: 'it returns false'. Refute it at one input. -/
def pastHasWrong : ChangeSpec := { name := "pastHas", fn := fun _ => fun
  | [d1, d2, d3, d4] => { results := [.lit (.bool false)], args := [d1, d2, d3, d4] }
  | _ => none }
def PastHasWrongFalsely : Prop := pastHasRow.holds Try.pinned (OpenSpec.ofChange pastHasWrong)

/- THE SECOND FORM. 'bulk': how many values and letters a reading holds, each counted each time it is reached (what is shared counts as often as it is met; a slice's spare places count too). A statement '..UptoSaid' is the law's where the arguments, and the package variables that the reading takes, are together of bulk at most 1048576: NARROWER than '..Said'. Prove '..Said' where nothing that the law and all that it calls make is longer than what came in: it says more and counts as full. Else prove '..UptoSaid'. A law counts once. -/
mutual
def uptoBulk {H : Type} : DataW H → Nat
  | .lit (.string bytes) => bytes.length + 1
  | .lit _ => 1
  | .nil => 1
  | .ptr d => uptoBulk d + 1
  | .slice elems spare => uptoBulkAll elems + uptoBulkAll spare + 1
  | .agg parts => uptoBulkAll parts + 1
  | .iface _ d => uptoBulk d + 1
  | .map entries => uptoBulkEntries entries + 1
  | .held _ => 1
def uptoBulkAll {H : Type} : List (DataW H) → Nat
  | [] => 0
  | d :: r => uptoBulk d + uptoBulkAll r
def uptoBulkEntries {H : Type} : List (Lit × DataW H) → Nat
  | [] => 0
  | x :: r => uptoBulkEntry x + uptoBulkEntries r
def uptoBulkEntry {H : Type} : Lit × DataW H → Nat
  | (.string bytes, d) => bytes.length + uptoBulk d + 1
  | (_, d) => uptoBulk d + 1
 end
def uptoSmall : (H : Type) → List (DataW H) → Bool := fun _ ds => decide (uptoBulkAll ds ≤ 1048576)
def OpenSpec.upto (s : _root_.Go.ChangeSpec) : _root_.Go.OpenSpec := { _root_.Go.OpenSpec.ofChange s with cond := some uptoSmall }

/-- 'tributarylaw07.PastBytes', WHERE WHAT IT READS IS OF BULK AT MOST 1048576: true; the input reads as it did. -/
def pastBytesUptoRow : OpenClaim := { program := "ytdelfhahbngcfaa", sum := "c189833383c3cc8e20df858c70f9166b8e3280698809a0dc5fd6d93c9f53139c", func := "tributary/tributarylaw07.PastBytes", spec := "pastBytes", unfollowed := true, recurses := true, apart := false, narrowed := true }
def PastBytesUptoSaid : Prop := pastBytesUptoRow.holds Try.pinned (OpenSpec.upto pastBytesSpec)

/-- 'tributarylaw07.PastDots', WHERE WHAT IT READS IS OF BULK AT MOST 1048576: true; the input reads as it did. -/
def pastDotsUptoRow : OpenClaim := { program := "ytdelfhahbngcfaa", sum := "c189833383c3cc8e20df858c70f9166b8e3280698809a0dc5fd6d93c9f53139c", func := "tributary/tributarylaw07.PastDots", spec := "pastDots", unfollowed := true, recurses := true, apart := false, narrowed := true }
def PastDotsUptoSaid : Prop := pastDotsUptoRow.holds Try.pinned (OpenSpec.upto pastDotsSpec)

/-- 'tributarylaw07.PastSets', WHERE WHAT IT READS IS OF BULK AT MOST 1048576: true; the input reads as it did. -/
def pastSetsUptoRow : OpenClaim := { program := "ytdelfhahbngcfaa", sum := "c189833383c3cc8e20df858c70f9166b8e3280698809a0dc5fd6d93c9f53139c", func := "tributary/tributarylaw07.PastSets", spec := "pastSets", unfollowed := true, recurses := true, apart := false, narrowed := true }
def PastSetsUptoSaid : Prop := pastSetsUptoRow.holds Try.pinned (OpenSpec.upto pastSetsSpec)

/-- 'tributarylaw07.PastBack', WHERE WHAT IT READS IS OF BULK AT MOST 1048576: true; the input reads as it did. -/
def pastBackUptoRow : OpenClaim := { program := "ytdelfhahbngcfaa", sum := "c189833383c3cc8e20df858c70f9166b8e3280698809a0dc5fd6d93c9f53139c", func := "tributary/tributarylaw07.PastBack", spec := "pastBack", unfollowed := true, recurses := true, apart := false, narrowed := true }
def PastBackUptoSaid : Prop := pastBackUptoRow.holds Try.pinned (OpenSpec.upto pastBackSpec)

/-- 'tributarylaw07.PastKnown', WHERE WHAT IT READS IS OF BULK AT MOST 1048576: true; the input reads as it did. -/
def pastKnownUptoRow : OpenClaim := { program := "ytdelfhahbngcfaa", sum := "c189833383c3cc8e20df858c70f9166b8e3280698809a0dc5fd6d93c9f53139c", func := "tributary/tributarylaw07.PastKnown", spec := "pastKnown", unfollowed := true, recurses := true, apart := false, narrowed := true }
def PastKnownUptoSaid : Prop := pastKnownUptoRow.holds Try.pinned (OpenSpec.upto pastKnownSpec)

/-- 'tributarylaw07.PastHas', WHERE WHAT IT READS IS OF BULK AT MOST 1048576: true; the input reads as it did. -/
def pastHasUptoRow : OpenClaim := { program := "ytdelfhahbngcfaa", sum := "c189833383c3cc8e20df858c70f9166b8e3280698809a0dc5fd6d93c9f53139c", func := "tributary/tributarylaw07.PastHas", spec := "pastHas", unfollowed := true, recurses := true, apart := false, narrowed := true }
def PastHasUptoSaid : Prop := pastHasUptoRow.holds Try.pinned (OpenSpec.upto pastHasSpec)

end Rows
end Go.Proofs.Ytdelfhahbngcfaa
