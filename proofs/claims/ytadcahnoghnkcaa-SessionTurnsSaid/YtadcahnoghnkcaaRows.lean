/-
  No cell of these rows narrows 'for every input' (looked for: loops, veiled, ifaces, maps, wideKeys, modest, calm, conditions, laid).
  DERIVED. THE GIVEN ROWS OF THIS SEAT. 11 by the template 'for every input the law returns true; each argument reads behind the call as it read before'; 0 by the template 'total and deterministic' (their statements: YtadcahnoghnkcaaTotals.lean).
  GIVEN WITH THE SEED: the statements are not yours to turn. If you find one false, say at which input.
  Laid BY PROGRAM, IN A SANDBOX (cutbox-rows.mjs): the forced cells as the released guide's own fill.sh prints them over the translation cb65fd28366ace9c… (all of the seat's roots in one cut). By AI agents, Wed Nov 11 2026. No macro, syntax, notation, axiom, sorry.
-/
import Derived.Test.YtadcahnoghnkcaaChecked
import GoSem.Claim
import GoSem.ClaimJoined
import GoSem.ClaimMapViews
import Derived.JoinedTies
import Derived.KernelRfl
namespace Go.Proofs.Ytadcahnoghnkcaa
/- THE CELL 'sum', in the pinned program and in every row, IS THE sha256 OF THE DUMP (.gsa) THAT YtadcahnoghnkcaaProg.lean LOADS. Nothing in Lean hashes anything: it is a label: what it is worth is what the hold of that sum in a sandbox is worth. -/
noncomputable def Try.pinned : Pinned := { name := "ytadcahnoghnkcaa", sum := "cb65fd28366ace9ce331dc5d7ce560f732e0c0b1e6c3fd90b238de9f091167aa", checked := Try.checked }
namespace Rows
def none {H : Type} : Left H := { results := [], args := [] }

/-- 'tributarylaw18.SessionKnown': WHATEVER THE INPUT: true; the input reads as it did. -/
def sessionKnownSpec : ChangeSpec := { name := "sessionKnown", fn := fun _ => fun
  | [] => { results := [.lit (.bool true)], args := [] }
  | _ => none }
def sessionKnownRow : OpenClaim := { program := "ytadcahnoghnkcaa", sum := "cb65fd28366ace9ce331dc5d7ce560f732e0c0b1e6c3fd90b238de9f091167aa", func := "tributary/tributarylaw18.SessionKnown", spec := "sessionKnown", inPlace := ["sync/atomic.StoreUint32", "sync/atomic.LoadInt64", "sync/atomic.SwapUint32", "sync/atomic.StoreInt64", "sync/atomic.CompareAndSwapInt64"], apart := false }
def SessionKnownSaid : Prop := sessionKnownRow.holds Try.pinned (OpenSpec.ofChange sessionKnownSpec)

/-- ITS FALSE NEIGHBOUR: 'it returns false'. Refute it at one input. -/
def sessionKnownWrong : ChangeSpec := { name := "sessionKnown", fn := fun _ => fun
  | [] => { results := [.lit (.bool false)], args := [] }
  | _ => none }
def SessionKnownWrongFalsely : Prop := sessionKnownRow.holds Try.pinned (OpenSpec.ofChange sessionKnownWrong)

/-- 'tributarylaw18.SessionFair': WHATEVER THE INPUT: true; the input reads as it did. -/
def sessionFairSpec : ChangeSpec := { name := "sessionFair", fn := fun _ => fun
  | [d] => { results := [.lit (.bool true)], args := [d] }
  | _ => none }
def sessionFairRow : OpenClaim := { program := "ytadcahnoghnkcaa", sum := "cb65fd28366ace9ce331dc5d7ce560f732e0c0b1e6c3fd90b238de9f091167aa", func := "tributary/tributarylaw18.SessionFair", spec := "sessionFair", inPlace := ["sync/atomic.StoreUint32", "sync/atomic.LoadInt64", "sync/atomic.SwapUint32", "sync/atomic.StoreInt64", "sync/atomic.CompareAndSwapInt64"], apart := false }
def SessionFairSaid : Prop := sessionFairRow.holds Try.pinned (OpenSpec.ofChange sessionFairSpec)

/-- ITS FALSE NEIGHBOUR: 'it returns false'. Refute it at one input. -/
def sessionFairWrong : ChangeSpec := { name := "sessionFair", fn := fun _ => fun
  | [d] => { results := [.lit (.bool false)], args := [d] }
  | _ => none }
def SessionFairWrongFalsely : Prop := sessionFairRow.holds Try.pinned (OpenSpec.ofChange sessionFairWrong)

/-- 'tributarylaw18.SessionScript': WHATEVER THE INPUT: true; the input reads as it did. -/
def sessionScriptSpec : ChangeSpec := { name := "sessionScript", fn := fun _ => fun
  | [d1, d2] => { results := [.lit (.bool true)], args := [d1, d2] }
  | _ => none }
def sessionScriptRow : OpenClaim := { program := "ytadcahnoghnkcaa", sum := "cb65fd28366ace9ce331dc5d7ce560f732e0c0b1e6c3fd90b238de9f091167aa", func := "tributary/tributarylaw18.SessionScript", spec := "sessionScript", inPlace := ["sync/atomic.StoreUint32", "sync/atomic.LoadInt64", "sync/atomic.SwapUint32", "sync/atomic.StoreInt64", "sync/atomic.CompareAndSwapInt64"], apart := false }
def SessionScriptSaid : Prop := sessionScriptRow.holds Try.pinned (OpenSpec.ofChange sessionScriptSpec)

/-- ITS FALSE NEIGHBOUR: 'it returns false'. Refute it at one input. -/
def sessionScriptWrong : ChangeSpec := { name := "sessionScript", fn := fun _ => fun
  | [d1, d2] => { results := [.lit (.bool false)], args := [d1, d2] }
  | _ => none }
def SessionScriptWrongFalsely : Prop := sessionScriptRow.holds Try.pinned (OpenSpec.ofChange sessionScriptWrong)

/-- 'tributarylaw18.SessionNone': WHATEVER THE INPUT: true; the input reads as it did. -/
def sessionNoneSpec : ChangeSpec := { name := "sessionNone", fn := fun _ => fun
  | [d] => { results := [.lit (.bool true)], args := [d] }
  | _ => none }
def sessionNoneRow : OpenClaim := { program := "ytadcahnoghnkcaa", sum := "cb65fd28366ace9ce331dc5d7ce560f732e0c0b1e6c3fd90b238de9f091167aa", func := "tributary/tributarylaw18.SessionNone", spec := "sessionNone", inPlace := ["sync/atomic.StoreUint32", "sync/atomic.LoadInt64", "sync/atomic.SwapUint32", "sync/atomic.StoreInt64", "sync/atomic.CompareAndSwapInt64"], apart := false }
def SessionNoneSaid : Prop := sessionNoneRow.holds Try.pinned (OpenSpec.ofChange sessionNoneSpec)

/-- ITS FALSE NEIGHBOUR: 'it returns false'. Refute it at one input. -/
def sessionNoneWrong : ChangeSpec := { name := "sessionNone", fn := fun _ => fun
  | [d] => { results := [.lit (.bool false)], args := [d] }
  | _ => none }
def SessionNoneWrongFalsely : Prop := sessionNoneRow.holds Try.pinned (OpenSpec.ofChange sessionNoneWrong)

/-- 'tributarylaw18.SessionOrder': WHATEVER THE INPUT: true; the input reads as it did. -/
def sessionOrderSpec : ChangeSpec := { name := "sessionOrder", fn := fun _ => fun
  | [d1, d2, d3] => { results := [.lit (.bool true)], args := [d1, d2, d3] }
  | _ => none }
def sessionOrderRow : OpenClaim := { program := "ytadcahnoghnkcaa", sum := "cb65fd28366ace9ce331dc5d7ce560f732e0c0b1e6c3fd90b238de9f091167aa", func := "tributary/tributarylaw18.SessionOrder", spec := "sessionOrder", inPlace := ["sync/atomic.StoreUint32", "sync/atomic.LoadInt64", "sync/atomic.SwapUint32", "sync/atomic.StoreInt64", "sync/atomic.CompareAndSwapInt64"], apart := false }
def SessionOrderSaid : Prop := sessionOrderRow.holds Try.pinned (OpenSpec.ofChange sessionOrderSpec)

/-- ITS FALSE NEIGHBOUR: 'it returns false'. Refute it at one input. -/
def sessionOrderWrong : ChangeSpec := { name := "sessionOrder", fn := fun _ => fun
  | [d1, d2, d3] => { results := [.lit (.bool false)], args := [d1, d2, d3] }
  | _ => none }
def SessionOrderWrongFalsely : Prop := sessionOrderRow.holds Try.pinned (OpenSpec.ofChange sessionOrderWrong)

/-- 'tributarylaw18.SessionTurns': WHATEVER THE INPUT: true; the input reads as it did. -/
def sessionTurnsSpec : ChangeSpec := { name := "sessionTurns", fn := fun _ => fun
  | [d1, d2] => { results := [.lit (.bool true)], args := [d1, d2] }
  | _ => none }
def sessionTurnsRow : OpenClaim := { program := "ytadcahnoghnkcaa", sum := "cb65fd28366ace9ce331dc5d7ce560f732e0c0b1e6c3fd90b238de9f091167aa", func := "tributary/tributarylaw18.SessionTurns", spec := "sessionTurns", inPlace := ["sync/atomic.StoreUint32", "sync/atomic.LoadInt64", "sync/atomic.SwapUint32", "sync/atomic.StoreInt64", "sync/atomic.CompareAndSwapInt64"], apart := false }
def SessionTurnsSaid : Prop := sessionTurnsRow.holds Try.pinned (OpenSpec.ofChange sessionTurnsSpec)

/-- ITS FALSE NEIGHBOUR: 'it returns false'. Refute it at one input. -/
def sessionTurnsWrong : ChangeSpec := { name := "sessionTurns", fn := fun _ => fun
  | [d1, d2] => { results := [.lit (.bool false)], args := [d1, d2] }
  | _ => none }
def SessionTurnsWrongFalsely : Prop := sessionTurnsRow.holds Try.pinned (OpenSpec.ofChange sessionTurnsWrong)

/-- 'tributarylaw27.TopoTells': WHATEVER THE INPUT: true; the input reads as it did. -/
def topoTellsSpec : ChangeSpec := { name := "topoTells", fn := fun _ => fun
  | [d1, d2] => { results := [.lit (.bool true)], args := [d1, d2] }
  | _ => none }
def topoTellsRow : OpenClaim := { program := "ytadcahnoghnkcaa", sum := "cb65fd28366ace9ce331dc5d7ce560f732e0c0b1e6c3fd90b238de9f091167aa", func := "tributary/tributarylaw27.TopoTells", spec := "topoTells", unfollowed := true, recurses := true, apart := false }
def TopoTellsSaid : Prop := topoTellsRow.holds Try.pinned (OpenSpec.ofChange topoTellsSpec)

/-- ITS FALSE NEIGHBOUR: 'it returns false'. Refute it at one input. -/
def topoTellsWrong : ChangeSpec := { name := "topoTells", fn := fun _ => fun
  | [d1, d2] => { results := [.lit (.bool false)], args := [d1, d2] }
  | _ => none }
def TopoTellsWrongFalsely : Prop := topoTellsRow.holds Try.pinned (OpenSpec.ofChange topoTellsWrong)

/-- 'tributarylaw27.TopoChanges': WHATEVER THE INPUT: true; the input reads as it did. -/
def topoChangesSpec : ChangeSpec := { name := "topoChanges", fn := fun _ => fun
  | [d1, d2, d3, d4] => { results := [.lit (.bool true)], args := [d1, d2, d3, d4] }
  | _ => none }
def topoChangesRow : OpenClaim := { program := "ytadcahnoghnkcaa", sum := "cb65fd28366ace9ce331dc5d7ce560f732e0c0b1e6c3fd90b238de9f091167aa", func := "tributary/tributarylaw27.TopoChanges", spec := "topoChanges", unfollowed := true, recurses := true, apart := false }
def TopoChangesSaid : Prop := topoChangesRow.holds Try.pinned (OpenSpec.ofChange topoChangesSpec)

/-- ITS FALSE NEIGHBOUR: 'it returns false'. Refute it at one input. -/
def topoChangesWrong : ChangeSpec := { name := "topoChanges", fn := fun _ => fun
  | [d1, d2, d3, d4] => { results := [.lit (.bool false)], args := [d1, d2, d3, d4] }
  | _ => none }
def TopoChangesWrongFalsely : Prop := topoChangesRow.holds Try.pinned (OpenSpec.ofChange topoChangesWrong)

/-- 'tributarylaw27.TopoKnown': WHATEVER THE INPUT: true; the input reads as it did. -/
def topoKnownSpec : ChangeSpec := { name := "topoKnown", fn := fun _ => fun
  | [] => { results := [.lit (.bool true)], args := [] }
  | _ => none }
def topoKnownRow : OpenClaim := { program := "ytadcahnoghnkcaa", sum := "cb65fd28366ace9ce331dc5d7ce560f732e0c0b1e6c3fd90b238de9f091167aa", func := "tributary/tributarylaw27.TopoKnown", spec := "topoKnown", unfollowed := true, recurses := true, apart := false }
def TopoKnownSaid : Prop := topoKnownRow.holds Try.pinned (OpenSpec.ofChange topoKnownSpec)

/-- ITS FALSE NEIGHBOUR: 'it returns false'. Refute it at one input. -/
def topoKnownWrong : ChangeSpec := { name := "topoKnown", fn := fun _ => fun
  | [] => { results := [.lit (.bool false)], args := [] }
  | _ => none }
def TopoKnownWrongFalsely : Prop := topoKnownRow.holds Try.pinned (OpenSpec.ofChange topoKnownWrong)

/-- 'tributarylaw27.TopoStays': WHATEVER THE INPUT: true; the input reads as it did. -/
def topoStaysSpec : ChangeSpec := { name := "topoStays", fn := fun _ => fun
  | [d] => { results := [.lit (.bool true)], args := [d] }
  | _ => none }
def topoStaysRow : OpenClaim := { program := "ytadcahnoghnkcaa", sum := "cb65fd28366ace9ce331dc5d7ce560f732e0c0b1e6c3fd90b238de9f091167aa", func := "tributary/tributarylaw27.TopoStays", spec := "topoStays", unfollowed := true, recurses := true, apart := false }
def TopoStaysSaid : Prop := topoStaysRow.holds Try.pinned (OpenSpec.ofChange topoStaysSpec)

/-- ITS FALSE NEIGHBOUR: 'it returns false'. Refute it at one input. -/
def topoStaysWrong : ChangeSpec := { name := "topoStays", fn := fun _ => fun
  | [d] => { results := [.lit (.bool false)], args := [d] }
  | _ => none }
def TopoStaysWrongFalsely : Prop := topoStaysRow.holds Try.pinned (OpenSpec.ofChange topoStaysWrong)

/-- 'tributarylaw27.TopoLoops': WHATEVER THE INPUT: true; the input reads as it did. -/
def topoLoopsSpec : ChangeSpec := { name := "topoLoops", fn := fun _ => fun
  | [d1, d2, d3] => { results := [.lit (.bool true)], args := [d1, d2, d3] }
  | _ => none }
def topoLoopsRow : OpenClaim := { program := "ytadcahnoghnkcaa", sum := "cb65fd28366ace9ce331dc5d7ce560f732e0c0b1e6c3fd90b238de9f091167aa", func := "tributary/tributarylaw27.TopoLoops", spec := "topoLoops", unfollowed := true, recurses := true, apart := false }
def TopoLoopsSaid : Prop := topoLoopsRow.holds Try.pinned (OpenSpec.ofChange topoLoopsSpec)

/-- ITS FALSE NEIGHBOUR: 'it returns false'. Refute it at one input. -/
def topoLoopsWrong : ChangeSpec := { name := "topoLoops", fn := fun _ => fun
  | [d1, d2, d3] => { results := [.lit (.bool false)], args := [d1, d2, d3] }
  | _ => none }
def TopoLoopsWrongFalsely : Prop := topoLoopsRow.holds Try.pinned (OpenSpec.ofChange topoLoopsWrong)

/- THE SECOND FORM. 'bulk': how many values and letters a reading holds, each counted each time it is reached (what is shared counts as often as it is met; a slice's spare places count too). A statement '..UptoSaid' is the law's where the arguments, and the package variables that the reading takes, are together of bulk at most 1048576: NARROWER than '..Said'. Prove '..Said' where nothing that the law and all that it calls make is longer than what came in: it says more and counts as full. Else prove '..UptoSaid'. A law counts once. -/
mutual
def uptoBulk {H : Type} : DataW H → Nat
  | .lit (.string bytes) => bytes.length + 1
  | .lit _ => 1
  | .nil => 1
  | .ptr d => uptoBulk d + 1
  | .slice elems spare => uptoBulkAll elems + uptoBulkAll spare + 1
  | .agg parts => uptoBulkAll parts + 1
  | .iface _ d => uptoBulk d + 1
  | .map entries => uptoBulkEntries entries + 1
  | .held _ => 1
def uptoBulkAll {H : Type} : List (DataW H) → Nat
  | [] => 0
  | d :: r => uptoBulk d + uptoBulkAll r
def uptoBulkEntries {H : Type} : List (Lit × DataW H) → Nat
  | [] => 0
  | x :: r => uptoBulkEntry x + uptoBulkEntries r
def uptoBulkEntry {H : Type} : Lit × DataW H → Nat
  | (.string bytes, d) => bytes.length + uptoBulk d + 1
  | (_, d) => uptoBulk d + 1
 end
def uptoSmall : (H : Type) → List (DataW H) → Bool := fun _ ds => decide (uptoBulkAll ds ≤ 1048576)
def OpenSpec.upto (s : _root_.Go.ChangeSpec) : _root_.Go.OpenSpec := { _root_.Go.OpenSpec.ofChange s with cond := some uptoSmall }

/-- 'tributarylaw18.SessionKnown', WHERE WHAT IT READS IS OF BULK AT MOST 1048576: true; the input reads as it did. -/
def sessionKnownUptoRow : OpenClaim := { program := "ytadcahnoghnkcaa", sum := "cb65fd28366ace9ce331dc5d7ce560f732e0c0b1e6c3fd90b238de9f091167aa", func := "tributary/tributarylaw18.SessionKnown", spec := "sessionKnown", inPlace := ["sync/atomic.StoreUint32", "sync/atomic.LoadInt64", "sync/atomic.SwapUint32", "sync/atomic.StoreInt64", "sync/atomic.CompareAndSwapInt64"], apart := false, narrowed := true }
def SessionKnownUptoSaid : Prop := sessionKnownUptoRow.holds Try.pinned (OpenSpec.upto sessionKnownSpec)

/-- 'tributarylaw18.SessionFair', WHERE WHAT IT READS IS OF BULK AT MOST 1048576: true; the input reads as it did. -/
def sessionFairUptoRow : OpenClaim := { program := "ytadcahnoghnkcaa", sum := "cb65fd28366ace9ce331dc5d7ce560f732e0c0b1e6c3fd90b238de9f091167aa", func := "tributary/tributarylaw18.SessionFair", spec := "sessionFair", inPlace := ["sync/atomic.StoreUint32", "sync/atomic.LoadInt64", "sync/atomic.SwapUint32", "sync/atomic.StoreInt64", "sync/atomic.CompareAndSwapInt64"], apart := false, narrowed := true }
def SessionFairUptoSaid : Prop := sessionFairUptoRow.holds Try.pinned (OpenSpec.upto sessionFairSpec)

/-- 'tributarylaw18.SessionScript', WHERE WHAT IT READS IS OF BULK AT MOST 1048576: true; the input reads as it did. -/
def sessionScriptUptoRow : OpenClaim := { program := "ytadcahnoghnkcaa", sum := "cb65fd28366ace9ce331dc5d7ce560f732e0c0b1e6c3fd90b238de9f091167aa", func := "tributary/tributarylaw18.SessionScript", spec := "sessionScript", inPlace := ["sync/atomic.StoreUint32", "sync/atomic.LoadInt64", "sync/atomic.SwapUint32", "sync/atomic.StoreInt64", "sync/atomic.CompareAndSwapInt64"], apart := false, narrowed := true }
def SessionScriptUptoSaid : Prop := sessionScriptUptoRow.holds Try.pinned (OpenSpec.upto sessionScriptSpec)

/-- 'tributarylaw18.SessionNone', WHERE WHAT IT READS IS OF BULK AT MOST 1048576: true; the input reads as it did. -/
def sessionNoneUptoRow : OpenClaim := { program := "ytadcahnoghnkcaa", sum := "cb65fd28366ace9ce331dc5d7ce560f732e0c0b1e6c3fd90b238de9f091167aa", func := "tributary/tributarylaw18.SessionNone", spec := "sessionNone", inPlace := ["sync/atomic.StoreUint32", "sync/atomic.LoadInt64", "sync/atomic.SwapUint32", "sync/atomic.StoreInt64", "sync/atomic.CompareAndSwapInt64"], apart := false, narrowed := true }
def SessionNoneUptoSaid : Prop := sessionNoneUptoRow.holds Try.pinned (OpenSpec.upto sessionNoneSpec)

/-- 'tributarylaw18.SessionOrder', WHERE WHAT IT READS IS OF BULK AT MOST 1048576: true; the input reads as it did. -/
def sessionOrderUptoRow : OpenClaim := { program := "ytadcahnoghnkcaa", sum := "cb65fd28366ace9ce331dc5d7ce560f732e0c0b1e6c3fd90b238de9f091167aa", func := "tributary/tributarylaw18.SessionOrder", spec := "sessionOrder", inPlace := ["sync/atomic.StoreUint32", "sync/atomic.LoadInt64", "sync/atomic.SwapUint32", "sync/atomic.StoreInt64", "sync/atomic.CompareAndSwapInt64"], apart := false, narrowed := true }
def SessionOrderUptoSaid : Prop := sessionOrderUptoRow.holds Try.pinned (OpenSpec.upto sessionOrderSpec)

/-- 'tributarylaw18.SessionTurns', WHERE WHAT IT READS IS OF BULK AT MOST 1048576: true; the input reads as it did. -/
def sessionTurnsUptoRow : OpenClaim := { program := "ytadcahnoghnkcaa", sum := "cb65fd28366ace9ce331dc5d7ce560f732e0c0b1e6c3fd90b238de9f091167aa", func := "tributary/tributarylaw18.SessionTurns", spec := "sessionTurns", inPlace := ["sync/atomic.StoreUint32", "sync/atomic.LoadInt64", "sync/atomic.SwapUint32", "sync/atomic.StoreInt64", "sync/atomic.CompareAndSwapInt64"], apart := false, narrowed := true }
def SessionTurnsUptoSaid : Prop := sessionTurnsUptoRow.holds Try.pinned (OpenSpec.upto sessionTurnsSpec)

/-- 'tributarylaw27.TopoTells', WHERE WHAT IT READS IS OF BULK AT MOST 1048576: true; the input reads as it did. -/
def topoTellsUptoRow : OpenClaim := { program := "ytadcahnoghnkcaa", sum := "cb65fd28366ace9ce331dc5d7ce560f732e0c0b1e6c3fd90b238de9f091167aa", func := "tributary/tributarylaw27.TopoTells", spec := "topoTells", unfollowed := true, recurses := true, apart := false, narrowed := true }
def TopoTellsUptoSaid : Prop := topoTellsUptoRow.holds Try.pinned (OpenSpec.upto topoTellsSpec)

/-- 'tributarylaw27.TopoChanges', WHERE WHAT IT READS IS OF BULK AT MOST 1048576: true; the input reads as it did. -/
def topoChangesUptoRow : OpenClaim := { program := "ytadcahnoghnkcaa", sum := "cb65fd28366ace9ce331dc5d7ce560f732e0c0b1e6c3fd90b238de9f091167aa", func := "tributary/tributarylaw27.TopoChanges", spec := "topoChanges", unfollowed := true, recurses := true, apart := false, narrowed := true }
def TopoChangesUptoSaid : Prop := topoChangesUptoRow.holds Try.pinned (OpenSpec.upto topoChangesSpec)

/-- 'tributarylaw27.TopoKnown', WHERE WHAT IT READS IS OF BULK AT MOST 1048576: true; the input reads as it did. -/
def topoKnownUptoRow : OpenClaim := { program := "ytadcahnoghnkcaa", sum := "cb65fd28366ace9ce331dc5d7ce560f732e0c0b1e6c3fd90b238de9f091167aa", func := "tributary/tributarylaw27.TopoKnown", spec := "topoKnown", unfollowed := true, recurses := true, apart := false, narrowed := true }
def TopoKnownUptoSaid : Prop := topoKnownUptoRow.holds Try.pinned (OpenSpec.upto topoKnownSpec)

/-- 'tributarylaw27.TopoStays', WHERE WHAT IT READS IS OF BULK AT MOST 1048576: true; the input reads as it did. -/
def topoStaysUptoRow : OpenClaim := { program := "ytadcahnoghnkcaa", sum := "cb65fd28366ace9ce331dc5d7ce560f732e0c0b1e6c3fd90b238de9f091167aa", func := "tributary/tributarylaw27.TopoStays", spec := "topoStays", unfollowed := true, recurses := true, apart := false, narrowed := true }
def TopoStaysUptoSaid : Prop := topoStaysUptoRow.holds Try.pinned (OpenSpec.upto topoStaysSpec)

/-- 'tributarylaw27.TopoLoops', WHERE WHAT IT READS IS OF BULK AT MOST 1048576: true; the input reads as it did. -/
def topoLoopsUptoRow : OpenClaim := { program := "ytadcahnoghnkcaa", sum := "cb65fd28366ace9ce331dc5d7ce560f732e0c0b1e6c3fd90b238de9f091167aa", func := "tributary/tributarylaw27.TopoLoops", spec := "topoLoops", unfollowed := true, recurses := true, apart := false, narrowed := true }
def TopoLoopsUptoSaid : Prop := topoLoopsUptoRow.holds Try.pinned (OpenSpec.upto topoLoopsSpec)

end Rows
end Go.Proofs.Ytadcahnoghnkcaa
