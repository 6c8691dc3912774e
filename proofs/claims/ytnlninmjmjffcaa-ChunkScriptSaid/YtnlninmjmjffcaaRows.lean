/-
  No cell of these rows narrows 'for every input' (looked for: loops, veiled, ifaces, maps, wideKeys, modest, calm, conditions, laid).
  DERIVED. THE GIVEN ROWS OF THIS SEAT. 12 by the template 'for every input the law returns true; each argument reads behind the call as it read before'; 0 by the template 'total and deterministic' (their statements: YtnlninmjmjffcaaTotals.lean).
  GIVEN WITH THE SEED: the statements are not yours to turn. If you find one false, say at which input.
  Laid BY PROGRAM, IN A SANDBOX (cutbox-rows.mjs): the forced cells as the released guide's own fill.sh prints them over the translation 431d65971e3bba18… (all of the seat's roots in one cut). By AI agents, Wed Nov 11 2026. No macro, syntax, notation, axiom, sorry.
-/
import Derived.Test.YtnlninmjmjffcaaChecked
import GoSem.Claim
import GoSem.ClaimJoined
import GoSem.ClaimMapViews
import Derived.JoinedTies
import Derived.KernelRfl
namespace Go.Proofs.Ytnlninmjmjffcaa
/- THE CELL 'sum', in the pinned program and in every row, IS THE sha256 OF THE DUMP (.gsa) THAT YtnlninmjmjffcaaProg.lean LOADS. Nothing in Lean hashes anything: it is a label: what it is worth is what the hold of that sum in a sandbox is worth. -/
noncomputable def Try.pinned : Pinned := { name := "ytnlninmjmjffcaa", sum := "431d65971e3bba187efd0adafe7c8d30849ea65ef40aab4bff4edd794f75a407", checked := Try.checked }
namespace Rows
def none {H : Type} : Left H := { results := [], args := [] }

/-- 'tributarylaw02.PrintSums': WHATEVER THE INPUT: true; the input reads as it did. -/
def printSumsSpec : ChangeSpec := { name := "printSums", fn := fun _ => fun
  | [d1, d2, d3] => { results := [.lit (.bool true)], args := [d1, d2, d3] }
  | _ => none }
def printSumsRow : OpenClaim := { program := "ytnlninmjmjffcaa", sum := "431d65971e3bba187efd0adafe7c8d30849ea65ef40aab4bff4edd794f75a407", func := "tributary/tributarylaw02.PrintSums", spec := "printSums", unfollowed := true, recurses := true, apart := false }
def PrintSumsSaid : Prop := printSumsRow.holds Try.pinned (OpenSpec.ofChange printSumsSpec)

/-- ITS FALSE NEIGHBOUR: 'it returns false'. Refute it at one input. -/
def printSumsWrong : ChangeSpec := { name := "printSums", fn := fun _ => fun
  | [d1, d2, d3] => { results := [.lit (.bool false)], args := [d1, d2, d3] }
  | _ => none }
def PrintSumsWrongFalsely : Prop := printSumsRow.holds Try.pinned (OpenSpec.ofChange printSumsWrong)

/-- 'tributarylaw02.PrintChanged': WHATEVER THE INPUT: true; the input reads as it did. -/
def printChangedSpec : ChangeSpec := { name := "printChanged", fn := fun _ => fun
  | [d1, d2, d3] => { results := [.lit (.bool true)], args := [d1, d2, d3] }
  | _ => none }
def printChangedRow : OpenClaim := { program := "ytnlninmjmjffcaa", sum := "431d65971e3bba187efd0adafe7c8d30849ea65ef40aab4bff4edd794f75a407", func := "tributary/tributarylaw02.PrintChanged", spec := "printChanged", unfollowed := true, recurses := true, apart := false }
def PrintChangedSaid : Prop := printChangedRow.holds Try.pinned (OpenSpec.ofChange printChangedSpec)

/-- ITS FALSE NEIGHBOUR: 'it returns false'. Refute it at one input. -/
def printChangedWrong : ChangeSpec := { name := "printChanged", fn := fun _ => fun
  | [d1, d2, d3] => { results := [.lit (.bool false)], args := [d1, d2, d3] }
  | _ => none }
def PrintChangedWrongFalsely : Prop := printChangedRow.holds Try.pinned (OpenSpec.ofChange printChangedWrong)

/-- 'tributarylaw02.PrintTexts': WHATEVER THE INPUT: true; the input reads as it did. -/
def printTextsSpec : ChangeSpec := { name := "printTexts", fn := fun _ => fun
  | [d1, d2] => { results := [.lit (.bool true)], args := [d1, d2] }
  | _ => none }
def printTextsRow : OpenClaim := { program := "ytnlninmjmjffcaa", sum := "431d65971e3bba187efd0adafe7c8d30849ea65ef40aab4bff4edd794f75a407", func := "tributary/tributarylaw02.PrintTexts", spec := "printTexts", unfollowed := true, recurses := true, apart := false }
def PrintTextsSaid : Prop := printTextsRow.holds Try.pinned (OpenSpec.ofChange printTextsSpec)

/-- ITS FALSE NEIGHBOUR: 'it returns false'. Refute it at one input. -/
def printTextsWrong : ChangeSpec := { name := "printTexts", fn := fun _ => fun
  | [d1, d2] => { results := [.lit (.bool false)], args := [d1, d2] }
  | _ => none }
def PrintTextsWrongFalsely : Prop := printTextsRow.holds Try.pinned (OpenSpec.ofChange printTextsWrong)

/-- 'tributarylaw02.PrintKnown': WHATEVER THE INPUT: true; the input reads as it did. -/
def printKnownSpec : ChangeSpec := { name := "printKnown", fn := fun _ => fun
  | [] => { results := [.lit (.bool true)], args := [] }
  | _ => none }
def printKnownRow : OpenClaim := { program := "ytnlninmjmjffcaa", sum := "431d65971e3bba187efd0adafe7c8d30849ea65ef40aab4bff4edd794f75a407", func := "tributary/tributarylaw02.PrintKnown", spec := "printKnown", unfollowed := true, recurses := true, apart := false }
def PrintKnownSaid : Prop := printKnownRow.holds Try.pinned (OpenSpec.ofChange printKnownSpec)

/-- ITS FALSE NEIGHBOUR: 'it returns false'. Refute it at one input. -/
def printKnownWrong : ChangeSpec := { name := "printKnown", fn := fun _ => fun
  | [] => { results := [.lit (.bool false)], args := [] }
  | _ => none }
def PrintKnownWrongFalsely : Prop := printKnownRow.holds Try.pinned (OpenSpec.ofChange printKnownWrong)

/-- 'tributarylaw02.PrintPieces': WHATEVER THE INPUT: true; the input reads as it did. -/
def printPiecesSpec : ChangeSpec := { name := "printPieces", fn := fun _ => fun
  | [d1, d2] => { results := [.lit (.bool true)], args := [d1, d2] }
  | _ => none }
def printPiecesRow : OpenClaim := { program := "ytnlninmjmjffcaa", sum := "431d65971e3bba187efd0adafe7c8d30849ea65ef40aab4bff4edd794f75a407", func := "tributary/tributarylaw02.PrintPieces", spec := "printPieces", unfollowed := true, recurses := true, apart := false }
def PrintPiecesSaid : Prop := printPiecesRow.holds Try.pinned (OpenSpec.ofChange printPiecesSpec)

/-- ITS FALSE NEIGHBOUR: 'it returns false'. Refute it at one input. -/
def printPiecesWrong : ChangeSpec := { name := "printPieces", fn := fun _ => fun
  | [d1, d2] => { results := [.lit (.bool false)], args := [d1, d2] }
  | _ => none }
def PrintPiecesWrongFalsely : Prop := printPiecesRow.holds Try.pinned (OpenSpec.ofChange printPiecesWrong)

/-- 'tributarylaw02.PrintBack': WHATEVER THE INPUT: true; the input reads as it did. -/
def printBackSpec : ChangeSpec := { name := "printBack", fn := fun _ => fun
  | [d1, d2] => { results := [.lit (.bool true)], args := [d1, d2] }
  | _ => none }
def printBackRow : OpenClaim := { program := "ytnlninmjmjffcaa", sum := "431d65971e3bba187efd0adafe7c8d30849ea65ef40aab4bff4edd794f75a407", func := "tributary/tributarylaw02.PrintBack", spec := "printBack", unfollowed := true, recurses := true, apart := false }
def PrintBackSaid : Prop := printBackRow.holds Try.pinned (OpenSpec.ofChange printBackSpec)

/-- ITS FALSE NEIGHBOUR: 'it returns false'. Refute it at one input. -/
def printBackWrong : ChangeSpec := { name := "printBack", fn := fun _ => fun
  | [d1, d2] => { results := [.lit (.bool false)], args := [d1, d2] }
  | _ => none }
def PrintBackWrongFalsely : Prop := printBackRow.holds Try.pinned (OpenSpec.ofChange printBackWrong)

/-- 'tributarylaw19.ChunkCuts': WHATEVER THE INPUT: true; the input reads as it did. -/
def chunkCutsSpec : ChangeSpec := { name := "chunkCuts", fn := fun _ => fun
  | [d1, d2] => { results := [.lit (.bool true)], args := [d1, d2] }
  | _ => none }
def chunkCutsRow : OpenClaim := { program := "ytnlninmjmjffcaa", sum := "431d65971e3bba187efd0adafe7c8d30849ea65ef40aab4bff4edd794f75a407", func := "tributary/tributarylaw19.ChunkCuts", spec := "chunkCuts", unfollowed := true, recurses := true, apart := false }
def ChunkCutsSaid : Prop := chunkCutsRow.holds Try.pinned (OpenSpec.ofChange chunkCutsSpec)

/-- ITS FALSE NEIGHBOUR: 'it returns false'. Refute it at one input. -/
def chunkCutsWrong : ChangeSpec := { name := "chunkCuts", fn := fun _ => fun
  | [d1, d2] => { results := [.lit (.bool false)], args := [d1, d2] }
  | _ => none }
def ChunkCutsWrongFalsely : Prop := chunkCutsRow.holds Try.pinned (OpenSpec.ofChange chunkCutsWrong)

/-- 'tributarylaw19.ChunkScript': WHATEVER THE INPUT: true; the input reads as it did. -/
def chunkScriptSpec : ChangeSpec := { name := "chunkScript", fn := fun _ => fun
  | [d1, d2, d3] => { results := [.lit (.bool true)], args := [d1, d2, d3] }
  | _ => none }
def chunkScriptRow : OpenClaim := { program := "ytnlninmjmjffcaa", sum := "431d65971e3bba187efd0adafe7c8d30849ea65ef40aab4bff4edd794f75a407", func := "tributary/tributarylaw19.ChunkScript", spec := "chunkScript", unfollowed := true, recurses := true, apart := false }
def ChunkScriptSaid : Prop := chunkScriptRow.holds Try.pinned (OpenSpec.ofChange chunkScriptSpec)

/-- ITS FALSE NEIGHBOUR: 'it returns false'. Refute it at one input. -/
def chunkScriptWrong : ChangeSpec := { name := "chunkScript", fn := fun _ => fun
  | [d1, d2, d3] => { results := [.lit (.bool false)], args := [d1, d2, d3] }
  | _ => none }
def ChunkScriptWrongFalsely : Prop := chunkScriptRow.holds Try.pinned (OpenSpec.ofChange chunkScriptWrong)

/-- 'tributarylaw19.ChunkNone': WHATEVER THE INPUT: true; the input reads as it did. -/
def chunkNoneSpec : ChangeSpec := { name := "chunkNone", fn := fun _ => fun
  | [d] => { results := [.lit (.bool true)], args := [d] }
  | _ => none }
def chunkNoneRow : OpenClaim := { program := "ytnlninmjmjffcaa", sum := "431d65971e3bba187efd0adafe7c8d30849ea65ef40aab4bff4edd794f75a407", func := "tributary/tributarylaw19.ChunkNone", spec := "chunkNone", unfollowed := true, recurses := true, apart := false }
def ChunkNoneSaid : Prop := chunkNoneRow.holds Try.pinned (OpenSpec.ofChange chunkNoneSpec)

/-- ITS FALSE NEIGHBOUR: 'it returns false'. Refute it at one input. -/
def chunkNoneWrong : ChangeSpec := { name := "chunkNone", fn := fun _ => fun
  | [d] => { results := [.lit (.bool false)], args := [d] }
  | _ => none }
def ChunkNoneWrongFalsely : Prop := chunkNoneRow.holds Try.pinned (OpenSpec.ofChange chunkNoneWrong)

/-- 'tributarylaw19.ChunkKnown': WHATEVER THE INPUT: true; the input reads as it did. -/
def chunkKnownSpec : ChangeSpec := { name := "chunkKnown", fn := fun _ => fun
  | [] => { results := [.lit (.bool true)], args := [] }
  | _ => none }
def chunkKnownRow : OpenClaim := { program := "ytnlninmjmjffcaa", sum := "431d65971e3bba187efd0adafe7c8d30849ea65ef40aab4bff4edd794f75a407", func := "tributary/tributarylaw19.ChunkKnown", spec := "chunkKnown", unfollowed := true, recurses := true, apart := false }
def ChunkKnownSaid : Prop := chunkKnownRow.holds Try.pinned (OpenSpec.ofChange chunkKnownSpec)

/-- ITS FALSE NEIGHBOUR: 'it returns false'. Refute it at one input. -/
def chunkKnownWrong : ChangeSpec := { name := "chunkKnown", fn := fun _ => fun
  | [] => { results := [.lit (.bool false)], args := [] }
  | _ => none }
def ChunkKnownWrongFalsely : Prop := chunkKnownRow.holds Try.pinned (OpenSpec.ofChange chunkKnownWrong)

/-- 'tributarylaw19.ChunkBack': WHATEVER THE INPUT: true; the input reads as it did. -/
def chunkBackSpec : ChangeSpec := { name := "chunkBack", fn := fun _ => fun
  | [d1, d2, d3, d4] => { results := [.lit (.bool true)], args := [d1, d2, d3, d4] }
  | _ => none }
def chunkBackRow : OpenClaim := { program := "ytnlninmjmjffcaa", sum := "431d65971e3bba187efd0adafe7c8d30849ea65ef40aab4bff4edd794f75a407", func := "tributary/tributarylaw19.ChunkBack", spec := "chunkBack", unfollowed := true, recurses := true, apart := false }
def ChunkBackSaid : Prop := chunkBackRow.holds Try.pinned (OpenSpec.ofChange chunkBackSpec)

/-- ITS FALSE NEIGHBOUR: 'it returns false'. Refute it at one input. -/
def chunkBackWrong : ChangeSpec := { name := "chunkBack", fn := fun _ => fun
  | [d1, d2, d3, d4] => { results := [.lit (.bool false)], args := [d1, d2, d3, d4] }
  | _ => none }
def ChunkBackWrongFalsely : Prop := chunkBackRow.holds Try.pinned (OpenSpec.ofChange chunkBackWrong)

/-- 'tributarylaw19.ChunkRoom': WHATEVER THE INPUT: true; the input reads as it did. -/
def chunkRoomSpec : ChangeSpec := { name := "chunkRoom", fn := fun _ => fun
  | [d1, d2] => { results := [.lit (.bool true)], args := [d1, d2] }
  | _ => none }
def chunkRoomRow : OpenClaim := { program := "ytnlninmjmjffcaa", sum := "431d65971e3bba187efd0adafe7c8d30849ea65ef40aab4bff4edd794f75a407", func := "tributary/tributarylaw19.ChunkRoom", spec := "chunkRoom", unfollowed := true, recurses := true, apart := false }
def ChunkRoomSaid : Prop := chunkRoomRow.holds Try.pinned (OpenSpec.ofChange chunkRoomSpec)

/-- ITS FALSE NEIGHBOUR: 'it returns false'. Refute it at one input. -/
def chunkRoomWrong : ChangeSpec := { name := "chunkRoom", fn := fun _ => fun
  | [d1, d2] => { results := [.lit (.bool false)], args := [d1, d2] }
  | _ => none }
def ChunkRoomWrongFalsely : Prop := chunkRoomRow.holds Try.pinned (OpenSpec.ofChange chunkRoomWrong)

/- THE SECOND FORM. 'bulk': how many values and letters a reading holds, each counted each time it is reached (what is shared counts as often as it is met; a slice's spare places count too). A statement '..UptoSaid' is the law's where the arguments, and the package variables that the reading takes, are together of bulk at most 1048576: NARROWER than '..Said'. Prove '..Said' where nothing that the law and all that it calls make is longer than what came in: it says more and counts as full. Else prove '..UptoSaid'. A law counts once. -/
mutual
def uptoBulk {H : Type} : DataW H → Nat
  | .lit (.string bytes) => bytes.length + 1
  | .lit _ => 1
  | .nil => 1
  | .ptr d => uptoBulk d + 1
  | .slice elems spare => uptoBulkAll elems + uptoBulkAll spare + 1
  | .agg parts => uptoBulkAll parts + 1
  | .iface _ d => uptoBulk d + 1
  | .map entries => uptoBulkEntries entries + 1
  | .held _ => 1
def uptoBulkAll {H : Type} : List (DataW H) → Nat
  | [] => 0
  | d :: r => uptoBulk d + uptoBulkAll r
def uptoBulkEntries {H : Type} : List (Lit × DataW H) → Nat
  | [] => 0
  | x :: r => uptoBulkEntry x + uptoBulkEntries r
def uptoBulkEntry {H : Type} : Lit × DataW H → Nat
  | (.string bytes, d) => bytes.length + uptoBulk d + 1
  | (_, d) => uptoBulk d + 1
 end
def uptoSmall : (H : Type) → List (DataW H) → Bool := fun _ ds => decide (uptoBulkAll ds ≤ 1048576)
def OpenSpec.upto (s : _root_.Go.ChangeSpec) : _root_.Go.OpenSpec := { _root_.Go.OpenSpec.ofChange s with cond := some uptoSmall }

/-- 'tributarylaw02.PrintSums', WHERE WHAT IT READS IS OF BULK AT MOST 1048576: true; the input reads as it did. -/
def printSumsUptoRow : OpenClaim := { program := "ytnlninmjmjffcaa", sum := "431d65971e3bba187efd0adafe7c8d30849ea65ef40aab4bff4edd794f75a407", func := "tributary/tributarylaw02.PrintSums", spec := "printSums", unfollowed := true, recurses := true, apart := false, narrowed := true }
def PrintSumsUptoSaid : Prop := printSumsUptoRow.holds Try.pinned (OpenSpec.upto printSumsSpec)

/-- 'tributarylaw02.PrintChanged', WHERE WHAT IT READS IS OF BULK AT MOST 1048576: true; the input reads as it did. -/
def printChangedUptoRow : OpenClaim := { program := "ytnlninmjmjffcaa", sum := "431d65971e3bba187efd0adafe7c8d30849ea65ef40aab4bff4edd794f75a407", func := "tributary/tributarylaw02.PrintChanged", spec := "printChanged", unfollowed := true, recurses := true, apart := false, narrowed := true }
def PrintChangedUptoSaid : Prop := printChangedUptoRow.holds Try.pinned (OpenSpec.upto printChangedSpec)

/-- 'tributarylaw02.PrintTexts', WHERE WHAT IT READS IS OF BULK AT MOST 1048576: true; the input reads as it did. -/
def printTextsUptoRow : OpenClaim := { program := "ytnlninmjmjffcaa", sum := "431d65971e3bba187efd0adafe7c8d30849ea65ef40aab4bff4edd794f75a407", func := "tributary/tributarylaw02.PrintTexts", spec := "printTexts", unfollowed := true, recurses := true, apart := false, narrowed := true }
def PrintTextsUptoSaid : Prop := printTextsUptoRow.holds Try.pinned (OpenSpec.upto printTextsSpec)

/-- 'tributarylaw02.PrintKnown', WHERE WHAT IT READS IS OF BULK AT MOST 1048576: true; the input reads as it did. -/
def printKnownUptoRow : OpenClaim := { program := "ytnlninmjmjffcaa", sum := "431d65971e3bba187efd0adafe7c8d30849ea65ef40aab4bff4edd794f75a407", func := "tributary/tributarylaw02.PrintKnown", spec := "printKnown", unfollowed := true, recurses := true, apart := false, narrowed := true }
def PrintKnownUptoSaid : Prop := printKnownUptoRow.holds Try.pinned (OpenSpec.upto printKnownSpec)

/-- 'tributarylaw02.PrintPieces', WHERE WHAT IT READS IS OF BULK AT MOST 1048576: true; the input reads as it did. -/
def printPiecesUptoRow : OpenClaim := { program := "ytnlninmjmjffcaa", sum := "431d65971e3bba187efd0adafe7c8d30849ea65ef40aab4bff4edd794f75a407", func := "tributary/tributarylaw02.PrintPieces", spec := "printPieces", unfollowed := true, recurses := true, apart := false, narrowed := true }
def PrintPiecesUptoSaid : Prop := printPiecesUptoRow.holds Try.pinned (OpenSpec.upto printPiecesSpec)

/-- 'tributarylaw02.PrintBack', WHERE WHAT IT READS IS OF BULK AT MOST 1048576: true; the input reads as it did. -/
def printBackUptoRow : OpenClaim := { program := "ytnlninmjmjffcaa", sum := "431d65971e3bba187efd0adafe7c8d30849ea65ef40aab4bff4edd794f75a407", func := "tributary/tributarylaw02.PrintBack", spec := "printBack", unfollowed := true, recurses := true, apart := false, narrowed := true }
def PrintBackUptoSaid : Prop := printBackUptoRow.holds Try.pinned (OpenSpec.upto printBackSpec)

/-- 'tributarylaw19.ChunkCuts', WHERE WHAT IT READS IS OF BULK AT MOST 1048576: true; the input reads as it did. -/
def chunkCutsUptoRow : OpenClaim := { program := "ytnlninmjmjffcaa", sum := "431d65971e3bba187efd0adafe7c8d30849ea65ef40aab4bff4edd794f75a407", func := "tributary/tributarylaw19.ChunkCuts", spec := "chunkCuts", unfollowed := true, recurses := true, apart := false, narrowed := true }
def ChunkCutsUptoSaid : Prop := chunkCutsUptoRow.holds Try.pinned (OpenSpec.upto chunkCutsSpec)

/-- 'tributarylaw19.ChunkScript', WHERE WHAT IT READS IS OF BULK AT MOST 1048576: true; the input reads as it did. -/
def chunkScriptUptoRow : OpenClaim := { program := "ytnlninmjmjffcaa", sum := "431d65971e3bba187efd0adafe7c8d30849ea65ef40aab4bff4edd794f75a407", func := "tributary/tributarylaw19.ChunkScript", spec := "chunkScript", unfollowed := true, recurses := true, apart := false, narrowed := true }
def ChunkScriptUptoSaid : Prop := chunkScriptUptoRow.holds Try.pinned (OpenSpec.upto chunkScriptSpec)

/-- 'tributarylaw19.ChunkNone', WHERE WHAT IT READS IS OF BULK AT MOST 1048576: true; the input reads as it did. -/
def chunkNoneUptoRow : OpenClaim := { program := "ytnlninmjmjffcaa", sum := "431d65971e3bba187efd0adafe7c8d30849ea65ef40aab4bff4edd794f75a407", func := "tributary/tributarylaw19.ChunkNone", spec := "chunkNone", unfollowed := true, recurses := true, apart := false, narrowed := true }
def ChunkNoneUptoSaid : Prop := chunkNoneUptoRow.holds Try.pinned (OpenSpec.upto chunkNoneSpec)

/-- 'tributarylaw19.ChunkKnown', WHERE WHAT IT READS IS OF BULK AT MOST 1048576: true; the input reads as it did. -/
def chunkKnownUptoRow : OpenClaim := { program := "ytnlninmjmjffcaa", sum := "431d65971e3bba187efd0adafe7c8d30849ea65ef40aab4bff4edd794f75a407", func := "tributary/tributarylaw19.ChunkKnown", spec := "chunkKnown", unfollowed := true, recurses := true, apart := false, narrowed := true }
def ChunkKnownUptoSaid : Prop := chunkKnownUptoRow.holds Try.pinned (OpenSpec.upto chunkKnownSpec)

/-- 'tributarylaw19.ChunkBack', WHERE WHAT IT READS IS OF BULK AT MOST 1048576: true; the input reads as it did. -/
def chunkBackUptoRow : OpenClaim := { program := "ytnlninmjmjffcaa", sum := "431d65971e3bba187efd0adafe7c8d30849ea65ef40aab4bff4edd794f75a407", func := "tributary/tributarylaw19.ChunkBack", spec := "chunkBack", unfollowed := true, recurses := true, apart := false, narrowed := true }
def ChunkBackUptoSaid : Prop := chunkBackUptoRow.holds Try.pinned (OpenSpec.upto chunkBackSpec)

/-- 'tributarylaw19.ChunkRoom', WHERE WHAT IT READS IS OF BULK AT MOST 1048576: true; the input reads as it did. -/
def chunkRoomUptoRow : OpenClaim := { program := "ytnlninmjmjffcaa", sum := "431d65971e3bba187efd0adafe7c8d30849ea65ef40aab4bff4edd794f75a407", func := "tributary/tributarylaw19.ChunkRoom", spec := "chunkRoom", unfollowed := true, recurses := true, apart := false, narrowed := true }
def ChunkRoomUptoSaid : Prop := chunkRoomUptoRow.holds Try.pinned (OpenSpec.upto chunkRoomSpec)

end Rows
end Go.Proofs.Ytnlninmjmjffcaa
