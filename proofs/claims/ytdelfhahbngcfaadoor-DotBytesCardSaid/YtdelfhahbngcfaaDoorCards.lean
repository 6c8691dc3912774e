/-
  DERIVED. GIVEN WITH THE SEED: THE CARDS: each row of YtdelfhahbngcfaaDoorRows.lean that lists a variable, with what it lists TIED to the program's text (the seventh form; the later family's looks); each row that meets fmt, with fmt's text TOLD by the authors' own Lean function (tested against real Go, not proved from fmt's source: count such statements apart). THE CARD IS WHAT COUNTS. Prove the row's statement (the work); the ties are given (YtdelfhahbngcfaaDoorTie.lean); close each card by the builder's one call (the guide's Derived/Test/ToyasCard.lean, 'card_holds'). Laid BY PROGRAM, IN A SANDBOX (cutbox-door.mjs). By AI agents, Wed Nov 11 2026. No macro, syntax, notation, axiom, sorry.
-/
import Derived.Test.YtdelfhahbngcfaaDoorRows
import GoSem.ClaimSeven
namespace Go.Proofs.YtdelfhahbngcfaaDoor
namespace Rows

/-- THE TIED CARD OF 'tributarylaw06.DotTexts'. -/
def dotTextsCard : Claim7 := { stood := { row := dotTextsRow, standIns := [], harness := (true, "7fee571fa342490a5f3e98a13adc3f41eb20d9c8bbc9203382d5786f277cb21f"), looks := true }, kinds := [], alts := [], laidByText := true, laidKinds := [.data, .data, .data, .sentinel, .sentinel], laidTests := true, laidLooks := .later }
def DotTextsCardSaid : Prop := Claim7.holds Tryd.pinned (.plain (OpenSpec.ofChange dotTextsSpec)) dotTextsCard

/-- THE TIED CARD OF 'tributarylaw06.DotBytes'. -/
def dotBytesCard : Claim7 := { stood := { row := dotBytesRow, standIns := [], harness := (true, "7fee571fa342490a5f3e98a13adc3f41eb20d9c8bbc9203382d5786f277cb21f"), looks := true }, kinds := [], alts := [], laidByText := true, laidKinds := [.data, .data, .data, .sentinel, .sentinel], laidTests := true, laidLooks := .later }
def DotBytesCardSaid : Prop := Claim7.holds Tryd.pinned (.plain (OpenSpec.ofChange dotBytesSpec)) dotBytesCard

/-- THE TIED CARD OF 'tributarylaw06.DotOrder'. -/
def dotOrderCard : Claim7 := { stood := { row := dotOrderRow, standIns := [], harness := (true, "7fee571fa342490a5f3e98a13adc3f41eb20d9c8bbc9203382d5786f277cb21f"), looks := true }, kinds := [], alts := [], laidByText := true, laidKinds := [.data, .data, .data, .sentinel, .sentinel], laidTests := true, laidLooks := .later }
def DotOrderCardSaid : Prop := Claim7.holds Tryd.pinned (.plain (OpenSpec.ofChange dotOrderSpec)) dotOrderCard

/-- THE TIED CARD OF 'tributarylaw06.DotTells'. -/
def dotTellsCard : Claim7 := { stood := { row := dotTellsRow, standIns := [], harness := (true, "7fee571fa342490a5f3e98a13adc3f41eb20d9c8bbc9203382d5786f277cb21f"), looks := true }, kinds := [], alts := [], laidByText := true, laidKinds := [.data, .data, .data, .sentinel, .sentinel], laidTests := true, laidLooks := .later }
def DotTellsCardSaid : Prop := Claim7.holds Tryd.pinned (.plain (OpenSpec.ofChange dotTellsSpec)) dotTellsCard

/-- THE TIED CARD OF 'tributarylaw06.DotKnown'. -/
def dotKnownCard : Claim7 := { stood := { row := dotKnownRow, standIns := [], harness := (true, "7fee571fa342490a5f3e98a13adc3f41eb20d9c8bbc9203382d5786f277cb21f"), looks := true }, kinds := [], alts := [], laidByText := true, laidKinds := [.data, .data, .data, .sentinel, .sentinel], laidTests := true, laidLooks := .later }
def DotKnownCardSaid : Prop := Claim7.holds Tryd.pinned (.plain (OpenSpec.ofChange dotKnownSpec)) dotKnownCard

/-- THE TIED CARD OF 'tributarylaw06.DotBack'. -/
def dotBackCard : Claim7 := { stood := { row := dotBackRow, standIns := [], harness := (true, "7fee571fa342490a5f3e98a13adc3f41eb20d9c8bbc9203382d5786f277cb21f"), looks := true }, kinds := [], alts := [], laidByText := true, laidKinds := [.data, .data, .data, .sentinel, .sentinel], laidTests := true, laidLooks := .later }
def DotBackCardSaid : Prop := Claim7.holds Tryd.pinned (.plain (OpenSpec.ofChange dotBackSpec)) dotBackCard

/-- THE SECOND FORM's CARD OF 'tributarylaw06.DotTexts'. -/
def dotTextsUptoCard : Claim7 := { stood := { row := dotTextsUptoRow, standIns := [], harness := (true, "7fee571fa342490a5f3e98a13adc3f41eb20d9c8bbc9203382d5786f277cb21f"), looks := true }, kinds := [], alts := [], laidByText := true, laidKinds := [.data, .data, .data, .sentinel, .sentinel], laidTests := true, laidLooks := .later }
def DotTextsUptoCardSaid : Prop := Claim7.holds Tryd.pinned (.plain (OpenSpec.upto dotTextsSpec)) dotTextsUptoCard

/-- THE SECOND FORM's CARD OF 'tributarylaw06.DotBytes'. -/
def dotBytesUptoCard : Claim7 := { stood := { row := dotBytesUptoRow, standIns := [], harness := (true, "7fee571fa342490a5f3e98a13adc3f41eb20d9c8bbc9203382d5786f277cb21f"), looks := true }, kinds := [], alts := [], laidByText := true, laidKinds := [.data, .data, .data, .sentinel, .sentinel], laidTests := true, laidLooks := .later }
def DotBytesUptoCardSaid : Prop := Claim7.holds Tryd.pinned (.plain (OpenSpec.upto dotBytesSpec)) dotBytesUptoCard

/-- THE SECOND FORM's CARD OF 'tributarylaw06.DotOrder'. -/
def dotOrderUptoCard : Claim7 := { stood := { row := dotOrderUptoRow, standIns := [], harness := (true, "7fee571fa342490a5f3e98a13adc3f41eb20d9c8bbc9203382d5786f277cb21f"), looks := true }, kinds := [], alts := [], laidByText := true, laidKinds := [.data, .data, .data, .sentinel, .sentinel], laidTests := true, laidLooks := .later }
def DotOrderUptoCardSaid : Prop := Claim7.holds Tryd.pinned (.plain (OpenSpec.upto dotOrderSpec)) dotOrderUptoCard

/-- THE SECOND FORM's CARD OF 'tributarylaw06.DotTells'. -/
def dotTellsUptoCard : Claim7 := { stood := { row := dotTellsUptoRow, standIns := [], harness := (true, "7fee571fa342490a5f3e98a13adc3f41eb20d9c8bbc9203382d5786f277cb21f"), looks := true }, kinds := [], alts := [], laidByText := true, laidKinds := [.data, .data, .data, .sentinel, .sentinel], laidTests := true, laidLooks := .later }
def DotTellsUptoCardSaid : Prop := Claim7.holds Tryd.pinned (.plain (OpenSpec.upto dotTellsSpec)) dotTellsUptoCard

/-- THE SECOND FORM's CARD OF 'tributarylaw06.DotKnown'. -/
def dotKnownUptoCard : Claim7 := { stood := { row := dotKnownUptoRow, standIns := [], harness := (true, "7fee571fa342490a5f3e98a13adc3f41eb20d9c8bbc9203382d5786f277cb21f"), looks := true }, kinds := [], alts := [], laidByText := true, laidKinds := [.data, .data, .data, .sentinel, .sentinel], laidTests := true, laidLooks := .later }
def DotKnownUptoCardSaid : Prop := Claim7.holds Tryd.pinned (.plain (OpenSpec.upto dotKnownSpec)) dotKnownUptoCard

/-- THE SECOND FORM's CARD OF 'tributarylaw06.DotBack'. -/
def dotBackUptoCard : Claim7 := { stood := { row := dotBackUptoRow, standIns := [], harness := (true, "7fee571fa342490a5f3e98a13adc3f41eb20d9c8bbc9203382d5786f277cb21f"), looks := true }, kinds := [], alts := [], laidByText := true, laidKinds := [.data, .data, .data, .sentinel, .sentinel], laidTests := true, laidLooks := .later }
def DotBackUptoCardSaid : Prop := Claim7.holds Tryd.pinned (.plain (OpenSpec.upto dotBackSpec)) dotBackUptoCard
end Rows
end Go.Proofs.YtdelfhahbngcfaaDoor
