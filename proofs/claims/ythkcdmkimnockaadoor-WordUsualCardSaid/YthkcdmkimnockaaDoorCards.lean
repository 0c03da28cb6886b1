/-
  DERIVED. GIVEN WITH THE SEED: THE CARDS: each row of YthkcdmkimnockaaDoorRows.lean that lists a variable, with what it lists TIED to the program's text (the seventh form; the later family's looks); each row that meets fmt, with fmt's text TOLD by the authors' own Lean function (tested against real Go, not proved from fmt's source: count such statements apart). THE CARD IS WHAT COUNTS. Prove the row's statement (the work); the ties are given (YthkcdmkimnockaaDoorTie.lean); close each card by the builder's one call (the guide's Derived/Test/ToyasCard.lean, 'card_holds'). Laid BY PROGRAM, IN A SANDBOX (cutbox-door.mjs). By AI agents, Wed Nov 11 2026. No macro, syntax, notation, axiom, sorry.
-/
import Derived.Test.YthkcdmkimnockaaDoorRows
import GoSem.ClaimSeven
namespace Go.Proofs.YthkcdmkimnockaaDoor
namespace Rows

/-- THE TIED CARD OF 'spokeshavelaw1.WordEach'. -/
def wordEachCard : Claim7 := { stood := { row := wordEachRow, standIns := [], harness := (true, "6e84c008e7f67fce14283230df45756c59f3f6b2be123c158e68b2b4d37d5f15"), looks := false }, kinds := [], alts := [], laidByText := true, laidKinds := [.data, .data, .data], laidTests := true, laidLooks := .later }
def WordEachCardSaid : Prop := Claim7.holds Tryd.pinned (.plain (OpenSpec.ofChange wordEachSpec)) wordEachCard

/-- THE TIED CARD OF 'spokeshavelaw1.WordWide'. -/
def wordWideCard : Claim7 := { stood := { row := wordWideRow, standIns := [], harness := (true, "6e84c008e7f67fce14283230df45756c59f3f6b2be123c158e68b2b4d37d5f15"), looks := false }, kinds := [], alts := [], laidByText := true, laidKinds := [.data, .data, .data], laidTests := true, laidLooks := .later }
def WordWideCardSaid : Prop := Claim7.holds Tryd.pinned (.plain (OpenSpec.ofChange wordWideSpec)) wordWideCard

/-- THE TIED CARD OF 'spokeshavelaw1.WordUsual'. -/
def wordUsualCard : Claim7 := { stood := { row := wordUsualRow, standIns := [], harness := (true, "6e84c008e7f67fce14283230df45756c59f3f6b2be123c158e68b2b4d37d5f15"), looks := false }, kinds := [], alts := [], laidByText := true, laidKinds := [.data, .data, .data], laidTests := true, laidLooks := .later }
def WordUsualCardSaid : Prop := Claim7.holds Tryd.pinned (.plain (OpenSpec.ofChange wordUsualSpec)) wordUsualCard

/-- THE TIED CARD OF 'spokeshavelaw1.WordDivides'. -/
def wordDividesCard : Claim7 := { stood := { row := wordDividesRow, standIns := [], harness := (true, "6e84c008e7f67fce14283230df45756c59f3f6b2be123c158e68b2b4d37d5f15"), looks := false }, kinds := [], alts := [], laidByText := true, laidKinds := [.data, .data, .data], laidTests := true, laidLooks := .later }
def WordDividesCardSaid : Prop := Claim7.holds Tryd.pinned (.plain (OpenSpec.ofChange wordDividesSpec)) wordDividesCard

/-- THE TIED CARD OF 'spokeshavelaw1.WordTurns'. -/
def wordTurnsCard : Claim7 := { stood := { row := wordTurnsRow, standIns := [], harness := (true, "6e84c008e7f67fce14283230df45756c59f3f6b2be123c158e68b2b4d37d5f15"), looks := false }, kinds := [], alts := [], laidByText := true, laidKinds := [.data, .data, .data], laidTests := true, laidLooks := .later }
def WordTurnsCardSaid : Prop := Claim7.holds Tryd.pinned (.plain (OpenSpec.ofChange wordTurnsSpec)) wordTurnsCard

/-- THE TIED CARD OF 'spokeshavelaw1.WordOrders'. -/
def wordOrdersCard : Claim7 := { stood := { row := wordOrdersRow, standIns := [], harness := (true, "6e84c008e7f67fce14283230df45756c59f3f6b2be123c158e68b2b4d37d5f15"), looks := false }, kinds := [], alts := [], laidByText := true, laidKinds := [.data, .data, .data], laidTests := true, laidLooks := .later }
def WordOrdersCardSaid : Prop := Claim7.holds Tryd.pinned (.plain (OpenSpec.ofChange wordOrdersSpec)) wordOrdersCard

/-- THE TIED CARD OF 'spokeshavelaw1.WordTells'. -/
def wordTellsCard : Claim7 := { stood := { row := wordTellsRow, standIns := [], harness := (true, "6e84c008e7f67fce14283230df45756c59f3f6b2be123c158e68b2b4d37d5f15"), looks := false }, kinds := [], alts := [], laidByText := true, laidKinds := [.data, .data, .data], laidTests := true, laidLooks := .later }
def WordTellsCardSaid : Prop := Claim7.holds Tryd.pinned (.plain (OpenSpec.ofChange wordTellsSpec)) wordTellsCard

/-- THE SECOND FORM's CARD OF 'spokeshavelaw1.WordEach'. -/
def wordEachUptoCard : Claim7 := { stood := { row := wordEachUptoRow, standIns := [], harness := (true, "6e84c008e7f67fce14283230df45756c59f3f6b2be123c158e68b2b4d37d5f15"), looks := false }, kinds := [], alts := [], laidByText := true, laidKinds := [.data, .data, .data], laidTests := true, laidLooks := .later }
def WordEachUptoCardSaid : Prop := Claim7.holds Tryd.pinned (.plain (OpenSpec.upto wordEachSpec)) wordEachUptoCard

/-- THE SECOND FORM's CARD OF 'spokeshavelaw1.WordWide'. -/
def wordWideUptoCard : Claim7 := { stood := { row := wordWideUptoRow, standIns := [], harness := (true, "6e84c008e7f67fce14283230df45756c59f3f6b2be123c158e68b2b4d37d5f15"), looks := false }, kinds := [], alts := [], laidByText := true, laidKinds := [.data, .data, .data], laidTests := true, laidLooks := .later }
def WordWideUptoCardSaid : Prop := Claim7.holds Tryd.pinned (.plain (OpenSpec.upto wordWideSpec)) wordWideUptoCard

/-- THE SECOND FORM's CARD OF 'spokeshavelaw1.WordUsual'. -/
def wordUsualUptoCard : Claim7 := { stood := { row := wordUsualUptoRow, standIns := [], harness := (true, "6e84c008e7f67fce14283230df45756c59f3f6b2be123c158e68b2b4d37d5f15"), looks := false }, kinds := [], alts := [], laidByText := true, laidKinds := [.data, .data, .data], laidTests := true, laidLooks := .later }
def WordUsualUptoCardSaid : Prop := Claim7.holds Tryd.pinned (.plain (OpenSpec.upto wordUsualSpec)) wordUsualUptoCard

/-- THE SECOND FORM's CARD OF 'spokeshavelaw1.WordDivides'. -/
def wordDividesUptoCard : Claim7 := { stood := { row := wordDividesUptoRow, standIns := [], harness := (true, "6e84c008e7f67fce14283230df45756c59f3f6b2be123c158e68b2b4d37d5f15"), looks := false }, kinds := [], alts := [], laidByText := true, laidKinds := [.data, .data, .data], laidTests := true, laidLooks := .later }
def WordDividesUptoCardSaid : Prop := Claim7.holds Tryd.pinned (.plain (OpenSpec.upto wordDividesSpec)) wordDividesUptoCard

/-- THE SECOND FORM's CARD OF 'spokeshavelaw1.WordTurns'. -/
def wordTurnsUptoCard : Claim7 := { stood := { row := wordTurnsUptoRow, standIns := [], harness := (true, "6e84c008e7f67fce14283230df45756c59f3f6b2be123c158e68b2b4d37d5f15"), looks := false }, kinds := [], alts := [], laidByText := true, laidKinds := [.data, .data, .data], laidTests := true, laidLooks := .later }
def WordTurnsUptoCardSaid : Prop := Claim7.holds Tryd.pinned (.plain (OpenSpec.upto wordTurnsSpec)) wordTurnsUptoCard

/-- THE SECOND FORM's CARD OF 'spokeshavelaw1.WordOrders'. -/
def wordOrdersUptoCard : Claim7 := { stood := { row := wordOrdersUptoRow, standIns := [], harness := (true, "6e84c008e7f67fce14283230df45756c59f3f6b2be123c158e68b2b4d37d5f15"), looks := false }, kinds := [], alts := [], laidByText := true, laidKinds := [.data, .data, .data], laidTests := true, laidLooks := .later }
def WordOrdersUptoCardSaid : Prop := Claim7.holds Tryd.pinned (.plain (OpenSpec.upto wordOrdersSpec)) wordOrdersUptoCard

/-- THE SECOND FORM's CARD OF 'spokeshavelaw1.WordTells'. -/
def wordTellsUptoCard : Claim7 := { stood := { row := wordTellsUptoRow, standIns := [], harness := (true, "6e84c008e7f67fce14283230df45756c59f3f6b2be123c158e68b2b4d37d5f15"), looks := false }, kinds := [], alts := [], laidByText := true, laidKinds := [.data, .data, .data], laidTests := true, laidLooks := .later }
def WordTellsUptoCardSaid : Prop := Claim7.holds Tryd.pinned (.plain (OpenSpec.upto wordTellsSpec)) wordTellsUptoCard
end Rows
end Go.Proofs.YthkcdmkimnockaaDoor
