/-
  DERIVED. GIVEN WITH THE SEED: THE CARDS: each row of YtjifjbdlenmciaaGreatDoorRows.lean that lists a variable, with what it lists TIED to the program's text (the seventh form; the later family's looks); each row that meets fmt, with fmt's text TOLD by the authors' own Lean function (tested against real Go, not proved from fmt's source: count such statements apart). THE CARD IS WHAT COUNTS. Prove the row's statement (the work); the ties are given (YtjifjbdlenmciaaGreatDoorTie.lean); close each card by the builder's one call (the guide's Derived/Test/ToyasCard.lean, 'card_holds'). Laid BY PROGRAM, IN A SANDBOX (cutbox-door.mjs). By AI agents, Wed Nov 11 2026. No macro, syntax, notation, axiom, sorry.
-/
import Derived.Test.YtjifjbdlenmciaaGreatDoorRows
import GoSem.ClaimSeven
namespace Go.Proofs.YtjifjbdlenmciaaGreatDoor
namespace Rows

/-- THE TIED CARD OF 'spokeshavelaw3.SynBinds'. -/
def synBindsCard : Claim7 := { stood := { row := synBindsRow, standIns := [], harness := (true, "1d23d4706c124435734fc15d5ee1794d301b90638b3b41031711a1be58c1a0dd"), looks := false }, kinds := [], alts := [], laidByText := true, laidKinds := [.data, .data, .data, .widerDeep, .mapped, .data, .data], laidTests := true, laidLooks := .later }
def SynBindsCardSaid : Prop := Claim7.holds Tryz.pinned (.plain (OpenSpec.ofChange synBindsSpec)) synBindsCard

/-- THE TIED CARD OF 'spokeshavelaw3.SynElse'. -/
def synElseCard : Claim7 := { stood := { row := synElseRow, standIns := [], harness := (true, "1d23d4706c124435734fc15d5ee1794d301b90638b3b41031711a1be58c1a0dd"), looks := false }, kinds := [], alts := [], laidByText := true, laidKinds := [.data, .data, .data, .widerDeep, .mapped, .data, .data], laidTests := true, laidLooks := .later }
def SynElseCardSaid : Prop := Claim7.holds Tryz.pinned (.plain (OpenSpec.ofChange synElseSpec)) synElseCard

/-- THE TIED CARD OF 'spokeshavelaw3.SynDeep'. -/
def synDeepCard : Claim7 := { stood := { row := synDeepRow, standIns := [], harness := (true, "1d23d4706c124435734fc15d5ee1794d301b90638b3b41031711a1be58c1a0dd"), looks := false }, kinds := [], alts := [], laidByText := true, laidKinds := [.data, .data, .data, .widerDeep, .mapped, .data, .data], laidTests := true, laidLooks := .later }
def SynDeepCardSaid : Prop := Claim7.holds Tryz.pinned (.plain (OpenSpec.ofChange synDeepSpec)) synDeepCard

/-- THE TIED CARD OF 'spokeshavelaw3.SynTypes'. -/
def synTypesCard : Claim7 := { stood := { row := synTypesRow, standIns := [], harness := (true, "1d23d4706c124435734fc15d5ee1794d301b90638b3b41031711a1be58c1a0dd"), looks := false }, kinds := [], alts := [], laidByText := true, laidKinds := [.data, .data, .data, .widerDeep, .mapped, .data, .data], laidTests := true, laidLooks := .later }
def SynTypesCardSaid : Prop := Claim7.holds Tryz.pinned (.plain (OpenSpec.ofChange synTypesSpec)) synTypesCard

/-- THE TIED CARD OF 'spokeshavelaw3.SynBlank'. -/
def synBlankCard : Claim7 := { stood := { row := synBlankRow, standIns := [], harness := (true, "1d23d4706c124435734fc15d5ee1794d301b90638b3b41031711a1be58c1a0dd"), looks := false }, kinds := [], alts := [], laidByText := true, laidKinds := [.data, .data, .data, .widerDeep, .mapped, .data, .data], laidTests := true, laidLooks := .later }
def SynBlankCardSaid : Prop := Claim7.holds Tryz.pinned (.plain (OpenSpec.ofChange synBlankSpec)) synBlankCard

/-- THE SECOND FORM's CARD OF 'spokeshavelaw3.SynBinds'. -/
def synBindsUptoCard : Claim7 := { stood := { row := synBindsUptoRow, standIns := [], harness := (true, "1d23d4706c124435734fc15d5ee1794d301b90638b3b41031711a1be58c1a0dd"), looks := false }, kinds := [], alts := [], laidByText := true, laidKinds := [.data, .data, .data, .widerDeep, .mapped, .data, .data], laidTests := true, laidLooks := .later }
def SynBindsUptoCardSaid : Prop := Claim7.holds Tryz.pinned (.plain (OpenSpec.upto synBindsSpec)) synBindsUptoCard

/-- THE SECOND FORM's CARD OF 'spokeshavelaw3.SynElse'. -/
def synElseUptoCard : Claim7 := { stood := { row := synElseUptoRow, standIns := [], harness := (true, "1d23d4706c124435734fc15d5ee1794d301b90638b3b41031711a1be58c1a0dd"), looks := false }, kinds := [], alts := [], laidByText := true, laidKinds := [.data, .data, .data, .widerDeep, .mapped, .data, .data], laidTests := true, laidLooks := .later }
def SynElseUptoCardSaid : Prop := Claim7.holds Tryz.pinned (.plain (OpenSpec.upto synElseSpec)) synElseUptoCard

/-- THE SECOND FORM's CARD OF 'spokeshavelaw3.SynDeep'. -/
def synDeepUptoCard : Claim7 := { stood := { row := synDeepUptoRow, standIns := [], harness := (true, "1d23d4706c124435734fc15d5ee1794d301b90638b3b41031711a1be58c1a0dd"), looks := false }, kinds := [], alts := [], laidByText := true, laidKinds := [.data, .data, .data, .widerDeep, .mapped, .data, .data], laidTests := true, laidLooks := .later }
def SynDeepUptoCardSaid : Prop := Claim7.holds Tryz.pinned (.plain (OpenSpec.upto synDeepSpec)) synDeepUptoCard

/-- THE SECOND FORM's CARD OF 'spokeshavelaw3.SynTypes'. -/
def synTypesUptoCard : Claim7 := { stood := { row := synTypesUptoRow, standIns := [], harness := (true, "1d23d4706c124435734fc15d5ee1794d301b90638b3b41031711a1be58c1a0dd"), looks := false }, kinds := [], alts := [], laidByText := true, laidKinds := [.data, .data, .data, .widerDeep, .mapped, .data, .data], laidTests := true, laidLooks := .later }
def SynTypesUptoCardSaid : Prop := Claim7.holds Tryz.pinned (.plain (OpenSpec.upto synTypesSpec)) synTypesUptoCard

/-- THE SECOND FORM's CARD OF 'spokeshavelaw3.SynBlank'. -/
def synBlankUptoCard : Claim7 := { stood := { row := synBlankUptoRow, standIns := [], harness := (true, "1d23d4706c124435734fc15d5ee1794d301b90638b3b41031711a1be58c1a0dd"), looks := false }, kinds := [], alts := [], laidByText := true, laidKinds := [.data, .data, .data, .widerDeep, .mapped, .data, .data], laidTests := true, laidLooks := .later }
def SynBlankUptoCardSaid : Prop := Claim7.holds Tryz.pinned (.plain (OpenSpec.upto synBlankSpec)) synBlankUptoCard
end Rows
end Go.Proofs.YtjifjbdlenmciaaGreatDoor
