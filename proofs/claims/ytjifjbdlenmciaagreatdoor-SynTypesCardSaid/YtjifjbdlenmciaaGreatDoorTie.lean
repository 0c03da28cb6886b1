/-
  DERIVED. GIVEN WITH THE SEED: THE PROGRAM's TIES (one call each: nine closed facts by the kernel) AND EACH ROW's TIE, after the 31st guide's Derived/Test/Toyas{Tie, Card}.lean. No idea stands in it: it is a product of the set-up. Laid BY PROGRAM, IN A SANDBOX (cutbox-door.mjs). By AI agents, Wed Nov 11 2026. No macro, syntax, notation, axiom, sorry.
-/
import Derived.Test.YtjifjbdlenmciaaGreatDoorRows
import Derived.LaidByTextLater
import Derived.SevenTiedAt
import Derived.LaidSub
import Derived.LaidOnce
namespace Go.Proofs.YtjifjbdlenmciaaGreatDoor
open Go
set_option maxRecDepth 100000
theorem seatTie1 : Tryz.prog.laidByTextLater [("math/bits.deBruijn32tab", Rows.laid_math_bits_deBruijn32tab), ("math/bits.deBruijn64tab", Rows.laid_math_bits_deBruijn64tab), ("internal/strconv.uint64pow10", Rows.laid_internal_strconv_uint64pow10), ("spokeshave/lex.signs", Rows.laid_spokeshave_lex_signs), ("spokeshave/syn.bases", Rows.laid_spokeshave_syn_bases), ("spokeshave/syn.levels", Rows.laid_spokeshave_syn_levels), ("spokeshave/syn.sets", Rows.laid_spokeshave_syn_sets)] [.data, .data, .data, .widerDeep, .mapped, .data, .data] true :=
  Program.laidByTextLater_by_one 92 8 65 (by kernel_rfl) (by kernel_rfl) (by kernel_rfl) (by kernel_rfl) (by kernel_rfl) (by kernel_rfl) (fun _ _ => by kernel_rfl)
theorem noOwnUnsafe : Tryz.pinned.checked.prog.headLifts.contains "ownunsafe" = false := by kernel_rfl
theorem tie : Tryz.prog.laidByTextLater [("math/bits.deBruijn32tab", Rows.laid_math_bits_deBruijn32tab), ("math/bits.deBruijn64tab", Rows.laid_math_bits_deBruijn64tab), ("internal/strconv.uint64pow10", Rows.laid_internal_strconv_uint64pow10), ("spokeshave/lex.signs", Rows.laid_spokeshave_lex_signs), ("spokeshave/syn.bases", Rows.laid_spokeshave_syn_bases), ("spokeshave/syn.levels", Rows.laid_spokeshave_syn_levels), ("spokeshave/syn.sets", Rows.laid_spokeshave_syn_sets)] [.data, .data, .data, .widerDeep, .mapped, .data, .data] true :=
  Program.laidByTextLater.sub seatTie1 ["math/bits.deBruijn32tab", "math/bits.deBruijn64tab", "internal/strconv.uint64pow10", "spokeshave/lex.signs", "spokeshave/syn.bases", "spokeshave/syn.levels", "spokeshave/syn.sets"] (by kernel_rfl) (by kernel_rfl)
theorem synBinds_row_tie : Rows.synBindsRow.laidByTextAt .later Tryz.pinned [.data, .data, .data, .widerDeep, .mapped, .data, .data] true :=
  OpenClaim.laidByTextAt_later rfl rfl tie noOwnUnsafe
theorem synElse_row_tie : Rows.synElseRow.laidByTextAt .later Tryz.pinned [.data, .data, .data, .widerDeep, .mapped, .data, .data] true :=
  OpenClaim.laidByTextAt_later rfl rfl tie noOwnUnsafe
theorem synDeep_row_tie : Rows.synDeepRow.laidByTextAt .later Tryz.pinned [.data, .data, .data, .widerDeep, .mapped, .data, .data] true :=
  OpenClaim.laidByTextAt_later rfl rfl tie noOwnUnsafe
theorem synTypes_row_tie : Rows.synTypesRow.laidByTextAt .later Tryz.pinned [.data, .data, .data, .widerDeep, .mapped, .data, .data] true :=
  OpenClaim.laidByTextAt_later rfl rfl tie noOwnUnsafe
theorem synBlank_row_tie : Rows.synBlankRow.laidByTextAt .later Tryz.pinned [.data, .data, .data, .widerDeep, .mapped, .data, .data] true :=
  OpenClaim.laidByTextAt_later rfl rfl tie noOwnUnsafe
theorem synBindsUpto_row_tie : Rows.synBindsUptoRow.laidByTextAt .later Tryz.pinned [.data, .data, .data, .widerDeep, .mapped, .data, .data] true :=
  OpenClaim.laidByTextAt_later rfl rfl tie noOwnUnsafe
theorem synElseUpto_row_tie : Rows.synElseUptoRow.laidByTextAt .later Tryz.pinned [.data, .data, .data, .widerDeep, .mapped, .data, .data] true :=
  OpenClaim.laidByTextAt_later rfl rfl tie noOwnUnsafe
theorem synDeepUpto_row_tie : Rows.synDeepUptoRow.laidByTextAt .later Tryz.pinned [.data, .data, .data, .widerDeep, .mapped, .data, .data] true :=
  OpenClaim.laidByTextAt_later rfl rfl tie noOwnUnsafe
theorem synTypesUpto_row_tie : Rows.synTypesUptoRow.laidByTextAt .later Tryz.pinned [.data, .data, .data, .widerDeep, .mapped, .data, .data] true :=
  OpenClaim.laidByTextAt_later rfl rfl tie noOwnUnsafe
theorem synBlankUpto_row_tie : Rows.synBlankUptoRow.laidByTextAt .later Tryz.pinned [.data, .data, .data, .widerDeep, .mapped, .data, .data] true :=
  OpenClaim.laidByTextAt_later rfl rfl tie noOwnUnsafe
end Go.Proofs.YtjifjbdlenmciaaGreatDoor
