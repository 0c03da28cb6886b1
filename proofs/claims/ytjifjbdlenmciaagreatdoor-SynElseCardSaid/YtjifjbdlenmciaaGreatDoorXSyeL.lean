/- All cases of one law. -/
import Derived.Test.YtjifjbdlenmciaaGreatDoorXSye1
import Derived.Test.YtjifjbdlenmciaaGreatDoorXSye2
import Derived.Test.YtjifjbdlenmciaaGreatDoorXSye3
import Derived.Test.YtjifjbdlenmciaaGreatDoorXSye4
import Derived.Test.YtjifjbdlenmciaaGreatDoorXSyR
set_option linter.unusedVariables false
set_option linter.unusedSimpArgs false
set_option linter.constructorNameAsVariable false
set_option linter.unusedVariables false
namespace Go.Xe
open Go.RowKit
set_option maxRecDepth 100000
theorem synElse_law : SynLaw 4 := else_law (fun k mx cp r s h1 h2 h3 h4 => by
  rcases (by omega : r = 0 ∨ r = 1 ∨ r = 2 ∨ r = 3 ∨ r = 4 ∨ r = 5 ∨ r = 6 ∨ r = 7) with rfl | rfl | rfl | rfl | rfl | rfl | rfl | rfl
  · rcases (by omega : s = 0 ∨ s = 1) with rfl | rfl
    · exact e_0_0 k mx cp
    · exact e_0_1 k mx cp
  · rcases (by omega : s = 0 ∨ s = 1 ∨ s = 2) with rfl | rfl | rfl
    · exact e_1_0 k mx cp
    · exact e_1_1 k mx cp
    · exact e_1_2 k mx cp
  · rcases (by omega : s = 0 ∨ s = 1 ∨ s = 2 ∨ s = 3) with rfl | rfl | rfl | rfl
    · exact e_2_0 k mx cp
    · exact e_2_1 k mx cp
    · exact e_2_2 k mx cp
    · exact e_2_3 k mx cp
  · rcases (by omega : s = 0 ∨ s = 1 ∨ s = 2 ∨ s = 3 ∨ s = 4) with rfl | rfl | rfl | rfl | rfl
    · exact e_3_0 k mx cp
    · exact e_3_1 k mx cp
    · exact e_3_2 k mx cp
    · exact e_3_3 k mx cp
    · exact e_3_4 k mx cp
  · rcases (by omega : s = 0 ∨ s = 1 ∨ s = 2 ∨ s = 3 ∨ s = 4 ∨ s = 5) with rfl | rfl | rfl | rfl | rfl | rfl
    · exact e_4_0 k mx cp
    · exact e_4_1 k mx cp
    · exact e_4_2 k mx cp
    · exact e_4_3 k mx cp
    · exact e_4_4 k mx cp
    · exact e_4_5 k mx cp
  · rcases (by omega : s = 0 ∨ s = 1 ∨ s = 2 ∨ s = 3 ∨ s = 4 ∨ s = 5 ∨ s = 6) with rfl | rfl | rfl | rfl | rfl | rfl | rfl
    · exact e_5_0 k mx cp
    · exact e_5_1 k mx cp
    · exact e_5_2 k mx cp
    · exact e_5_3 k mx cp
    · exact e_5_4 k mx cp
    · exact e_5_5 k mx cp
    · exact e_5_6 k mx cp
  · rcases (by omega : s = 0 ∨ s = 1 ∨ s = 2 ∨ s = 3 ∨ s = 4 ∨ s = 5 ∨ s = 6 ∨ s = 7) with rfl | rfl | rfl | rfl | rfl | rfl | rfl | rfl
    · exact e_6_0 k mx cp
    · exact e_6_1 k mx cp
    · exact e_6_2 k mx cp
    · exact e_6_3 k mx cp
    · exact e_6_4 k mx cp
    · exact e_6_5 k mx cp
    · exact e_6_6 k mx cp
    · exact e_6_7 k mx cp
  · rcases (by omega : s = 0 ∨ s = 1 ∨ s = 2 ∨ s = 3 ∨ s = 4 ∨ s = 5 ∨ s = 6 ∨ s = 7 ∨ s = 8) with rfl | rfl | rfl | rfl | rfl | rfl | rfl | rfl | rfl
    · exact e_7_0 k mx cp
    · exact e_7_1 k mx cp
    · exact e_7_2 k mx cp
    · exact e_7_3 k mx cp
    · exact e_7_4 k mx cp
    · exact e_7_5 k mx cp
    · exact e_7_6 k mx cp
    · exact e_7_7 k mx cp
    · exact e_7_8 k mx cp)
theorem synElse_walk (x0 x1 : Int) (W : World) (hL : laidMetH SynP Go.Proofs.YtjifjbdlenmciaaGreatDoor.Rows.synBindsRow.laid W) (hS : W.ShapedOpen SynP) : Calls SynP 4 #[.int .i64 x0, .int .i64 x1] W fun e W' => e = .returned (.bool true) ∧ Below W.heap.size W W' := syn_walk synElse_law x0 x1 W hL hS
end Go.Xe
