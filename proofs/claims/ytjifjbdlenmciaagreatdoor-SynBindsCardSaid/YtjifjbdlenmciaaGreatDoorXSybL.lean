/- All cases of one law. -/
import Derived.Test.YtjifjbdlenmciaaGreatDoorXSyb1
import Derived.Test.YtjifjbdlenmciaaGreatDoorXSyb2
import Derived.Test.YtjifjbdlenmciaaGreatDoorXSyb3
import Derived.Test.YtjifjbdlenmciaaGreatDoorXSyb4
import Derived.Test.YtjifjbdlenmciaaGreatDoorXSyR
set_option linter.unusedVariables false
set_option linter.unusedSimpArgs false
set_option linter.constructorNameAsVariable false
set_option linter.unusedVariables false
namespace Go.Xe
open Go.RowKit
set_option maxRecDepth 100000
theorem synBinds_law : SynLaw 3 := binds_law (fun k mx cp r s h1 h2 h3 h4 => by
  rcases (by omega : r = 0 ∨ r = 1 ∨ r = 2 ∨ r = 3 ∨ r = 4 ∨ r = 5 ∨ r = 6 ∨ r = 7 ∨ r = 8 ∨ r = 9) with rfl | rfl | rfl | rfl | rfl | rfl | rfl | rfl | rfl | rfl
  · rcases (by omega : s = 0 ∨ s = 1 ∨ s = 2 ∨ s = 3 ∨ s = 4 ∨ s = 5 ∨ s = 6 ∨ s = 7 ∨ s = 8 ∨ s = 9) with rfl | rfl | rfl | rfl | rfl | rfl | rfl | rfl | rfl | rfl
    · exact b_0_0 k mx cp
    · exact b_0_1 k mx cp
    · exact b_0_2 k mx cp
    · exact b_0_3 k mx cp
    · exact b_0_4 k mx cp
    · exact b_0_5 k mx cp
    · exact b_0_6 k mx cp
    · exact b_0_7 k mx cp
    · exact b_0_8 k mx cp
    · exact b_0_9 k mx cp
  · rcases (by omega : s = 0 ∨ s = 1 ∨ s = 2 ∨ s = 3 ∨ s = 4 ∨ s = 5 ∨ s = 6 ∨ s = 7 ∨ s = 8 ∨ s = 9) with rfl | rfl | rfl | rfl | rfl | rfl | rfl | rfl | rfl | rfl
    · exact b_1_0 k mx cp
    · exact b_1_1 k mx cp
    · exact b_1_2 k mx cp
    · exact b_1_3 k mx cp
    · exact b_1_4 k mx cp
    · exact b_1_5 k mx cp
    · exact b_1_6 k mx cp
    · exact b_1_7 k mx cp
    · exact b_1_8 k mx cp
    · exact b_1_9 k mx cp
  · rcases (by omega : s = 0 ∨ s = 1 ∨ s = 2 ∨ s = 3 ∨ s = 4 ∨ s = 5 ∨ s = 6 ∨ s = 7 ∨ s = 8 ∨ s = 9) with rfl | rfl | rfl | rfl | rfl | rfl | rfl | rfl | rfl | rfl
    · exact b_2_0 k mx cp
    · exact b_2_1 k mx cp
    · exact b_2_2 k mx cp
    · exact b_2_3 k mx cp
    · exact b_2_4 k mx cp
    · exact b_2_5 k mx cp
    · exact b_2_6 k mx cp
    · exact b_2_7 k mx cp
    · exact b_2_8 k mx cp
    · exact b_2_9 k mx cp
  · rcases (by omega : s = 0 ∨ s = 1 ∨ s = 2 ∨ s = 3 ∨ s = 4 ∨ s = 5 ∨ s = 6 ∨ s = 7 ∨ s = 8 ∨ s = 9) with rfl | rfl | rfl | rfl | rfl | rfl | rfl | rfl | rfl | rfl
    · exact b_3_0 k mx cp
    · exact b_3_1 k mx cp
    · exact b_3_2 k mx cp
    · exact b_3_3 k mx cp
    · exact b_3_4 k mx cp
    · exact b_3_5 k mx cp
    · exact b_3_6 k mx cp
    · exact b_3_7 k mx cp
    · exact b_3_8 k mx cp
    · exact b_3_9 k mx cp
  · rcases (by omega : s = 0 ∨ s = 1 ∨ s = 2 ∨ s = 3 ∨ s = 4 ∨ s = 5 ∨ s = 6 ∨ s = 7 ∨ s = 8 ∨ s = 9) with rfl | rfl | rfl | rfl | rfl | rfl | rfl | rfl | rfl | rfl
    · exact b_4_0 k mx cp
    · exact b_4_1 k mx cp
    · exact b_4_2 k mx cp
    · exact b_4_3 k mx cp
    · exact b_4_4 k mx cp
    · exact b_4_5 k mx cp
    · exact b_4_6 k mx cp
    · exact b_4_7 k mx cp
    · exact b_4_8 k mx cp
    · exact b_4_9 k mx cp
  · rcases (by omega : s = 0 ∨ s = 1 ∨ s = 2 ∨ s = 3 ∨ s = 4 ∨ s = 5 ∨ s = 6 ∨ s = 7 ∨ s = 8 ∨ s = 9) with rfl | rfl | rfl | rfl | rfl | rfl | rfl | rfl | rfl | rfl
    · exact b_5_0 k mx cp
    · exact b_5_1 k mx cp
    · exact b_5_2 k mx cp
    · exact b_5_3 k mx cp
    · exact b_5_4 k mx cp
    · exact b_5_5 k mx cp
    · exact b_5_6 k mx cp
    · exact b_5_7 k mx cp
    · exact b_5_8 k mx cp
    · exact b_5_9 k mx cp
  · rcases (by omega : s = 0 ∨ s = 1 ∨ s = 2 ∨ s = 3 ∨ s = 4 ∨ s = 5 ∨ s = 6 ∨ s = 7 ∨ s = 8 ∨ s = 9) with rfl | rfl | rfl | rfl | rfl | rfl | rfl | rfl | rfl | rfl
    · exact b_6_0 k mx cp
    · exact b_6_1 k mx cp
    · exact b_6_2 k mx cp
    · exact b_6_3 k mx cp
    · exact b_6_4 k mx cp
    · exact b_6_5 k mx cp
    · exact b_6_6 k mx cp
    · exact b_6_7 k mx cp
    · exact b_6_8 k mx cp
    · exact b_6_9 k mx cp
  · rcases (by omega : s = 0 ∨ s = 1 ∨ s = 2 ∨ s = 3 ∨ s = 4 ∨ s = 5 ∨ s = 6 ∨ s = 7 ∨ s = 8 ∨ s = 9) with rfl | rfl | rfl | rfl | rfl | rfl | rfl | rfl | rfl | rfl
    · exact b_7_0 k mx cp
    · exact b_7_1 k mx cp
    · exact b_7_2 k mx cp
    · exact b_7_3 k mx cp
    · exact b_7_4 k mx cp
    · exact b_7_5 k mx cp
    · exact b_7_6 k mx cp
    · exact b_7_7 k mx cp
    · exact b_7_8 k mx cp
    · exact b_7_9 k mx cp
  · rcases (by omega : s = 0 ∨ s = 1 ∨ s = 2 ∨ s = 3 ∨ s = 4 ∨ s = 5 ∨ s = 6 ∨ s = 7 ∨ s = 8 ∨ s = 9) with rfl | rfl | rfl | rfl | rfl | rfl | rfl | rfl | rfl | rfl
    · exact b_8_0 k mx cp
    · exact b_8_1 k mx cp
    · exact b_8_2 k mx cp
    · exact b_8_3 k mx cp
    · exact b_8_4 k mx cp
    · exact b_8_5 k mx cp
    · exact b_8_6 k mx cp
    · exact b_8_7 k mx cp
    · exact b_8_8 k mx cp
    · exact b_8_9 k mx cp
  · rcases (by omega : s = 0 ∨ s = 1 ∨ s = 2 ∨ s = 3 ∨ s = 4 ∨ s = 5 ∨ s = 6 ∨ s = 7 ∨ s = 8 ∨ s = 9) with rfl | rfl | rfl | rfl | rfl | rfl | rfl | rfl | rfl | rfl
    · exact b_9_0 k mx cp
    · exact b_9_1 k mx cp
    · exact b_9_2 k mx cp
    · exact b_9_3 k mx cp
    · exact b_9_4 k mx cp
    · exact b_9_5 k mx cp
    · exact b_9_6 k mx cp
    · exact b_9_7 k mx cp
    · exact b_9_8 k mx cp
    · exact b_9_9 k mx cp)
theorem synBinds_walk (x0 x1 : Int) (W : World) (hL : laidMetH SynP Go.Proofs.YtjifjbdlenmciaaGreatDoor.Rows.synBindsRow.laid W) (hS : W.ShapedOpen SynP) : Calls SynP 3 #[.int .i64 x0, .int .i64 x1] W fun e W' => e = .returned (.bool true) ∧ Below W.heap.size W W' := syn_walk synBinds_law x0 x1 W hL hS
end Go.Xe
