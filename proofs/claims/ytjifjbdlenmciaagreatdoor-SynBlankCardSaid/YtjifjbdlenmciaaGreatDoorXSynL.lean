/- All cases of one law. -/
import Derived.Test.YtjifjbdlenmciaaGreatDoorXSyn1
import Derived.Test.YtjifjbdlenmciaaGreatDoorXSyn2
import Derived.Test.YtjifjbdlenmciaaGreatDoorXSyn3
import Derived.Test.YtjifjbdlenmciaaGreatDoorXSyn4
import Derived.Test.YtjifjbdlenmciaaGreatDoorXSyR
set_option linter.unusedVariables false
set_option linter.unusedSimpArgs false
set_option linter.constructorNameAsVariable false
set_option linter.unusedVariables false
namespace Go.Xe
open Go.RowKit
set_option maxRecDepth 100000
theorem synBlank_law : SynLaw 7 := blank_law (fun k mx cp r s h1 h2 h3 h4 => by
  rcases (by omega : r = 0 ∨ r = 1 ∨ r = 2 ∨ r = 3 ∨ r = 4 ∨ r = 5 ∨ r = 6) with rfl | rfl | rfl | rfl | rfl | rfl | rfl
  · rcases (by omega : s = 0 ∨ s = 1 ∨ s = 2 ∨ s = 3 ∨ s = 4 ∨ s = 5 ∨ s = 6) with rfl | rfl | rfl | rfl | rfl | rfl | rfl
    · exact n_0_0 k mx cp
    · exact n_0_1 k mx cp
    · exact n_0_2 k mx cp
    · exact n_0_3 k mx cp
    · exact n_0_4 k mx cp
    · exact n_0_5 k mx cp
    · exact n_0_6 k mx cp
  · rcases (by omega : s = 0 ∨ s = 1 ∨ s = 2 ∨ s = 3 ∨ s = 4 ∨ s = 5 ∨ s = 6) with rfl | rfl | rfl | rfl | rfl | rfl | rfl
    · exact n_1_0 k mx cp
    · exact n_1_1 k mx cp
    · exact n_1_2 k mx cp
    · exact n_1_3 k mx cp
    · exact n_1_4 k mx cp
    · exact n_1_5 k mx cp
    · exact n_1_6 k mx cp
  · rcases (by omega : s = 0 ∨ s = 1 ∨ s = 2 ∨ s = 3 ∨ s = 4 ∨ s = 5 ∨ s = 6) with rfl | rfl | rfl | rfl | rfl | rfl | rfl
    · exact n_2_0 k mx cp
    · exact n_2_1 k mx cp
    · exact n_2_2 k mx cp
    · exact n_2_3 k mx cp
    · exact n_2_4 k mx cp
    · exact n_2_5 k mx cp
    · exact n_2_6 k mx cp
  · rcases (by omega : s = 0 ∨ s = 1 ∨ s = 2 ∨ s = 3 ∨ s = 4 ∨ s = 5 ∨ s = 6) with rfl | rfl | rfl | rfl | rfl | rfl | rfl
    · exact n_3_0 k mx cp
    · exact n_3_1 k mx cp
    · exact n_3_2 k mx cp
    · exact n_3_3 k mx cp
    · exact n_3_4 k mx cp
    · exact n_3_5 k mx cp
    · exact n_3_6 k mx cp
  · rcases (by omega : s = 0 ∨ s = 1 ∨ s = 2 ∨ s = 3 ∨ s = 4 ∨ s = 5 ∨ s = 6) with rfl | rfl | rfl | rfl | rfl | rfl | rfl
    · exact n_4_0 k mx cp
    · exact n_4_1 k mx cp
    · exact n_4_2 k mx cp
    · exact n_4_3 k mx cp
    · exact n_4_4 k mx cp
    · exact n_4_5 k mx cp
    · exact n_4_6 k mx cp
  · rcases (by omega : s = 0 ∨ s = 1 ∨ s = 2 ∨ s = 3 ∨ s = 4 ∨ s = 5 ∨ s = 6) with rfl | rfl | rfl | rfl | rfl | rfl | rfl
    · exact n_5_0 k mx cp
    · exact n_5_1 k mx cp
    · exact n_5_2 k mx cp
    · exact n_5_3 k mx cp
    · exact n_5_4 k mx cp
    · exact n_5_5 k mx cp
    · exact n_5_6 k mx cp
  · rcases (by omega : s = 0 ∨ s = 1 ∨ s = 2 ∨ s = 3 ∨ s = 4 ∨ s = 5 ∨ s = 6) with rfl | rfl | rfl | rfl | rfl | rfl | rfl
    · exact n_6_0 k mx cp
    · exact n_6_1 k mx cp
    · exact n_6_2 k mx cp
    · exact n_6_3 k mx cp
    · exact n_6_4 k mx cp
    · exact n_6_5 k mx cp
    · exact n_6_6 k mx cp)
theorem synBlank_walk (x0 x1 : Int) (W : World) (hL : laidMetH SynP Go.Proofs.YtjifjbdlenmciaaGreatDoor.Rows.synBindsRow.laid W) (hS : W.ShapedOpen SynP) : Calls SynP 7 #[.int .i64 x0, .int .i64 x1] W fun e W' => e = .returned (.bool true) ∧ Below W.heap.size W W' := syn_walk synBlank_law x0 x1 W hL hS
end Go.Xe
