/- All cases of one law. -/
import Derived.Test.YtjifjbdlenmciaaGreatDoorXSyT1
import Derived.Test.YtjifjbdlenmciaaGreatDoorXSyT2
import Derived.Test.YtjifjbdlenmciaaGreatDoorXSyT3
import Derived.Test.YtjifjbdlenmciaaGreatDoorXSyT4
import Derived.Test.YtjifjbdlenmciaaGreatDoorXSyT5
import Derived.Test.YtjifjbdlenmciaaGreatDoorXSyT6
import Derived.Test.YtjifjbdlenmciaaGreatDoorXSyT7
import Derived.Test.YtjifjbdlenmciaaGreatDoorXSyT8
import Derived.Test.YtjifjbdlenmciaaGreatDoorXSyM
set_option linter.unusedVariables false
set_option linter.unusedSimpArgs false
set_option linter.constructorNameAsVariable false
set_option linter.unusedVariables false
namespace Go.Xe
open Go.RowKit
set_option maxRecDepth 100000
theorem synTypes_law : SynLaw3 6 := types_law (fun k mx cp q r s h1 h2 h3 h4 h5 h6 => by
  rcases (by omega : q = 0 ∨ q = 1 ∨ q = 2 ∨ q = 3 ∨ q = 4 ∨ q = 5 ∨ q = 6 ∨ q = 7 ∨ q = 8 ∨ q = 9 ∨ q = 10) with rfl | rfl | rfl | rfl | rfl | rfl | rfl | rfl | rfl | rfl | rfl
  · rcases (by omega : r = 0 ∨ r = 1 ∨ r = 2 ∨ r = 3) with rfl | rfl | rfl | rfl
    · rcases (by omega : s = 0 ∨ s = 1 ∨ s = 2 ∨ s = 3 ∨ s = 4 ∨ s = 5 ∨ s = 6 ∨ s = 7 ∨ s = 8) with rfl | rfl | rfl | rfl | rfl | rfl | rfl | rfl | rfl
      · exact t_0_0_0 k mx cp
      · exact t_0_0_1 k mx cp
      · exact t_0_0_2 k mx cp
      · exact t_0_0_3 k mx cp
      · exact t_0_0_4 k mx cp
      · exact t_0_0_5 k mx cp
      · exact t_0_0_6 k mx cp
      · exact t_0_0_7 k mx cp
      · exact t_0_0_8 k mx cp
    · rcases (by omega : s = 0 ∨ s = 1 ∨ s = 2 ∨ s = 3 ∨ s = 4 ∨ s = 5 ∨ s = 6 ∨ s = 7 ∨ s = 8) with rfl | rfl | rfl | rfl | rfl | rfl | rfl | rfl | rfl
      · exact t_0_1_0 k mx cp
      · exact t_0_1_1 k mx cp
      · exact t_0_1_2 k mx cp
      · exact t_0_1_3 k mx cp
      · exact t_0_1_4 k mx cp
      · exact t_0_1_5 k mx cp
      · exact t_0_1_6 k mx cp
      · exact t_0_1_7 k mx cp
      · exact t_0_1_8 k mx cp
    · rcases (by omega : s = 0 ∨ s = 1 ∨ s = 2 ∨ s = 3 ∨ s = 4 ∨ s = 5 ∨ s = 6 ∨ s = 7 ∨ s = 8) with rfl | rfl | rfl | rfl | rfl | rfl | rfl | rfl | rfl
      · exact t_0_2_0 k mx cp
      · exact t_0_2_1 k mx cp
      · exact t_0_2_2 k mx cp
      · exact t_0_2_3 k mx cp
      · exact t_0_2_4 k mx cp
      · exact t_0_2_5 k mx cp
      · exact t_0_2_6 k mx cp
      · exact t_0_2_7 k mx cp
      · exact t_0_2_8 k mx cp
    · rcases (by omega : s = 0 ∨ s = 1 ∨ s = 2 ∨ s = 3 ∨ s = 4 ∨ s = 5 ∨ s = 6 ∨ s = 7 ∨ s = 8) with rfl | rfl | rfl | rfl | rfl | rfl | rfl | rfl | rfl
      · exact t_0_3_0 k mx cp
      · exact t_0_3_1 k mx cp
      · exact t_0_3_2 k mx cp
      · exact t_0_3_3 k mx cp
      · exact t_0_3_4 k mx cp
      · exact t_0_3_5 k mx cp
      · exact t_0_3_6 k mx cp
      · exact t_0_3_7 k mx cp
      · exact t_0_3_8 k mx cp
  · rcases (by omega : r = 0 ∨ r = 1 ∨ r = 2 ∨ r = 3) with rfl | rfl | rfl | rfl
    · rcases (by omega : s = 0 ∨ s = 1 ∨ s = 2 ∨ s = 3 ∨ s = 4 ∨ s = 5 ∨ s = 6 ∨ s = 7 ∨ s = 8) with rfl | rfl | rfl | rfl | rfl | rfl | rfl | rfl | rfl
      · exact t_1_0_0 k mx cp
      · exact t_1_0_1 k mx cp
      · exact t_1_0_2 k mx cp
      · exact t_1_0_3 k mx cp
      · exact t_1_0_4 k mx cp
      · exact t_1_0_5 k mx cp
      · exact t_1_0_6 k mx cp
      · exact t_1_0_7 k mx cp
      · exact t_1_0_8 k mx cp
    · rcases (by omega : s = 0 ∨ s = 1 ∨ s = 2 ∨ s = 3 ∨ s = 4 ∨ s = 5 ∨ s = 6 ∨ s = 7 ∨ s = 8) with rfl | rfl | rfl | rfl | rfl | rfl | rfl | rfl | rfl
      · exact t_1_1_0 k mx cp
      · exact t_1_1_1 k mx cp
      · exact t_1_1_2 k mx cp
      · exact t_1_1_3 k mx cp
      · exact t_1_1_4 k mx cp
      · exact t_1_1_5 k mx cp
      · exact t_1_1_6 k mx cp
      · exact t_1_1_7 k mx cp
      · exact t_1_1_8 k mx cp
    · rcases (by omega : s = 0 ∨ s = 1 ∨ s = 2 ∨ s = 3 ∨ s = 4 ∨ s = 5 ∨ s = 6 ∨ s = 7 ∨ s = 8) with rfl | rfl | rfl | rfl | rfl | rfl | rfl | rfl | rfl
      · exact t_1_2_0 k mx cp
      · exact t_1_2_1 k mx cp
      · exact t_1_2_2 k mx cp
      · exact t_1_2_3 k mx cp
      · exact t_1_2_4 k mx cp
      · exact t_1_2_5 k mx cp
      · exact t_1_2_6 k mx cp
      · exact t_1_2_7 k mx cp
      · exact t_1_2_8 k mx cp
    · rcases (by omega : s = 0 ∨ s = 1 ∨ s = 2 ∨ s = 3 ∨ s = 4 ∨ s = 5 ∨ s = 6 ∨ s = 7 ∨ s = 8) with rfl | rfl | rfl | rfl | rfl | rfl | rfl | rfl | rfl
      · exact t_1_3_0 k mx cp
      · exact t_1_3_1 k mx cp
      · exact t_1_3_2 k mx cp
      · exact t_1_3_3 k mx cp
      · exact t_1_3_4 k mx cp
      · exact t_1_3_5 k mx cp
      · exact t_1_3_6 k mx cp
      · exact t_1_3_7 k mx cp
      · exact t_1_3_8 k mx cp
  · rcases (by omega : r = 0 ∨ r = 1 ∨ r = 2 ∨ r = 3) with rfl | rfl | rfl | rfl
    · rcases (by omega : s = 0 ∨ s = 1 ∨ s = 2 ∨ s = 3 ∨ s = 4 ∨ s = 5 ∨ s = 6 ∨ s = 7 ∨ s = 8) with rfl | rfl | rfl | rfl | rfl | rfl | rfl | rfl | rfl
      · exact t_2_0_0 k mx cp
      · exact t_2_0_1 k mx cp
      · exact t_2_0_2 k mx cp
      · exact t_2_0_3 k mx cp
      · exact t_2_0_4 k mx cp
      · exact t_2_0_5 k mx cp
      · exact t_2_0_6 k mx cp
      · exact t_2_0_7 k mx cp
      · exact t_2_0_8 k mx cp
    · rcases (by omega : s = 0 ∨ s = 1 ∨ s = 2 ∨ s = 3 ∨ s = 4 ∨ s = 5 ∨ s = 6 ∨ s = 7 ∨ s = 8) with rfl | rfl | rfl | rfl | rfl | rfl | rfl | rfl | rfl
      · exact t_2_1_0 k mx cp
      · exact t_2_1_1 k mx cp
      · exact t_2_1_2 k mx cp
      · exact t_2_1_3 k mx cp
      · exact t_2_1_4 k mx cp
      · exact t_2_1_5 k mx cp
      · exact t_2_1_6 k mx cp
      · exact t_2_1_7 k mx cp
      · exact t_2_1_8 k mx cp
    · rcases (by omega : s = 0 ∨ s = 1 ∨ s = 2 ∨ s = 3 ∨ s = 4 ∨ s = 5 ∨ s = 6 ∨ s = 7 ∨ s = 8) with rfl | rfl | rfl | rfl | rfl | rfl | rfl | rfl | rfl
      · exact t_2_2_0 k mx cp
      · exact t_2_2_1 k mx cp
      · exact t_2_2_2 k mx cp
      · exact t_2_2_3 k mx cp
      · exact t_2_2_4 k mx cp
      · exact t_2_2_5 k mx cp
      · exact t_2_2_6 k mx cp
      · exact t_2_2_7 k mx cp
      · exact t_2_2_8 k mx cp
    · rcases (by omega : s = 0 ∨ s = 1 ∨ s = 2 ∨ s = 3 ∨ s = 4 ∨ s = 5 ∨ s = 6 ∨ s = 7 ∨ s = 8) with rfl | rfl | rfl | rfl | rfl | rfl | rfl | rfl | rfl
      · exact t_2_3_0 k mx cp
      · exact t_2_3_1 k mx cp
      · exact t_2_3_2 k mx cp
      · exact t_2_3_3 k mx cp
      · exact t_2_3_4 k mx cp
      · exact t_2_3_5 k mx cp
      · exact t_2_3_6 k mx cp
      · exact t_2_3_7 k mx cp
      · exact t_2_3_8 k mx cp
  · rcases (by omega : r = 0 ∨ r = 1 ∨ r = 2 ∨ r = 3) with rfl | rfl | rfl | rfl
    · rcases (by omega : s = 0 ∨ s = 1 ∨ s = 2 ∨ s = 3 ∨ s = 4 ∨ s = 5 ∨ s = 6 ∨ s = 7 ∨ s = 8) with rfl | rfl | rfl | rfl | rfl | rfl | rfl | rfl | rfl
      · exact t_3_0_0 k mx cp
      · exact t_3_0_1 k mx cp
      · exact t_3_0_2 k mx cp
      · exact t_3_0_3 k mx cp
      · exact t_3_0_4 k mx cp
      · exact t_3_0_5 k mx cp
      · exact t_3_0_6 k mx cp
      · exact t_3_0_7 k mx cp
      · exact t_3_0_8 k mx cp
    · rcases (by omega : s = 0 ∨ s = 1 ∨ s = 2 ∨ s = 3 ∨ s = 4 ∨ s = 5 ∨ s = 6 ∨ s = 7 ∨ s = 8) with rfl | rfl | rfl | rfl | rfl | rfl | rfl | rfl | rfl
      · exact t_3_1_0 k mx cp
      · exact t_3_1_1 k mx cp
      · exact t_3_1_2 k mx cp
      · exact t_3_1_3 k mx cp
      · exact t_3_1_4 k mx cp
      · exact t_3_1_5 k mx cp
      · exact t_3_1_6 k mx cp
      · exact t_3_1_7 k mx cp
      · exact t_3_1_8 k mx cp
    · rcases (by omega : s = 0 ∨ s = 1 ∨ s = 2 ∨ s = 3 ∨ s = 4 ∨ s = 5 ∨ s = 6 ∨ s = 7 ∨ s = 8) with rfl | rfl | rfl | rfl | rfl | rfl | rfl | rfl | rfl
      · exact t_3_2_0 k mx cp
      · exact t_3_2_1 k mx cp
      · exact t_3_2_2 k mx cp
      · exact t_3_2_3 k mx cp
      · exact t_3_2_4 k mx cp
      · exact t_3_2_5 k mx cp
      · exact t_3_2_6 k mx cp
      · exact t_3_2_7 k mx cp
      · exact t_3_2_8 k mx cp
    · rcases (by omega : s = 0 ∨ s = 1 ∨ s = 2 ∨ s = 3 ∨ s = 4 ∨ s = 5 ∨ s = 6 ∨ s = 7 ∨ s = 8) with rfl | rfl | rfl | rfl | rfl | rfl | rfl | rfl | rfl
      · exact t_3_3_0 k mx cp
      · exact t_3_3_1 k mx cp
      · exact t_3_3_2 k mx cp
      · exact t_3_3_3 k mx cp
      · exact t_3_3_4 k mx cp
      · exact t_3_3_5 k mx cp
      · exact t_3_3_6 k mx cp
      · exact t_3_3_7 k mx cp
      · exact t_3_3_8 k mx cp
  · rcases (by omega : r = 0 ∨ r = 1 ∨ r = 2 ∨ r = 3) with rfl | rfl | rfl | rfl
    · rcases (by omega : s = 0 ∨ s = 1 ∨ s = 2 ∨ s = 3 ∨ s = 4 ∨ s = 5 ∨ s = 6 ∨ s = 7 ∨ s = 8) with rfl | rfl | rfl | rfl | rfl | rfl | rfl | rfl | rfl
      · exact t_4_0_0 k mx cp
      · exact t_4_0_1 k mx cp
      · exact t_4_0_2 k mx cp
      · exact t_4_0_3 k mx cp
      · exact t_4_0_4 k mx cp
      · exact t_4_0_5 k mx cp
      · exact t_4_0_6 k mx cp
      · exact t_4_0_7 k mx cp
      · exact t_4_0_8 k mx cp
    · rcases (by omega : s = 0 ∨ s = 1 ∨ s = 2 ∨ s = 3 ∨ s = 4 ∨ s = 5 ∨ s = 6 ∨ s = 7 ∨ s = 8) with rfl | rfl | rfl | rfl | rfl | rfl | rfl | rfl | rfl
      · exact t_4_1_0 k mx cp
      · exact t_4_1_1 k mx cp
      · exact t_4_1_2 k mx cp
      · exact t_4_1_3 k mx cp
      · exact t_4_1_4 k mx cp
      · exact t_4_1_5 k mx cp
      · exact t_4_1_6 k mx cp
      · exact t_4_1_7 k mx cp
      · exact t_4_1_8 k mx cp
    · rcases (by omega : s = 0 ∨ s = 1 ∨ s = 2 ∨ s = 3 ∨ s = 4 ∨ s = 5 ∨ s = 6 ∨ s = 7 ∨ s = 8) with rfl | rfl | rfl | rfl | rfl | rfl | rfl | rfl | rfl
      · exact t_4_2_0 k mx cp
      · exact t_4_2_1 k mx cp
      · exact t_4_2_2 k mx cp
      · exact t_4_2_3 k mx cp
      · exact t_4_2_4 k mx cp
      · exact t_4_2_5 k mx cp
      · exact t_4_2_6 k mx cp
      · exact t_4_2_7 k mx cp
      · exact t_4_2_8 k mx cp
    · rcases (by omega : s = 0 ∨ s = 1 ∨ s = 2 ∨ s = 3 ∨ s = 4 ∨ s = 5 ∨ s = 6 ∨ s = 7 ∨ s = 8) with rfl | rfl | rfl | rfl | rfl | rfl | rfl | rfl | rfl
      · exact t_4_3_0 k mx cp
      · exact t_4_3_1 k mx cp
      · exact t_4_3_2 k mx cp
      · exact t_4_3_3 k mx cp
      · exact t_4_3_4 k mx cp
      · exact t_4_3_5 k mx cp
      · exact t_4_3_6 k mx cp
      · exact t_4_3_7 k mx cp
      · exact t_4_3_8 k mx cp
  · rcases (by omega : r = 0 ∨ r = 1 ∨ r = 2 ∨ r = 3) with rfl | rfl | rfl | rfl
    · rcases (by omega : s = 0 ∨ s = 1 ∨ s = 2 ∨ s = 3 ∨ s = 4 ∨ s = 5 ∨ s = 6 ∨ s = 7 ∨ s = 8) with rfl | rfl | rfl | rfl | rfl | rfl | rfl | rfl | rfl
      · exact t_5_0_0 k mx cp
      · exact t_5_0_1 k mx cp
      · exact t_5_0_2 k mx cp
      · exact t_5_0_3 k mx cp
      · exact t_5_0_4 k mx cp
      · exact t_5_0_5 k mx cp
      · exact t_5_0_6 k mx cp
      · exact t_5_0_7 k mx cp
      · exact t_5_0_8 k mx cp
    · rcases (by omega : s = 0 ∨ s = 1 ∨ s = 2 ∨ s = 3 ∨ s = 4 ∨ s = 5 ∨ s = 6 ∨ s = 7 ∨ s = 8) with rfl | rfl | rfl | rfl | rfl | rfl | rfl | rfl | rfl
      · exact t_5_1_0 k mx cp
      · exact t_5_1_1 k mx cp
      · exact t_5_1_2 k mx cp
      · exact t_5_1_3 k mx cp
      · exact t_5_1_4 k mx cp
      · exact t_5_1_5 k mx cp
      · exact t_5_1_6 k mx cp
      · exact t_5_1_7 k mx cp
      · exact t_5_1_8 k mx cp
    · rcases (by omega : s = 0 ∨ s = 1 ∨ s = 2 ∨ s = 3 ∨ s = 4 ∨ s = 5 ∨ s = 6 ∨ s = 7 ∨ s = 8) with rfl | rfl | rfl | rfl | rfl | rfl | rfl | rfl | rfl
      · exact t_5_2_0 k mx cp
      · exact t_5_2_1 k mx cp
      · exact t_5_2_2 k mx cp
      · exact t_5_2_3 k mx cp
      · exact t_5_2_4 k mx cp
      · exact t_5_2_5 k mx cp
      · exact t_5_2_6 k mx cp
      · exact t_5_2_7 k mx cp
      · exact t_5_2_8 k mx cp
    · rcases (by omega : s = 0 ∨ s = 1 ∨ s = 2 ∨ s = 3 ∨ s = 4 ∨ s = 5 ∨ s = 6 ∨ s = 7 ∨ s = 8) with rfl | rfl | rfl | rfl | rfl | rfl | rfl | rfl | rfl
      · exact t_5_3_0 k mx cp
      · exact t_5_3_1 k mx cp
      · exact t_5_3_2 k mx cp
      · exact t_5_3_3 k mx cp
      · exact t_5_3_4 k mx cp
      · exact t_5_3_5 k mx cp
      · exact t_5_3_6 k mx cp
      · exact t_5_3_7 k mx cp
      · exact t_5_3_8 k mx cp
  · rcases (by omega : r = 0 ∨ r = 1 ∨ r = 2 ∨ r = 3) with rfl | rfl | rfl | rfl
    · rcases (by omega : s = 0 ∨ s = 1 ∨ s = 2 ∨ s = 3 ∨ s = 4 ∨ s = 5 ∨ s = 6 ∨ s = 7 ∨ s = 8) with rfl | rfl | rfl | rfl | rfl | rfl | rfl | rfl | rfl
      · exact t_6_0_0 k mx cp
      · exact t_6_0_1 k mx cp
      · exact t_6_0_2 k mx cp
      · exact t_6_0_3 k mx cp
      · exact t_6_0_4 k mx cp
      · exact t_6_0_5 k mx cp
      · exact t_6_0_6 k mx cp
      · exact t_6_0_7 k mx cp
      · exact t_6_0_8 k mx cp
    · rcases (by omega : s = 0 ∨ s = 1 ∨ s = 2 ∨ s = 3 ∨ s = 4 ∨ s = 5 ∨ s = 6 ∨ s = 7 ∨ s = 8) with rfl | rfl | rfl | rfl | rfl | rfl | rfl | rfl | rfl
      · exact t_6_1_0 k mx cp
      · exact t_6_1_1 k mx cp
      · exact t_6_1_2 k mx cp
      · exact t_6_1_3 k mx cp
      · exact t_6_1_4 k mx cp
      · exact t_6_1_5 k mx cp
      · exact t_6_1_6 k mx cp
      · exact t_6_1_7 k mx cp
      · exact t_6_1_8 k mx cp
    · rcases (by omega : s = 0 ∨ s = 1 ∨ s = 2 ∨ s = 3 ∨ s = 4 ∨ s = 5 ∨ s = 6 ∨ s = 7 ∨ s = 8) with rfl | rfl | rfl | rfl | rfl | rfl | rfl | rfl | rfl
      · exact t_6_2_0 k mx cp
      · exact t_6_2_1 k mx cp
      · exact t_6_2_2 k mx cp
      · exact t_6_2_3 k mx cp
      · exact t_6_2_4 k mx cp
      · exact t_6_2_5 k mx cp
      · exact t_6_2_6 k mx cp
      · exact t_6_2_7 k mx cp
      · exact t_6_2_8 k mx cp
    · rcases (by omega : s = 0 ∨ s = 1 ∨ s = 2 ∨ s = 3 ∨ s = 4 ∨ s = 5 ∨ s = 6 ∨ s = 7 ∨ s = 8) with rfl | rfl | rfl | rfl | rfl | rfl | rfl | rfl | rfl
      · exact t_6_3_0 k mx cp
      · exact t_6_3_1 k mx cp
      · exact t_6_3_2 k mx cp
      · exact t_6_3_3 k mx cp
      · exact t_6_3_4 k mx cp
      · exact t_6_3_5 k mx cp
      · exact t_6_3_6 k mx cp
      · exact t_6_3_7 k mx cp
      · exact t_6_3_8 k mx cp
  · rcases (by omega : r = 0 ∨ r = 1 ∨ r = 2 ∨ r = 3) with rfl | rfl | rfl | rfl
    · rcases (by omega : s = 0 ∨ s = 1 ∨ s = 2 ∨ s = 3 ∨ s = 4 ∨ s = 5 ∨ s = 6 ∨ s = 7 ∨ s = 8) with rfl | rfl | rfl | rfl | rfl | rfl | rfl | rfl | rfl
      · exact t_7_0_0 k mx cp
      · exact t_7_0_1 k mx cp
      · exact t_7_0_2 k mx cp
      · exact t_7_0_3 k mx cp
      · exact t_7_0_4 k mx cp
      · exact t_7_0_5 k mx cp
      · exact t_7_0_6 k mx cp
      · exact t_7_0_7 k mx cp
      · exact t_7_0_8 k mx cp
    · rcases (by omega : s = 0 ∨ s = 1 ∨ s = 2 ∨ s = 3 ∨ s = 4 ∨ s = 5 ∨ s = 6 ∨ s = 7 ∨ s = 8) with rfl | rfl | rfl | rfl | rfl | rfl | rfl | rfl | rfl
      · exact t_7_1_0 k mx cp
      · exact t_7_1_1 k mx cp
      · exact t_7_1_2 k mx cp
      · exact t_7_1_3 k mx cp
      · exact t_7_1_4 k mx cp
      · exact t_7_1_5 k mx cp
      · exact t_7_1_6 k mx cp
      · exact t_7_1_7 k mx cp
      · exact t_7_1_8 k mx cp
    · rcases (by omega : s = 0 ∨ s = 1 ∨ s = 2 ∨ s = 3 ∨ s = 4 ∨ s = 5 ∨ s = 6 ∨ s = 7 ∨ s = 8) with rfl | rfl | rfl | rfl | rfl | rfl | rfl | rfl | rfl
      · exact t_7_2_0 k mx cp
      · exact t_7_2_1 k mx cp
      · exact t_7_2_2 k mx cp
      · exact t_7_2_3 k mx cp
      · exact t_7_2_4 k mx cp
      · exact t_7_2_5 k mx cp
      · exact t_7_2_6 k mx cp
      · exact t_7_2_7 k mx cp
      · exact t_7_2_8 k mx cp
    · rcases (by omega : s = 0 ∨ s = 1 ∨ s = 2 ∨ s = 3 ∨ s = 4 ∨ s = 5 ∨ s = 6 ∨ s = 7 ∨ s = 8) with rfl | rfl | rfl | rfl | rfl | rfl | rfl | rfl | rfl
      · exact t_7_3_0 k mx cp
      · exact t_7_3_1 k mx cp
      · exact t_7_3_2 k mx cp
      · exact t_7_3_3 k mx cp
      · exact t_7_3_4 k mx cp
      · exact t_7_3_5 k mx cp
      · exact t_7_3_6 k mx cp
      · exact t_7_3_7 k mx cp
      · exact t_7_3_8 k mx cp
  · rcases (by omega : r = 0 ∨ r = 1 ∨ r = 2 ∨ r = 3) with rfl | rfl | rfl | rfl
    · rcases (by omega : s = 0 ∨ s = 1 ∨ s = 2 ∨ s = 3 ∨ s = 4 ∨ s = 5 ∨ s = 6 ∨ s = 7 ∨ s = 8) with rfl | rfl | rfl | rfl | rfl | rfl | rfl | rfl | rfl
      · exact t_8_0_0 k mx cp
      · exact t_8_0_1 k mx cp
      · exact t_8_0_2 k mx cp
      · exact t_8_0_3 k mx cp
      · exact t_8_0_4 k mx cp
      · exact t_8_0_5 k mx cp
      · exact t_8_0_6 k mx cp
      · exact t_8_0_7 k mx cp
      · exact t_8_0_8 k mx cp
    · rcases (by omega : s = 0 ∨ s = 1 ∨ s = 2 ∨ s = 3 ∨ s = 4 ∨ s = 5 ∨ s = 6 ∨ s = 7 ∨ s = 8) with rfl | rfl | rfl | rfl | rfl | rfl | rfl | rfl | rfl
      · exact t_8_1_0 k mx cp
      · exact t_8_1_1 k mx cp
      · exact t_8_1_2 k mx cp
      · exact t_8_1_3 k mx cp
      · exact t_8_1_4 k mx cp
      · exact t_8_1_5 k mx cp
      · exact t_8_1_6 k mx cp
      · exact t_8_1_7 k mx cp
      · exact t_8_1_8 k mx cp
    · rcases (by omega : s = 0 ∨ s = 1 ∨ s = 2 ∨ s = 3 ∨ s = 4 ∨ s = 5 ∨ s = 6 ∨ s = 7 ∨ s = 8) with rfl | rfl | rfl | rfl | rfl | rfl | rfl | rfl | rfl
      · exact t_8_2_0 k mx cp
      · exact t_8_2_1 k mx cp
      · exact t_8_2_2 k mx cp
      · exact t_8_2_3 k mx cp
      · exact t_8_2_4 k mx cp
      · exact t_8_2_5 k mx cp
      · exact t_8_2_6 k mx cp
      · exact t_8_2_7 k mx cp
      · exact t_8_2_8 k mx cp
    · rcases (by omega : s = 0 ∨ s = 1 ∨ s = 2 ∨ s = 3 ∨ s = 4 ∨ s = 5 ∨ s = 6 ∨ s = 7 ∨ s = 8) with rfl | rfl | rfl | rfl | rfl | rfl | rfl | rfl | rfl
      · exact t_8_3_0 k mx cp
      · exact t_8_3_1 k mx cp
      · exact t_8_3_2 k mx cp
      · exact t_8_3_3 k mx cp
      · exact t_8_3_4 k mx cp
      · exact t_8_3_5 k mx cp
      · exact t_8_3_6 k mx cp
      · exact t_8_3_7 k mx cp
      · exact t_8_3_8 k mx cp
  · rcases (by omega : r = 0 ∨ r = 1 ∨ r = 2 ∨ r = 3) with rfl | rfl | rfl | rfl
    · rcases (by omega : s = 0 ∨ s = 1 ∨ s = 2 ∨ s = 3 ∨ s = 4 ∨ s = 5 ∨ s = 6 ∨ s = 7 ∨ s = 8) with rfl | rfl | rfl | rfl | rfl | rfl | rfl | rfl | rfl
      · exact t_9_0_0 k mx cp
      · exact t_9_0_1 k mx cp
      · exact t_9_0_2 k mx cp
      · exact t_9_0_3 k mx cp
      · exact t_9_0_4 k mx cp
      · exact t_9_0_5 k mx cp
      · exact t_9_0_6 k mx cp
      · exact t_9_0_7 k mx cp
      · exact t_9_0_8 k mx cp
    · rcases (by omega : s = 0 ∨ s = 1 ∨ s = 2 ∨ s = 3 ∨ s = 4 ∨ s = 5 ∨ s = 6 ∨ s = 7 ∨ s = 8) with rfl | rfl | rfl | rfl | rfl | rfl | rfl | rfl | rfl
      · exact t_9_1_0 k mx cp
      · exact t_9_1_1 k mx cp
      · exact t_9_1_2 k mx cp
      · exact t_9_1_3 k mx cp
      · exact t_9_1_4 k mx cp
      · exact t_9_1_5 k mx cp
      · exact t_9_1_6 k mx cp
      · exact t_9_1_7 k mx cp
      · exact t_9_1_8 k mx cp
    · rcases (by omega : s = 0 ∨ s = 1 ∨ s = 2 ∨ s = 3 ∨ s = 4 ∨ s = 5 ∨ s = 6 ∨ s = 7 ∨ s = 8) with rfl | rfl | rfl | rfl | rfl | rfl | rfl | rfl | rfl
      · exact t_9_2_0 k mx cp
      · exact t_9_2_1 k mx cp
      · exact t_9_2_2 k mx cp
      · exact t_9_2_3 k mx cp
      · exact t_9_2_4 k mx cp
      · exact t_9_2_5 k mx cp
      · exact t_9_2_6 k mx cp
      · exact t_9_2_7 k mx cp
      · exact t_9_2_8 k mx cp
    · rcases (by omega : s = 0 ∨ s = 1 ∨ s = 2 ∨ s = 3 ∨ s = 4 ∨ s = 5 ∨ s = 6 ∨ s = 7 ∨ s = 8) with rfl | rfl | rfl | rfl | rfl | rfl | rfl | rfl | rfl
      · exact t_9_3_0 k mx cp
      · exact t_9_3_1 k mx cp
      · exact t_9_3_2 k mx cp
      · exact t_9_3_3 k mx cp
      · exact t_9_3_4 k mx cp
      · exact t_9_3_5 k mx cp
      · exact t_9_3_6 k mx cp
      · exact t_9_3_7 k mx cp
      · exact t_9_3_8 k mx cp
  · rcases (by omega : r = 0 ∨ r = 1 ∨ r = 2 ∨ r = 3) with rfl | rfl | rfl | rfl
    · rcases (by omega : s = 0 ∨ s = 1 ∨ s = 2 ∨ s = 3 ∨ s = 4 ∨ s = 5 ∨ s = 6 ∨ s = 7 ∨ s = 8) with rfl | rfl | rfl | rfl | rfl | rfl | rfl | rfl | rfl
      · exact t_10_0_0 k mx cp
      · exact t_10_0_1 k mx cp
      · exact t_10_0_2 k mx cp
      · exact t_10_0_3 k mx cp
      · exact t_10_0_4 k mx cp
      · exact t_10_0_5 k mx cp
      · exact t_10_0_6 k mx cp
      · exact t_10_0_7 k mx cp
      · exact t_10_0_8 k mx cp
    · rcases (by omega : s = 0 ∨ s = 1 ∨ s = 2 ∨ s = 3 ∨ s = 4 ∨ s = 5 ∨ s = 6 ∨ s = 7 ∨ s = 8) with rfl | rfl | rfl | rfl | rfl | rfl | rfl | rfl | rfl
      · exact t_10_1_0 k mx cp
      · exact t_10_1_1 k mx cp
      · exact t_10_1_2 k mx cp
      · exact t_10_1_3 k mx cp
      · exact t_10_1_4 k mx cp
      · exact t_10_1_5 k mx cp
      · exact t_10_1_6 k mx cp
      · exact t_10_1_7 k mx cp
      · exact t_10_1_8 k mx cp
    · rcases (by omega : s = 0 ∨ s = 1 ∨ s = 2 ∨ s = 3 ∨ s = 4 ∨ s = 5 ∨ s = 6 ∨ s = 7 ∨ s = 8) with rfl | rfl | rfl | rfl | rfl | rfl | rfl | rfl | rfl
      · exact t_10_2_0 k mx cp
      · exact t_10_2_1 k mx cp
      · exact t_10_2_2 k mx cp
      · exact t_10_2_3 k mx cp
      · exact t_10_2_4 k mx cp
      · exact t_10_2_5 k mx cp
      · exact t_10_2_6 k mx cp
      · exact t_10_2_7 k mx cp
      · exact t_10_2_8 k mx cp
    · rcases (by omega : s = 0 ∨ s = 1 ∨ s = 2 ∨ s = 3 ∨ s = 4 ∨ s = 5 ∨ s = 6 ∨ s = 7 ∨ s = 8) with rfl | rfl | rfl | rfl | rfl | rfl | rfl | rfl | rfl
      · exact t_10_3_0 k mx cp
      · exact t_10_3_1 k mx cp
      · exact t_10_3_2 k mx cp
      · exact t_10_3_3 k mx cp
      · exact t_10_3_4 k mx cp
      · exact t_10_3_5 k mx cp
      · exact t_10_3_6 k mx cp
      · exact t_10_3_7 k mx cp
      · exact t_10_3_8 k mx cp)
theorem synTypes_walk (x0 x1 x2 : Int) (W : World) (hL : laidMetH SynP Go.Proofs.YtjifjbdlenmciaaGreatDoor.Rows.synBindsRow.laid W) (hS : W.ShapedOpen SynP) : Calls SynP 6 #[.int .i64 x0, .int .i64 x1, .int .i64 x2] W fun e W' => e = .returned (.bool true) ∧ Below W.heap.size W W' := syn_walk3 synTypes_law x0 x1 x2 W hL hS
end Go.Xe
