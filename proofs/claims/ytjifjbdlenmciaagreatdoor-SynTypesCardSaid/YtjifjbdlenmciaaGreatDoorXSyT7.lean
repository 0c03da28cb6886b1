/- Cases, by the kernel. -/
import Derived.Test.YtjifjbdlenmciaaGreatDoorXSy0
set_option linter.unusedVariables false
set_option linter.unusedSimpArgs false
set_option linter.constructorNameAsVariable false
set_option linter.unusedVariables false
namespace Go.Xe
set_option maxRecDepth 100000
theorem t_0_0_6 (k : Nat) (mx : Int) (cp : Nat → Nat) : A6_0 (SynE mx cp (k+4000)) (J6 (SynE mx cp (k+4000)) (k+4000)) [nmS 0, nmS 0, nmS 6] (SynS mx cp) isTrue = fine mx cp := by kernel_rfl
theorem t_0_1_5 (k : Nat) (mx : Int) (cp : Nat → Nat) : A6_0 (SynE mx cp (k+4000)) (J6 (SynE mx cp (k+4000)) (k+4000)) [nmS 0, nmS 1, nmS 5] (SynS mx cp) isTrue = fine mx cp := by kernel_rfl
theorem t_0_2_4 (k : Nat) (mx : Int) (cp : Nat → Nat) : A6_0 (SynE mx cp (k+4000)) (J6 (SynE mx cp (k+4000)) (k+4000)) [nmS 0, nmS 2, nmS 4] (SynS mx cp) isTrue = fine mx cp := by kernel_rfl
theorem t_0_3_3 (k : Nat) (mx : Int) (cp : Nat → Nat) : A6_0 (SynE mx cp (k+4000)) (J6 (SynE mx cp (k+4000)) (k+4000)) [nmS 0, nmS 3, nmS 3] (SynS mx cp) isTrue = fine mx cp := by kernel_rfl
theorem t_1_0_2 (k : Nat) (mx : Int) (cp : Nat → Nat) : A6_0 (SynE mx cp (k+4000)) (J6 (SynE mx cp (k+4000)) (k+4000)) [nmS 1, nmS 0, nmS 2] (SynS mx cp) isTrue = fine mx cp := by kernel_rfl
theorem t_1_1_1 (k : Nat) (mx : Int) (cp : Nat → Nat) : A6_0 (SynE mx cp (k+4000)) (J6 (SynE mx cp (k+4000)) (k+4000)) [nmS 1, nmS 1, nmS 1] (SynS mx cp) isTrue = fine mx cp := by kernel_rfl
theorem t_1_2_0 (k : Nat) (mx : Int) (cp : Nat → Nat) : A6_0 (SynE mx cp (k+4000)) (J6 (SynE mx cp (k+4000)) (k+4000)) [nmS 1, nmS 2, nmS 0] (SynS mx cp) isTrue = fine mx cp := by kernel_rfl
theorem t_1_2_8 (k : Nat) (mx : Int) (cp : Nat → Nat) : A6_0 (SynE mx cp (k+4000)) (J6 (SynE mx cp (k+4000)) (k+4000)) [nmS 1, nmS 2, nmS 8] (SynS mx cp) isTrue = fine mx cp := by kernel_rfl
theorem t_1_3_7 (k : Nat) (mx : Int) (cp : Nat → Nat) : A6_0 (SynE mx cp (k+4000)) (J6 (SynE mx cp (k+4000)) (k+4000)) [nmS 1, nmS 3, nmS 7] (SynS mx cp) isTrue = fine mx cp := by kernel_rfl
theorem t_2_0_6 (k : Nat) (mx : Int) (cp : Nat → Nat) : A6_0 (SynE mx cp (k+4000)) (J6 (SynE mx cp (k+4000)) (k+4000)) [nmS 2, nmS 0, nmS 6] (SynS mx cp) isTrue = fine mx cp := by kernel_rfl
theorem t_2_1_5 (k : Nat) (mx : Int) (cp : Nat → Nat) : A6_0 (SynE mx cp (k+4000)) (J6 (SynE mx cp (k+4000)) (k+4000)) [nmS 2, nmS 1, nmS 5] (SynS mx cp) isTrue = fine mx cp := by kernel_rfl
theorem t_2_2_4 (k : Nat) (mx : Int) (cp : Nat → Nat) : A6_0 (SynE mx cp (k+4000)) (J6 (SynE mx cp (k+4000)) (k+4000)) [nmS 2, nmS 2, nmS 4] (SynS mx cp) isTrue = fine mx cp := by kernel_rfl
theorem t_2_3_3 (k : Nat) (mx : Int) (cp : Nat → Nat) : A6_0 (SynE mx cp (k+4000)) (J6 (SynE mx cp (k+4000)) (k+4000)) [nmS 2, nmS 3, nmS 3] (SynS mx cp) isTrue = fine mx cp := by kernel_rfl
theorem t_3_0_2 (k : Nat) (mx : Int) (cp : Nat → Nat) : A6_0 (SynE mx cp (k+4000)) (J6 (SynE mx cp (k+4000)) (k+4000)) [nmS 3, nmS 0, nmS 2] (SynS mx cp) isTrue = fine mx cp := by kernel_rfl
theorem t_3_1_1 (k : Nat) (mx : Int) (cp : Nat → Nat) : A6_0 (SynE mx cp (k+4000)) (J6 (SynE mx cp (k+4000)) (k+4000)) [nmS 3, nmS 1, nmS 1] (SynS mx cp) isTrue = fine mx cp := by kernel_rfl
theorem t_3_2_0 (k : Nat) (mx : Int) (cp : Nat → Nat) : A6_0 (SynE mx cp (k+4000)) (J6 (SynE mx cp (k+4000)) (k+4000)) [nmS 3, nmS 2, nmS 0] (SynS mx cp) isTrue = fine mx cp := by kernel_rfl
theorem t_3_2_8 (k : Nat) (mx : Int) (cp : Nat → Nat) : A6_0 (SynE mx cp (k+4000)) (J6 (SynE mx cp (k+4000)) (k+4000)) [nmS 3, nmS 2, nmS 8] (SynS mx cp) isTrue = fine mx cp := by kernel_rfl
theorem t_3_3_7 (k : Nat) (mx : Int) (cp : Nat → Nat) : A6_0 (SynE mx cp (k+4000)) (J6 (SynE mx cp (k+4000)) (k+4000)) [nmS 3, nmS 3, nmS 7] (SynS mx cp) isTrue = fine mx cp := by kernel_rfl
theorem t_4_0_6 (k : Nat) (mx : Int) (cp : Nat → Nat) : A6_0 (SynE mx cp (k+4000)) (J6 (SynE mx cp (k+4000)) (k+4000)) [nmS 4, nmS 0, nmS 6] (SynS mx cp) isTrue = fine mx cp := by kernel_rfl
theorem t_4_1_5 (k : Nat) (mx : Int) (cp : Nat → Nat) : A6_0 (SynE mx cp (k+4000)) (J6 (SynE mx cp (k+4000)) (k+4000)) [nmS 4, nmS 1, nmS 5] (SynS mx cp) isTrue = fine mx cp := by kernel_rfl
theorem t_4_2_4 (k : Nat) (mx : Int) (cp : Nat → Nat) : A6_0 (SynE mx cp (k+4000)) (J6 (SynE mx cp (k+4000)) (k+4000)) [nmS 4, nmS 2, nmS 4] (SynS mx cp) isTrue = fine mx cp := by kernel_rfl
theorem t_4_3_3 (k : Nat) (mx : Int) (cp : Nat → Nat) : A6_0 (SynE mx cp (k+4000)) (J6 (SynE mx cp (k+4000)) (k+4000)) [nmS 4, nmS 3, nmS 3] (SynS mx cp) isTrue = fine mx cp := by kernel_rfl
theorem t_5_0_2 (k : Nat) (mx : Int) (cp : Nat → Nat) : A6_0 (SynE mx cp (k+4000)) (J6 (SynE mx cp (k+4000)) (k+4000)) [nmS 5, nmS 0, nmS 2] (SynS mx cp) isTrue = fine mx cp := by kernel_rfl
theorem t_5_1_1 (k : Nat) (mx : Int) (cp : Nat → Nat) : A6_0 (SynE mx cp (k+4000)) (J6 (SynE mx cp (k+4000)) (k+4000)) [nmS 5, nmS 1, nmS 1] (SynS mx cp) isTrue = fine mx cp := by kernel_rfl
theorem t_5_2_0 (k : Nat) (mx : Int) (cp : Nat → Nat) : A6_0 (SynE mx cp (k+4000)) (J6 (SynE mx cp (k+4000)) (k+4000)) [nmS 5, nmS 2, nmS 0] (SynS mx cp) isTrue = fine mx cp := by kernel_rfl
theorem t_5_2_8 (k : Nat) (mx : Int) (cp : Nat → Nat) : A6_0 (SynE mx cp (k+4000)) (J6 (SynE mx cp (k+4000)) (k+4000)) [nmS 5, nmS 2, nmS 8] (SynS mx cp) isTrue = fine mx cp := by kernel_rfl
theorem t_5_3_7 (k : Nat) (mx : Int) (cp : Nat → Nat) : A6_0 (SynE mx cp (k+4000)) (J6 (SynE mx cp (k+4000)) (k+4000)) [nmS 5, nmS 3, nmS 7] (SynS mx cp) isTrue = fine mx cp := by kernel_rfl
theorem t_6_0_6 (k : Nat) (mx : Int) (cp : Nat → Nat) : A6_0 (SynE mx cp (k+4000)) (J6 (SynE mx cp (k+4000)) (k+4000)) [nmS 6, nmS 0, nmS 6] (SynS mx cp) isTrue = fine mx cp := by kernel_rfl
theorem t_6_1_5 (k : Nat) (mx : Int) (cp : Nat → Nat) : A6_0 (SynE mx cp (k+4000)) (J6 (SynE mx cp (k+4000)) (k+4000)) [nmS 6, nmS 1, nmS 5] (SynS mx cp) isTrue = fine mx cp := by kernel_rfl
theorem t_6_2_4 (k : Nat) (mx : Int) (cp : Nat → Nat) : A6_0 (SynE mx cp (k+4000)) (J6 (SynE mx cp (k+4000)) (k+4000)) [nmS 6, nmS 2, nmS 4] (SynS mx cp) isTrue = fine mx cp := by kernel_rfl
theorem t_6_3_3 (k : Nat) (mx : Int) (cp : Nat → Nat) : A6_0 (SynE mx cp (k+4000)) (J6 (SynE mx cp (k+4000)) (k+4000)) [nmS 6, nmS 3, nmS 3] (SynS mx cp) isTrue = fine mx cp := by kernel_rfl
theorem t_7_0_2 (k : Nat) (mx : Int) (cp : Nat → Nat) : A6_0 (SynE mx cp (k+4000)) (J6 (SynE mx cp (k+4000)) (k+4000)) [nmS 7, nmS 0, nmS 2] (SynS mx cp) isTrue = fine mx cp := by kernel_rfl
theorem t_7_1_1 (k : Nat) (mx : Int) (cp : Nat → Nat) : A6_0 (SynE mx cp (k+4000)) (J6 (SynE mx cp (k+4000)) (k+4000)) [nmS 7, nmS 1, nmS 1] (SynS mx cp) isTrue = fine mx cp := by kernel_rfl
theorem t_7_2_0 (k : Nat) (mx : Int) (cp : Nat → Nat) : A6_0 (SynE mx cp (k+4000)) (J6 (SynE mx cp (k+4000)) (k+4000)) [nmS 7, nmS 2, nmS 0] (SynS mx cp) isTrue = fine mx cp := by kernel_rfl
theorem t_7_2_8 (k : Nat) (mx : Int) (cp : Nat → Nat) : A6_0 (SynE mx cp (k+4000)) (J6 (SynE mx cp (k+4000)) (k+4000)) [nmS 7, nmS 2, nmS 8] (SynS mx cp) isTrue = fine mx cp := by kernel_rfl
theorem t_7_3_7 (k : Nat) (mx : Int) (cp : Nat → Nat) : A6_0 (SynE mx cp (k+4000)) (J6 (SynE mx cp (k+4000)) (k+4000)) [nmS 7, nmS 3, nmS 7] (SynS mx cp) isTrue = fine mx cp := by kernel_rfl
theorem t_8_0_6 (k : Nat) (mx : Int) (cp : Nat → Nat) : A6_0 (SynE mx cp (k+4000)) (J6 (SynE mx cp (k+4000)) (k+4000)) [nmS 8, nmS 0, nmS 6] (SynS mx cp) isTrue = fine mx cp := by kernel_rfl
theorem t_8_1_5 (k : Nat) (mx : Int) (cp : Nat → Nat) : A6_0 (SynE mx cp (k+4000)) (J6 (SynE mx cp (k+4000)) (k+4000)) [nmS 8, nmS 1, nmS 5] (SynS mx cp) isTrue = fine mx cp := by kernel_rfl
theorem t_8_2_4 (k : Nat) (mx : Int) (cp : Nat → Nat) : A6_0 (SynE mx cp (k+4000)) (J6 (SynE mx cp (k+4000)) (k+4000)) [nmS 8, nmS 2, nmS 4] (SynS mx cp) isTrue = fine mx cp := by kernel_rfl
theorem t_8_3_3 (k : Nat) (mx : Int) (cp : Nat → Nat) : A6_0 (SynE mx cp (k+4000)) (J6 (SynE mx cp (k+4000)) (k+4000)) [nmS 8, nmS 3, nmS 3] (SynS mx cp) isTrue = fine mx cp := by kernel_rfl
theorem t_9_0_2 (k : Nat) (mx : Int) (cp : Nat → Nat) : A6_0 (SynE mx cp (k+4000)) (J6 (SynE mx cp (k+4000)) (k+4000)) [nmS 9, nmS 0, nmS 2] (SynS mx cp) isTrue = fine mx cp := by kernel_rfl
theorem t_9_1_1 (k : Nat) (mx : Int) (cp : Nat → Nat) : A6_0 (SynE mx cp (k+4000)) (J6 (SynE mx cp (k+4000)) (k+4000)) [nmS 9, nmS 1, nmS 1] (SynS mx cp) isTrue = fine mx cp := by kernel_rfl
theorem t_9_2_0 (k : Nat) (mx : Int) (cp : Nat → Nat) : A6_0 (SynE mx cp (k+4000)) (J6 (SynE mx cp (k+4000)) (k+4000)) [nmS 9, nmS 2, nmS 0] (SynS mx cp) isTrue = fine mx cp := by kernel_rfl
theorem t_9_2_8 (k : Nat) (mx : Int) (cp : Nat → Nat) : A6_0 (SynE mx cp (k+4000)) (J6 (SynE mx cp (k+4000)) (k+4000)) [nmS 9, nmS 2, nmS 8] (SynS mx cp) isTrue = fine mx cp := by kernel_rfl
theorem t_9_3_7 (k : Nat) (mx : Int) (cp : Nat → Nat) : A6_0 (SynE mx cp (k+4000)) (J6 (SynE mx cp (k+4000)) (k+4000)) [nmS 9, nmS 3, nmS 7] (SynS mx cp) isTrue = fine mx cp := by kernel_rfl
theorem t_10_0_6 (k : Nat) (mx : Int) (cp : Nat → Nat) : A6_0 (SynE mx cp (k+4000)) (J6 (SynE mx cp (k+4000)) (k+4000)) [nmS 10, nmS 0, nmS 6] (SynS mx cp) isTrue = fine mx cp := by kernel_rfl
theorem t_10_1_5 (k : Nat) (mx : Int) (cp : Nat → Nat) : A6_0 (SynE mx cp (k+4000)) (J6 (SynE mx cp (k+4000)) (k+4000)) [nmS 10, nmS 1, nmS 5] (SynS mx cp) isTrue = fine mx cp := by kernel_rfl
theorem t_10_2_4 (k : Nat) (mx : Int) (cp : Nat → Nat) : A6_0 (SynE mx cp (k+4000)) (J6 (SynE mx cp (k+4000)) (k+4000)) [nmS 10, nmS 2, nmS 4] (SynS mx cp) isTrue = fine mx cp := by kernel_rfl
theorem t_10_3_3 (k : Nat) (mx : Int) (cp : Nat → Nat) : A6_0 (SynE mx cp (k+4000)) (J6 (SynE mx cp (k+4000)) (k+4000)) [nmS 10, nmS 3, nmS 3] (SynS mx cp) isTrue = fine mx cp := by kernel_rfl
end Go.Xe
