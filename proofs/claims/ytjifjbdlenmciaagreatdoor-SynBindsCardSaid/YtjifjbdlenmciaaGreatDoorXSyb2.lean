/- Cases, by the kernel. -/
import Derived.Test.YtjifjbdlenmciaaGreatDoorXSy0
set_option linter.unusedVariables false
set_option linter.unusedSimpArgs false
set_option linter.constructorNameAsVariable false
set_option linter.unusedVariables false
namespace Go.Xe
set_option maxRecDepth 100000
theorem b_0_1 (k : Nat) (mx : Int) (cp : Nat → Nat) : A3_0 (SynE mx cp (k+4000)) (J3 (SynE mx cp (k+4000)) (k+4000)) [nmS 0, nmS 1] (SynS mx cp) isTrue = fine mx cp := by kernel_rfl
theorem b_0_5 (k : Nat) (mx : Int) (cp : Nat → Nat) : A3_0 (SynE mx cp (k+4000)) (J3 (SynE mx cp (k+4000)) (k+4000)) [nmS 0, nmS 5] (SynS mx cp) isTrue = fine mx cp := by kernel_rfl
theorem b_0_9 (k : Nat) (mx : Int) (cp : Nat → Nat) : A3_0 (SynE mx cp (k+4000)) (J3 (SynE mx cp (k+4000)) (k+4000)) [nmS 0, nmS 9] (SynS mx cp) isTrue = fine mx cp := by kernel_rfl
theorem b_1_3 (k : Nat) (mx : Int) (cp : Nat → Nat) : A3_0 (SynE mx cp (k+4000)) (J3 (SynE mx cp (k+4000)) (k+4000)) [nmS 1, nmS 3] (SynS mx cp) isTrue = fine mx cp := by kernel_rfl
theorem b_1_7 (k : Nat) (mx : Int) (cp : Nat → Nat) : A3_0 (SynE mx cp (k+4000)) (J3 (SynE mx cp (k+4000)) (k+4000)) [nmS 1, nmS 7] (SynS mx cp) isTrue = fine mx cp := by kernel_rfl
theorem b_2_1 (k : Nat) (mx : Int) (cp : Nat → Nat) : A3_0 (SynE mx cp (k+4000)) (J3 (SynE mx cp (k+4000)) (k+4000)) [nmS 2, nmS 1] (SynS mx cp) isTrue = fine mx cp := by kernel_rfl
theorem b_2_5 (k : Nat) (mx : Int) (cp : Nat → Nat) : A3_0 (SynE mx cp (k+4000)) (J3 (SynE mx cp (k+4000)) (k+4000)) [nmS 2, nmS 5] (SynS mx cp) isTrue = fine mx cp := by kernel_rfl
theorem b_2_9 (k : Nat) (mx : Int) (cp : Nat → Nat) : A3_0 (SynE mx cp (k+4000)) (J3 (SynE mx cp (k+4000)) (k+4000)) [nmS 2, nmS 9] (SynS mx cp) isTrue = fine mx cp := by kernel_rfl
theorem b_3_3 (k : Nat) (mx : Int) (cp : Nat → Nat) : A3_0 (SynE mx cp (k+4000)) (J3 (SynE mx cp (k+4000)) (k+4000)) [nmS 3, nmS 3] (SynS mx cp) isTrue = fine mx cp := by kernel_rfl
theorem b_3_7 (k : Nat) (mx : Int) (cp : Nat → Nat) : A3_0 (SynE mx cp (k+4000)) (J3 (SynE mx cp (k+4000)) (k+4000)) [nmS 3, nmS 7] (SynS mx cp) isTrue = fine mx cp := by kernel_rfl
theorem b_4_1 (k : Nat) (mx : Int) (cp : Nat → Nat) : A3_0 (SynE mx cp (k+4000)) (J3 (SynE mx cp (k+4000)) (k+4000)) [nmS 4, nmS 1] (SynS mx cp) isTrue = fine mx cp := by kernel_rfl
theorem b_4_5 (k : Nat) (mx : Int) (cp : Nat → Nat) : A3_0 (SynE mx cp (k+4000)) (J3 (SynE mx cp (k+4000)) (k+4000)) [nmS 4, nmS 5] (SynS mx cp) isTrue = fine mx cp := by kernel_rfl
theorem b_4_9 (k : Nat) (mx : Int) (cp : Nat → Nat) : A3_0 (SynE mx cp (k+4000)) (J3 (SynE mx cp (k+4000)) (k+4000)) [nmS 4, nmS 9] (SynS mx cp) isTrue = fine mx cp := by kernel_rfl
theorem b_5_3 (k : Nat) (mx : Int) (cp : Nat → Nat) : A3_0 (SynE mx cp (k+4000)) (J3 (SynE mx cp (k+4000)) (k+4000)) [nmS 5, nmS 3] (SynS mx cp) isTrue = fine mx cp := by kernel_rfl
theorem b_5_7 (k : Nat) (mx : Int) (cp : Nat → Nat) : A3_0 (SynE mx cp (k+4000)) (J3 (SynE mx cp (k+4000)) (k+4000)) [nmS 5, nmS 7] (SynS mx cp) isTrue = fine mx cp := by kernel_rfl
theorem b_6_1 (k : Nat) (mx : Int) (cp : Nat → Nat) : A3_0 (SynE mx cp (k+4000)) (J3 (SynE mx cp (k+4000)) (k+4000)) [nmS 6, nmS 1] (SynS mx cp) isTrue = fine mx cp := by kernel_rfl
theorem b_6_5 (k : Nat) (mx : Int) (cp : Nat → Nat) : A3_0 (SynE mx cp (k+4000)) (J3 (SynE mx cp (k+4000)) (k+4000)) [nmS 6, nmS 5] (SynS mx cp) isTrue = fine mx cp := by kernel_rfl
theorem b_6_9 (k : Nat) (mx : Int) (cp : Nat → Nat) : A3_0 (SynE mx cp (k+4000)) (J3 (SynE mx cp (k+4000)) (k+4000)) [nmS 6, nmS 9] (SynS mx cp) isTrue = fine mx cp := by kernel_rfl
theorem b_7_3 (k : Nat) (mx : Int) (cp : Nat → Nat) : A3_0 (SynE mx cp (k+4000)) (J3 (SynE mx cp (k+4000)) (k+4000)) [nmS 7, nmS 3] (SynS mx cp) isTrue = fine mx cp := by kernel_rfl
theorem b_7_7 (k : Nat) (mx : Int) (cp : Nat → Nat) : A3_0 (SynE mx cp (k+4000)) (J3 (SynE mx cp (k+4000)) (k+4000)) [nmS 7, nmS 7] (SynS mx cp) isTrue = fine mx cp := by kernel_rfl
theorem b_8_1 (k : Nat) (mx : Int) (cp : Nat → Nat) : A3_0 (SynE mx cp (k+4000)) (J3 (SynE mx cp (k+4000)) (k+4000)) [nmS 8, nmS 1] (SynS mx cp) isTrue = fine mx cp := by kernel_rfl
theorem b_8_5 (k : Nat) (mx : Int) (cp : Nat → Nat) : A3_0 (SynE mx cp (k+4000)) (J3 (SynE mx cp (k+4000)) (k+4000)) [nmS 8, nmS 5] (SynS mx cp) isTrue = fine mx cp := by kernel_rfl
theorem b_8_9 (k : Nat) (mx : Int) (cp : Nat → Nat) : A3_0 (SynE mx cp (k+4000)) (J3 (SynE mx cp (k+4000)) (k+4000)) [nmS 8, nmS 9] (SynS mx cp) isTrue = fine mx cp := by kernel_rfl
theorem b_9_3 (k : Nat) (mx : Int) (cp : Nat → Nat) : A3_0 (SynE mx cp (k+4000)) (J3 (SynE mx cp (k+4000)) (k+4000)) [nmS 9, nmS 3] (SynS mx cp) isTrue = fine mx cp := by kernel_rfl
theorem b_9_7 (k : Nat) (mx : Int) (cp : Nat → Nat) : A3_0 (SynE mx cp (k+4000)) (J3 (SynE mx cp (k+4000)) (k+4000)) [nmS 9, nmS 7] (SynS mx cp) isTrue = fine mx cp := by kernel_rfl
end Go.Xe
