/- Cases, by the kernel. -/
import Derived.Test.YtjifjbdlenmciaaGreatDoorXSy0
set_option linter.unusedVariables false
set_option linter.unusedSimpArgs false
set_option linter.constructorNameAsVariable false
set_option linter.unusedVariables false
namespace Go.Xe
set_option maxRecDepth 100000
theorem b_0_3 (k : Nat) (mx : Int) (cp : Nat → Nat) : A3_0 (SynE mx cp (k+4000)) (J3 (SynE mx cp (k+4000)) (k+4000)) [nmS 0, nmS 3] (SynS mx cp) isTrue = fine mx cp := by kernel_rfl
theorem b_0_7 (k : Nat) (mx : Int) (cp : Nat → Nat) : A3_0 (SynE mx cp (k+4000)) (J3 (SynE mx cp (k+4000)) (k+4000)) [nmS 0, nmS 7] (SynS mx cp) isTrue = fine mx cp := by kernel_rfl
theorem b_1_1 (k : Nat) (mx : Int) (cp : Nat → Nat) : A3_0 (SynE mx cp (k+4000)) (J3 (SynE mx cp (k+4000)) (k+4000)) [nmS 1, nmS 1] (SynS mx cp) isTrue = fine mx cp := by kernel_rfl
theorem b_1_5 (k : Nat) (mx : Int) (cp : Nat → Nat) : A3_0 (SynE mx cp (k+4000)) (J3 (SynE mx cp (k+4000)) (k+4000)) [nmS 1, nmS 5] (SynS mx cp) isTrue = fine mx cp := by kernel_rfl
theorem b_1_9 (k : Nat) (mx : Int) (cp : Nat → Nat) : A3_0 (SynE mx cp (k+4000)) (J3 (SynE mx cp (k+4000)) (k+4000)) [nmS 1, nmS 9] (SynS mx cp) isTrue = fine mx cp := by kernel_rfl
theorem b_2_3 (k : Nat) (mx : Int) (cp : Nat → Nat) : A3_0 (SynE mx cp (k+4000)) (J3 (SynE mx cp (k+4000)) (k+4000)) [nmS 2, nmS 3] (SynS mx cp) isTrue = fine mx cp := by kernel_rfl
theorem b_2_7 (k : Nat) (mx : Int) (cp : Nat → Nat) : A3_0 (SynE mx cp (k+4000)) (J3 (SynE mx cp (k+4000)) (k+4000)) [nmS 2, nmS 7] (SynS mx cp) isTrue = fine mx cp := by kernel_rfl
theorem b_3_1 (k : Nat) (mx : Int) (cp : Nat → Nat) : A3_0 (SynE mx cp (k+4000)) (J3 (SynE mx cp (k+4000)) (k+4000)) [nmS 3, nmS 1] (SynS mx cp) isTrue = fine mx cp := by kernel_rfl
theorem b_3_5 (k : Nat) (mx : Int) (cp : Nat → Nat) : A3_0 (SynE mx cp (k+4000)) (J3 (SynE mx cp (k+4000)) (k+4000)) [nmS 3, nmS 5] (SynS mx cp) isTrue = fine mx cp := by kernel_rfl
theorem b_3_9 (k : Nat) (mx : Int) (cp : Nat → Nat) : A3_0 (SynE mx cp (k+4000)) (J3 (SynE mx cp (k+4000)) (k+4000)) [nmS 3, nmS 9] (SynS mx cp) isTrue = fine mx cp := by kernel_rfl
theorem b_4_3 (k : Nat) (mx : Int) (cp : Nat → Nat) : A3_0 (SynE mx cp (k+4000)) (J3 (SynE mx cp (k+4000)) (k+4000)) [nmS 4, nmS 3] (SynS mx cp) isTrue = fine mx cp := by kernel_rfl
theorem b_4_7 (k : Nat) (mx : Int) (cp : Nat → Nat) : A3_0 (SynE mx cp (k+4000)) (J3 (SynE mx cp (k+4000)) (k+4000)) [nmS 4, nmS 7] (SynS mx cp) isTrue = fine mx cp := by kernel_rfl
theorem b_5_1 (k : Nat) (mx : Int) (cp : Nat → Nat) : A3_0 (SynE mx cp (k+4000)) (J3 (SynE mx cp (k+4000)) (k+4000)) [nmS 5, nmS 1] (SynS mx cp) isTrue = fine mx cp := by kernel_rfl
theorem b_5_5 (k : Nat) (mx : Int) (cp : Nat → Nat) : A3_0 (SynE mx cp (k+4000)) (J3 (SynE mx cp (k+4000)) (k+4000)) [nmS 5, nmS 5] (SynS mx cp) isTrue = fine mx cp := by kernel_rfl
theorem b_5_9 (k : Nat) (mx : Int) (cp : Nat → Nat) : A3_0 (SynE mx cp (k+4000)) (J3 (SynE mx cp (k+4000)) (k+4000)) [nmS 5, nmS 9] (SynS mx cp) isTrue = fine mx cp := by kernel_rfl
theorem b_6_3 (k : Nat) (mx : Int) (cp : Nat → Nat) : A3_0 (SynE mx cp (k+4000)) (J3 (SynE mx cp (k+4000)) (k+4000)) [nmS 6, nmS 3] (SynS mx cp) isTrue = fine mx cp := by kernel_rfl
theorem b_6_7 (k : Nat) (mx : Int) (cp : Nat → Nat) : A3_0 (SynE mx cp (k+4000)) (J3 (SynE mx cp (k+4000)) (k+4000)) [nmS 6, nmS 7] (SynS mx cp) isTrue = fine mx cp := by kernel_rfl
theorem b_7_1 (k : Nat) (mx : Int) (cp : Nat → Nat) : A3_0 (SynE mx cp (k+4000)) (J3 (SynE mx cp (k+4000)) (k+4000)) [nmS 7, nmS 1] (SynS mx cp) isTrue = fine mx cp := by kernel_rfl
theorem b_7_5 (k : Nat) (mx : Int) (cp : Nat → Nat) : A3_0 (SynE mx cp (k+4000)) (J3 (SynE mx cp (k+4000)) (k+4000)) [nmS 7, nmS 5] (SynS mx cp) isTrue = fine mx cp := by kernel_rfl
theorem b_7_9 (k : Nat) (mx : Int) (cp : Nat → Nat) : A3_0 (SynE mx cp (k+4000)) (J3 (SynE mx cp (k+4000)) (k+4000)) [nmS 7, nmS 9] (SynS mx cp) isTrue = fine mx cp := by kernel_rfl
theorem b_8_3 (k : Nat) (mx : Int) (cp : Nat → Nat) : A3_0 (SynE mx cp (k+4000)) (J3 (SynE mx cp (k+4000)) (k+4000)) [nmS 8, nmS 3] (SynS mx cp) isTrue = fine mx cp := by kernel_rfl
theorem b_8_7 (k : Nat) (mx : Int) (cp : Nat → Nat) : A3_0 (SynE mx cp (k+4000)) (J3 (SynE mx cp (k+4000)) (k+4000)) [nmS 8, nmS 7] (SynS mx cp) isTrue = fine mx cp := by kernel_rfl
theorem b_9_1 (k : Nat) (mx : Int) (cp : Nat → Nat) : A3_0 (SynE mx cp (k+4000)) (J3 (SynE mx cp (k+4000)) (k+4000)) [nmS 9, nmS 1] (SynS mx cp) isTrue = fine mx cp := by kernel_rfl
theorem b_9_5 (k : Nat) (mx : Int) (cp : Nat → Nat) : A3_0 (SynE mx cp (k+4000)) (J3 (SynE mx cp (k+4000)) (k+4000)) [nmS 9, nmS 5] (SynS mx cp) isTrue = fine mx cp := by kernel_rfl
theorem b_9_9 (k : Nat) (mx : Int) (cp : Nat → Nat) : A3_0 (SynE mx cp (k+4000)) (J3 (SynE mx cp (k+4000)) (k+4000)) [nmS 9, nmS 9] (SynS mx cp) isTrue = fine mx cp := by kernel_rfl
end Go.Xe
