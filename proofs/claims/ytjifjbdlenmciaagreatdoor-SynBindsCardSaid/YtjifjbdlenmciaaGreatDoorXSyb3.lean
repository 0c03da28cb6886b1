/- Cases, by the kernel. -/
import Derived.Test.YtjifjbdlenmciaaGreatDoorXSy0
set_option linter.unusedVariables false
set_option linter.unusedSimpArgs false
set_option linter.constructorNameAsVariable false
set_option linter.unusedVariables false
namespace Go.Xe
set_option maxRecDepth 100000
theorem b_0_2 (k : Nat) (mx : Int) (cp : Nat → Nat) : A3_0 (SynE mx cp (k+4000)) (J3 (SynE mx cp (k+4000)) (k+4000)) [nmS 0, nmS 2] (SynS mx cp) isTrue = fine mx cp := by kernel_rfl
theorem b_0_6 (k : Nat) (mx : Int) (cp : Nat → Nat) : A3_0 (SynE mx cp (k+4000)) (J3 (SynE mx cp (k+4000)) (k+4000)) [nmS 0, nmS 6] (SynS mx cp) isTrue = fine mx cp := by kernel_rfl
theorem b_1_0 (k : Nat) (mx : Int) (cp : Nat → Nat) : A3_0 (SynE mx cp (k+4000)) (J3 (SynE mx cp (k+4000)) (k+4000)) [nmS 1, nmS 0] (SynS mx cp) isTrue = fine mx cp := by kernel_rfl
theorem b_1_4 (k : Nat) (mx : Int) (cp : Nat → Nat) : A3_0 (SynE mx cp (k+4000)) (J3 (SynE mx cp (k+4000)) (k+4000)) [nmS 1, nmS 4] (SynS mx cp) isTrue = fine mx cp := by kernel_rfl
theorem b_1_8 (k : Nat) (mx : Int) (cp : Nat → Nat) : A3_0 (SynE mx cp (k+4000)) (J3 (SynE mx cp (k+4000)) (k+4000)) [nmS 1, nmS 8] (SynS mx cp) isTrue = fine mx cp := by kernel_rfl
theorem b_2_2 (k : Nat) (mx : Int) (cp : Nat → Nat) : A3_0 (SynE mx cp (k+4000)) (J3 (SynE mx cp (k+4000)) (k+4000)) [nmS 2, nmS 2] (SynS mx cp) isTrue = fine mx cp := by kernel_rfl
theorem b_2_6 (k : Nat) (mx : Int) (cp : Nat → Nat) : A3_0 (SynE mx cp (k+4000)) (J3 (SynE mx cp (k+4000)) (k+4000)) [nmS 2, nmS 6] (SynS mx cp) isTrue = fine mx cp := by kernel_rfl
theorem b_3_0 (k : Nat) (mx : Int) (cp : Nat → Nat) : A3_0 (SynE mx cp (k+4000)) (J3 (SynE mx cp (k+4000)) (k+4000)) [nmS 3, nmS 0] (SynS mx cp) isTrue = fine mx cp := by kernel_rfl
theorem b_3_4 (k : Nat) (mx : Int) (cp : Nat → Nat) : A3_0 (SynE mx cp (k+4000)) (J3 (SynE mx cp (k+4000)) (k+4000)) [nmS 3, nmS 4] (SynS mx cp) isTrue = fine mx cp := by kernel_rfl
theorem b_3_8 (k : Nat) (mx : Int) (cp : Nat → Nat) : A3_0 (SynE mx cp (k+4000)) (J3 (SynE mx cp (k+4000)) (k+4000)) [nmS 3, nmS 8] (SynS mx cp) isTrue = fine mx cp := by kernel_rfl
theorem b_4_2 (k : Nat) (mx : Int) (cp : Nat → Nat) : A3_0 (SynE mx cp (k+4000)) (J3 (SynE mx cp (k+4000)) (k+4000)) [nmS 4, nmS 2] (SynS mx cp) isTrue = fine mx cp := by kernel_rfl
theorem b_4_6 (k : Nat) (mx : Int) (cp : Nat → Nat) : A3_0 (SynE mx cp (k+4000)) (J3 (SynE mx cp (k+4000)) (k+4000)) [nmS 4, nmS 6] (SynS mx cp) isTrue = fine mx cp := by kernel_rfl
theorem b_5_0 (k : Nat) (mx : Int) (cp : Nat → Nat) : A3_0 (SynE mx cp (k+4000)) (J3 (SynE mx cp (k+4000)) (k+4000)) [nmS 5, nmS 0] (SynS mx cp) isTrue = fine mx cp := by kernel_rfl
theorem b_5_4 (k : Nat) (mx : Int) (cp : Nat → Nat) : A3_0 (SynE mx cp (k+4000)) (J3 (SynE mx cp (k+4000)) (k+4000)) [nmS 5, nmS 4] (SynS mx cp) isTrue = fine mx cp := by kernel_rfl
theorem b_5_8 (k : Nat) (mx : Int) (cp : Nat → Nat) : A3_0 (SynE mx cp (k+4000)) (J3 (SynE mx cp (k+4000)) (k+4000)) [nmS 5, nmS 8] (SynS mx cp) isTrue = fine mx cp := by kernel_rfl
theorem b_6_2 (k : Nat) (mx : Int) (cp : Nat → Nat) : A3_0 (SynE mx cp (k+4000)) (J3 (SynE mx cp (k+4000)) (k+4000)) [nmS 6, nmS 2] (SynS mx cp) isTrue = fine mx cp := by kernel_rfl
theorem b_6_6 (k : Nat) (mx : Int) (cp : Nat → Nat) : A3_0 (SynE mx cp (k+4000)) (J3 (SynE mx cp (k+4000)) (k+4000)) [nmS 6, nmS 6] (SynS mx cp) isTrue = fine mx cp := by kernel_rfl
theorem b_7_0 (k : Nat) (mx : Int) (cp : Nat → Nat) : A3_0 (SynE mx cp (k+4000)) (J3 (SynE mx cp (k+4000)) (k+4000)) [nmS 7, nmS 0] (SynS mx cp) isTrue = fine mx cp := by kernel_rfl
theorem b_7_4 (k : Nat) (mx : Int) (cp : Nat → Nat) : A3_0 (SynE mx cp (k+4000)) (J3 (SynE mx cp (k+4000)) (k+4000)) [nmS 7, nmS 4] (SynS mx cp) isTrue = fine mx cp := by kernel_rfl
theorem b_7_8 (k : Nat) (mx : Int) (cp : Nat → Nat) : A3_0 (SynE mx cp (k+4000)) (J3 (SynE mx cp (k+4000)) (k+4000)) [nmS 7, nmS 8] (SynS mx cp) isTrue = fine mx cp := by kernel_rfl
theorem b_8_2 (k : Nat) (mx : Int) (cp : Nat → Nat) : A3_0 (SynE mx cp (k+4000)) (J3 (SynE mx cp (k+4000)) (k+4000)) [nmS 8, nmS 2] (SynS mx cp) isTrue = fine mx cp := by kernel_rfl
theorem b_8_6 (k : Nat) (mx : Int) (cp : Nat → Nat) : A3_0 (SynE mx cp (k+4000)) (J3 (SynE mx cp (k+4000)) (k+4000)) [nmS 8, nmS 6] (SynS mx cp) isTrue = fine mx cp := by kernel_rfl
theorem b_9_0 (k : Nat) (mx : Int) (cp : Nat → Nat) : A3_0 (SynE mx cp (k+4000)) (J3 (SynE mx cp (k+4000)) (k+4000)) [nmS 9, nmS 0] (SynS mx cp) isTrue = fine mx cp := by kernel_rfl
theorem b_9_4 (k : Nat) (mx : Int) (cp : Nat → Nat) : A3_0 (SynE mx cp (k+4000)) (J3 (SynE mx cp (k+4000)) (k+4000)) [nmS 9, nmS 4] (SynS mx cp) isTrue = fine mx cp := by kernel_rfl
theorem b_9_8 (k : Nat) (mx : Int) (cp : Nat → Nat) : A3_0 (SynE mx cp (k+4000)) (J3 (SynE mx cp (k+4000)) (k+4000)) [nmS 9, nmS 8] (SynS mx cp) isTrue = fine mx cp := by kernel_rfl
end Go.Xe
