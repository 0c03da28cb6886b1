/- Cases, by the kernel. -/
import Derived.Test.YtjifjbdlenmciaaGreatDoorXSy0
set_option linter.unusedVariables false
set_option linter.unusedSimpArgs false
set_option linter.constructorNameAsVariable false
set_option linter.unusedVariables false
namespace Go.Xe
set_option maxRecDepth 100000
theorem b_0_0 (k : Nat) (mx : Int) (cp : Nat → Nat) : A3_0 (SynE mx cp (k+4000)) (J3 (SynE mx cp (k+4000)) (k+4000)) [nmS 0, nmS 0] (SynS mx cp) isTrue = fine mx cp := by kernel_rfl
theorem b_0_4 (k : Nat) (mx : Int) (cp : Nat → Nat) : A3_0 (SynE mx cp (k+4000)) (J3 (SynE mx cp (k+4000)) (k+4000)) [nmS 0, nmS 4] (SynS mx cp) isTrue = fine mx cp := by kernel_rfl
theorem b_0_8 (k : Nat) (mx : Int) (cp : Nat → Nat) : A3_0 (SynE mx cp (k+4000)) (J3 (SynE mx cp (k+4000)) (k+4000)) [nmS 0, nmS 8] (SynS mx cp) isTrue = fine mx cp := by kernel_rfl
theorem b_1_2 (k : Nat) (mx : Int) (cp : Nat → Nat) : A3_0 (SynE mx cp (k+4000)) (J3 (SynE mx cp (k+4000)) (k+4000)) [nmS 1, nmS 2] (SynS mx cp) isTrue = fine mx cp := by kernel_rfl
theorem b_1_6 (k : Nat) (mx : Int) (cp : Nat → Nat) : A3_0 (SynE mx cp (k+4000)) (J3 (SynE mx cp (k+4000)) (k+4000)) [nmS 1, nmS 6] (SynS mx cp) isTrue = fine mx cp := by kernel_rfl
theorem b_2_0 (k : Nat) (mx : Int) (cp : Nat → Nat) : A3_0 (SynE mx cp (k+4000)) (J3 (SynE mx cp (k+4000)) (k+4000)) [nmS 2, nmS 0] (SynS mx cp) isTrue = fine mx cp := by kernel_rfl
theorem b_2_4 (k : Nat) (mx : Int) (cp : Nat → Nat) : A3_0 (SynE mx cp (k+4000)) (J3 (SynE mx cp (k+4000)) (k+4000)) [nmS 2, nmS 4] (SynS mx cp) isTrue = fine mx cp := by kernel_rfl
theorem b_2_8 (k : Nat) (mx : Int) (cp : Nat → Nat) : A3_0 (SynE mx cp (k+4000)) (J3 (SynE mx cp (k+4000)) (k+4000)) [nmS 2, nmS 8] (SynS mx cp) isTrue = fine mx cp := by kernel_rfl
theorem b_3_2 (k : Nat) (mx : Int) (cp : Nat → Nat) : A3_0 (SynE mx cp (k+4000)) (J3 (SynE mx cp (k+4000)) (k+4000)) [nmS 3, nmS 2] (SynS mx cp) isTrue = fine mx cp := by kernel_rfl
theorem b_3_6 (k : Nat) (mx : Int) (cp : Nat → Nat) : A3_0 (SynE mx cp (k+4000)) (J3 (SynE mx cp (k+4000)) (k+4000)) [nmS 3, nmS 6] (SynS mx cp) isTrue = fine mx cp := by kernel_rfl
theorem b_4_0 (k : Nat) (mx : Int) (cp : Nat → Nat) : A3_0 (SynE mx cp (k+4000)) (J3 (SynE mx cp (k+4000)) (k+4000)) [nmS 4, nmS 0] (SynS mx cp) isTrue = fine mx cp := by kernel_rfl
theorem b_4_4 (k : Nat) (mx : Int) (cp : Nat → Nat) : A3_0 (SynE mx cp (k+4000)) (J3 (SynE mx cp (k+4000)) (k+4000)) [nmS 4, nmS 4] (SynS mx cp) isTrue = fine mx cp := by kernel_rfl
theorem b_4_8 (k : Nat) (mx : Int) (cp : Nat → Nat) : A3_0 (SynE mx cp (k+4000)) (J3 (SynE mx cp (k+4000)) (k+4000)) [nmS 4, nmS 8] (SynS mx cp) isTrue = fine mx cp := by kernel_rfl
theorem b_5_2 (k : Nat) (mx : Int) (cp : Nat → Nat) : A3_0 (SynE mx cp (k+4000)) (J3 (SynE mx cp (k+4000)) (k+4000)) [nmS 5, nmS 2] (SynS mx cp) isTrue = fine mx cp := by kernel_rfl
theorem b_5_6 (k : Nat) (mx : Int) (cp : Nat → Nat) : A3_0 (SynE mx cp (k+4000)) (J3 (SynE mx cp (k+4000)) (k+4000)) [nmS 5, nmS 6] (SynS mx cp) isTrue = fine mx cp := by kernel_rfl
theorem b_6_0 (k : Nat) (mx : Int) (cp : Nat → Nat) : A3_0 (SynE mx cp (k+4000)) (J3 (SynE mx cp (k+4000)) (k+4000)) [nmS 6, nmS 0] (SynS mx cp) isTrue = fine mx cp := by kernel_rfl
theorem b_6_4 (k : Nat) (mx : Int) (cp : Nat → Nat) : A3_0 (SynE mx cp (k+4000)) (J3 (SynE mx cp (k+4000)) (k+4000)) [nmS 6, nmS 4] (SynS mx cp) isTrue = fine mx cp := by kernel_rfl
theorem b_6_8 (k : Nat) (mx : Int) (cp : Nat → Nat) : A3_0 (SynE mx cp (k+4000)) (J3 (SynE mx cp (k+4000)) (k+4000)) [nmS 6, nmS 8] (SynS mx cp) isTrue = fine mx cp := by kernel_rfl
theorem b_7_2 (k : Nat) (mx : Int) (cp : Nat → Nat) : A3_0 (SynE mx cp (k+4000)) (J3 (SynE mx cp (k+4000)) (k+4000)) [nmS 7, nmS 2] (SynS mx cp) isTrue = fine mx cp := by kernel_rfl
theorem b_7_6 (k : Nat) (mx : Int) (cp : Nat → Nat) : A3_0 (SynE mx cp (k+4000)) (J3 (SynE mx cp (k+4000)) (k+4000)) [nmS 7, nmS 6] (SynS mx cp) isTrue = fine mx cp := by kernel_rfl
theorem b_8_0 (k : Nat) (mx : Int) (cp : Nat → Nat) : A3_0 (SynE mx cp (k+4000)) (J3 (SynE mx cp (k+4000)) (k+4000)) [nmS 8, nmS 0] (SynS mx cp) isTrue = fine mx cp := by kernel_rfl
theorem b_8_4 (k : Nat) (mx : Int) (cp : Nat → Nat) : A3_0 (SynE mx cp (k+4000)) (J3 (SynE mx cp (k+4000)) (k+4000)) [nmS 8, nmS 4] (SynS mx cp) isTrue = fine mx cp := by kernel_rfl
theorem b_8_8 (k : Nat) (mx : Int) (cp : Nat → Nat) : A3_0 (SynE mx cp (k+4000)) (J3 (SynE mx cp (k+4000)) (k+4000)) [nmS 8, nmS 8] (SynS mx cp) isTrue = fine mx cp := by kernel_rfl
theorem b_9_2 (k : Nat) (mx : Int) (cp : Nat → Nat) : A3_0 (SynE mx cp (k+4000)) (J3 (SynE mx cp (k+4000)) (k+4000)) [nmS 9, nmS 2] (SynS mx cp) isTrue = fine mx cp := by kernel_rfl
theorem b_9_6 (k : Nat) (mx : Int) (cp : Nat → Nat) : A3_0 (SynE mx cp (k+4000)) (J3 (SynE mx cp (k+4000)) (k+4000)) [nmS 9, nmS 6] (SynS mx cp) isTrue = fine mx cp := by kernel_rfl
end Go.Xe
