/- Cases, by the kernel. -/
import Derived.Test.YtjifjbdlenmciaaGreatDoorXSy0
set_option linter.unusedVariables false
set_option linter.unusedSimpArgs false
set_option linter.constructorNameAsVariable false
set_option linter.unusedVariables false
namespace Go.Xe
set_option maxRecDepth 100000
theorem n_0_1 (k : Nat) (mx : Int) (cp : Nat → Nat) : A7_0 (SynE mx cp (k+4000)) (J7 (SynE mx cp (k+4000)) (k+4000)) [nmS 0, nmS 1] (SynS mx cp) isTrue = fine mx cp := by kernel_rfl
theorem n_0_5 (k : Nat) (mx : Int) (cp : Nat → Nat) : A7_0 (SynE mx cp (k+4000)) (J7 (SynE mx cp (k+4000)) (k+4000)) [nmS 0, nmS 5] (SynS mx cp) isTrue = fine mx cp := by kernel_rfl
theorem n_1_2 (k : Nat) (mx : Int) (cp : Nat → Nat) : A7_0 (SynE mx cp (k+4000)) (J7 (SynE mx cp (k+4000)) (k+4000)) [nmS 1, nmS 2] (SynS mx cp) isTrue = fine mx cp := by kernel_rfl
theorem n_1_6 (k : Nat) (mx : Int) (cp : Nat → Nat) : A7_0 (SynE mx cp (k+4000)) (J7 (SynE mx cp (k+4000)) (k+4000)) [nmS 1, nmS 6] (SynS mx cp) isTrue = fine mx cp := by kernel_rfl
theorem n_2_3 (k : Nat) (mx : Int) (cp : Nat → Nat) : A7_0 (SynE mx cp (k+4000)) (J7 (SynE mx cp (k+4000)) (k+4000)) [nmS 2, nmS 3] (SynS mx cp) isTrue = fine mx cp := by kernel_rfl
theorem n_3_0 (k : Nat) (mx : Int) (cp : Nat → Nat) : A7_0 (SynE mx cp (k+4000)) (J7 (SynE mx cp (k+4000)) (k+4000)) [nmS 3, nmS 0] (SynS mx cp) isTrue = fine mx cp := by kernel_rfl
theorem n_3_4 (k : Nat) (mx : Int) (cp : Nat → Nat) : A7_0 (SynE mx cp (k+4000)) (J7 (SynE mx cp (k+4000)) (k+4000)) [nmS 3, nmS 4] (SynS mx cp) isTrue = fine mx cp := by kernel_rfl
theorem n_4_1 (k : Nat) (mx : Int) (cp : Nat → Nat) : A7_0 (SynE mx cp (k+4000)) (J7 (SynE mx cp (k+4000)) (k+4000)) [nmS 4, nmS 1] (SynS mx cp) isTrue = fine mx cp := by kernel_rfl
theorem n_4_5 (k : Nat) (mx : Int) (cp : Nat → Nat) : A7_0 (SynE mx cp (k+4000)) (J7 (SynE mx cp (k+4000)) (k+4000)) [nmS 4, nmS 5] (SynS mx cp) isTrue = fine mx cp := by kernel_rfl
theorem n_5_2 (k : Nat) (mx : Int) (cp : Nat → Nat) : A7_0 (SynE mx cp (k+4000)) (J7 (SynE mx cp (k+4000)) (k+4000)) [nmS 5, nmS 2] (SynS mx cp) isTrue = fine mx cp := by kernel_rfl
theorem n_5_6 (k : Nat) (mx : Int) (cp : Nat → Nat) : A7_0 (SynE mx cp (k+4000)) (J7 (SynE mx cp (k+4000)) (k+4000)) [nmS 5, nmS 6] (SynS mx cp) isTrue = fine mx cp := by kernel_rfl
theorem n_6_3 (k : Nat) (mx : Int) (cp : Nat → Nat) : A7_0 (SynE mx cp (k+4000)) (J7 (SynE mx cp (k+4000)) (k+4000)) [nmS 6, nmS 3] (SynS mx cp) isTrue = fine mx cp := by kernel_rfl
end Go.Xe
