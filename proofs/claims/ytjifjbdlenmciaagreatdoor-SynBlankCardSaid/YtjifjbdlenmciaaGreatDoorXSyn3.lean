/- Cases, by the kernel. -/
import Derived.Test.YtjifjbdlenmciaaGreatDoorXSy0
set_option linter.unusedVariables false
set_option linter.unusedSimpArgs false
set_option linter.constructorNameAsVariable false
set_option linter.unusedVariables false
namespace Go.Xe
set_option maxRecDepth 100000
theorem n_0_2 (k : Nat) (mx : Int) (cp : Nat → Nat) : A7_0 (SynE mx cp (k+4000)) (J7 (SynE mx cp (k+4000)) (k+4000)) [nmS 0, nmS 2] (SynS mx cp) isTrue = fine mx cp := by kernel_rfl
theorem n_0_6 (k : Nat) (mx : Int) (cp : Nat → Nat) : A7_0 (SynE mx cp (k+4000)) (J7 (SynE mx cp (k+4000)) (k+4000)) [nmS 0, nmS 6] (SynS mx cp) isTrue = fine mx cp := by kernel_rfl
theorem n_1_3 (k : Nat) (mx : Int) (cp : Nat → Nat) : A7_0 (SynE mx cp (k+4000)) (J7 (SynE mx cp (k+4000)) (k+4000)) [nmS 1, nmS 3] (SynS mx cp) isTrue = fine mx cp := by kernel_rfl
theorem n_2_0 (k : Nat) (mx : Int) (cp : Nat → Nat) : A7_0 (SynE mx cp (k+4000)) (J7 (SynE mx cp (k+4000)) (k+4000)) [nmS 2, nmS 0] (SynS mx cp) isTrue = fine mx cp := by kernel_rfl
theorem n_2_4 (k : Nat) (mx : Int) (cp : Nat → Nat) : A7_0 (SynE mx cp (k+4000)) (J7 (SynE mx cp (k+4000)) (k+4000)) [nmS 2, nmS 4] (SynS mx cp) isTrue = fine mx cp := by kernel_rfl
theorem n_3_1 (k : Nat) (mx : Int) (cp : Nat → Nat) : A7_0 (SynE mx cp (k+4000)) (J7 (SynE mx cp (k+4000)) (k+4000)) [nmS 3, nmS 1] (SynS mx cp) isTrue = fine mx cp := by kernel_rfl
theorem n_3_5 (k : Nat) (mx : Int) (cp : Nat → Nat) : A7_0 (SynE mx cp (k+4000)) (J7 (SynE mx cp (k+4000)) (k+4000)) [nmS 3, nmS 5] (SynS mx cp) isTrue = fine mx cp := by kernel_rfl
theorem n_4_2 (k : Nat) (mx : Int) (cp : Nat → Nat) : A7_0 (SynE mx cp (k+4000)) (J7 (SynE mx cp (k+4000)) (k+4000)) [nmS 4, nmS 2] (SynS mx cp) isTrue = fine mx cp := by kernel_rfl
theorem n_4_6 (k : Nat) (mx : Int) (cp : Nat → Nat) : A7_0 (SynE mx cp (k+4000)) (J7 (SynE mx cp (k+4000)) (k+4000)) [nmS 4, nmS 6] (SynS mx cp) isTrue = fine mx cp := by kernel_rfl
theorem n_5_3 (k : Nat) (mx : Int) (cp : Nat → Nat) : A7_0 (SynE mx cp (k+4000)) (J7 (SynE mx cp (k+4000)) (k+4000)) [nmS 5, nmS 3] (SynS mx cp) isTrue = fine mx cp := by kernel_rfl
theorem n_6_0 (k : Nat) (mx : Int) (cp : Nat → Nat) : A7_0 (SynE mx cp (k+4000)) (J7 (SynE mx cp (k+4000)) (k+4000)) [nmS 6, nmS 0] (SynS mx cp) isTrue = fine mx cp := by kernel_rfl
theorem n_6_4 (k : Nat) (mx : Int) (cp : Nat → Nat) : A7_0 (SynE mx cp (k+4000)) (J7 (SynE mx cp (k+4000)) (k+4000)) [nmS 6, nmS 4] (SynS mx cp) isTrue = fine mx cp := by kernel_rfl
end Go.Xe
