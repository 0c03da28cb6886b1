/- Cases, by the kernel. -/
import Derived.Test.YtjifjbdlenmciaaGreatDoorXSy0
set_option linter.unusedVariables false
set_option linter.unusedSimpArgs false
set_option linter.constructorNameAsVariable false
set_option linter.unusedVariables false
namespace Go.Xe
set_option maxRecDepth 100000
theorem e_7_0 (k : Nat) (mx : Int) (cp : Nat → Nat) : A4_0 (SynE mx cp (k+4000)) (J4 (SynE mx cp (k+4000)) (k+4000)) [nmS 7, nmS 0] (SynS mx cp) isTrue = fine mx cp := by kernel_rfl
theorem e_7_4 (k : Nat) (mx : Int) (cp : Nat → Nat) : A4_0 (SynE mx cp (k+4000)) (J4 (SynE mx cp (k+4000)) (k+4000)) [nmS 7, nmS 4] (SynS mx cp) isTrue = fine mx cp := by kernel_rfl
theorem e_7_8 (k : Nat) (mx : Int) (cp : Nat → Nat) : A4_0 (SynE mx cp (k+4000)) (J4 (SynE mx cp (k+4000)) (k+4000)) [nmS 7, nmS 8] (SynS mx cp) isTrue = fine mx cp := by kernel_rfl
theorem e_6_3 (k : Nat) (mx : Int) (cp : Nat → Nat) : A4_0 (SynE mx cp (k+4000)) (J4 (SynE mx cp (k+4000)) (k+4000)) [nmS 6, nmS 3] (SynS mx cp) isTrue = fine mx cp := by kernel_rfl
theorem e_6_7 (k : Nat) (mx : Int) (cp : Nat → Nat) : A4_0 (SynE mx cp (k+4000)) (J4 (SynE mx cp (k+4000)) (k+4000)) [nmS 6, nmS 7] (SynS mx cp) isTrue = fine mx cp := by kernel_rfl
theorem e_5_3 (k : Nat) (mx : Int) (cp : Nat → Nat) : A4_0 (SynE mx cp (k+4000)) (J4 (SynE mx cp (k+4000)) (k+4000)) [nmS 5, nmS 3] (SynS mx cp) isTrue = fine mx cp := by kernel_rfl
theorem e_4_0 (k : Nat) (mx : Int) (cp : Nat → Nat) : A4_0 (SynE mx cp (k+4000)) (J4 (SynE mx cp (k+4000)) (k+4000)) [nmS 4, nmS 0] (SynS mx cp) isTrue = fine mx cp := by kernel_rfl
theorem e_4_4 (k : Nat) (mx : Int) (cp : Nat → Nat) : A4_0 (SynE mx cp (k+4000)) (J4 (SynE mx cp (k+4000)) (k+4000)) [nmS 4, nmS 4] (SynS mx cp) isTrue = fine mx cp := by kernel_rfl
theorem e_3_2 (k : Nat) (mx : Int) (cp : Nat → Nat) : A4_0 (SynE mx cp (k+4000)) (J4 (SynE mx cp (k+4000)) (k+4000)) [nmS 3, nmS 2] (SynS mx cp) isTrue = fine mx cp := by kernel_rfl
theorem e_2_1 (k : Nat) (mx : Int) (cp : Nat → Nat) : A4_0 (SynE mx cp (k+4000)) (J4 (SynE mx cp (k+4000)) (k+4000)) [nmS 2, nmS 1] (SynS mx cp) isTrue = fine mx cp := by kernel_rfl
theorem e_1_1 (k : Nat) (mx : Int) (cp : Nat → Nat) : A4_0 (SynE mx cp (k+4000)) (J4 (SynE mx cp (k+4000)) (k+4000)) [nmS 1, nmS 1] (SynS mx cp) isTrue = fine mx cp := by kernel_rfl
end Go.Xe
