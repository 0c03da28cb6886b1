/- GraphRings: cases, by the kernel. -/
import Derived.Test.YtdnakjagbhhmmaaXGr0
set_option linter.unusedVariables false
namespace Go.Xe
set_option maxRecDepth 100000
theorem gr_8_0 (k : Nat) : A3_0 (GraphE (k+2000)) (J3 (GraphE (k+2000)) (k+2000)) [nmG 8, nmG 0] S0 (fun v _ => v = .one (.s (.bool true))) = ((.one (.s (.bool true)) : AV) = .one (.s (.bool true))) := by kernel_rfl
theorem gr_8_1 (k : Nat) : A3_0 (GraphE (k+2000)) (J3 (GraphE (k+2000)) (k+2000)) [nmG 8, nmG 1] S0 (fun v _ => v = .one (.s (.bool true))) = ((.one (.s (.bool true)) : AV) = .one (.s (.bool true))) := by kernel_rfl
theorem gr_8_2 (k : Nat) : A3_0 (GraphE (k+2000)) (J3 (GraphE (k+2000)) (k+2000)) [nmG 8, nmG 2] S0 (fun v _ => v = .one (.s (.bool true))) = ((.one (.s (.bool true)) : AV) = .one (.s (.bool true))) := by kernel_rfl
theorem gr_8_3 (k : Nat) : A3_0 (GraphE (k+2000)) (J3 (GraphE (k+2000)) (k+2000)) [nmG 8, nmG 3] S0 (fun v _ => v = .one (.s (.bool true))) = ((.one (.s (.bool true)) : AV) = .one (.s (.bool true))) := by kernel_rfl
theorem gr_8_4 (k : Nat) : A3_0 (GraphE (k+2000)) (J3 (GraphE (k+2000)) (k+2000)) [nmG 8, nmG 4] S0 (fun v _ => v = .one (.s (.bool true))) = ((.one (.s (.bool true)) : AV) = .one (.s (.bool true))) := by kernel_rfl
theorem gr_8_5 (k : Nat) : A3_0 (GraphE (k+2000)) (J3 (GraphE (k+2000)) (k+2000)) [nmG 8, nmG 5] S0 (fun v _ => v = .one (.s (.bool true))) = ((.one (.s (.bool true)) : AV) = .one (.s (.bool true))) := by kernel_rfl
theorem gr_8_6 (k : Nat) : A3_0 (GraphE (k+2000)) (J3 (GraphE (k+2000)) (k+2000)) [nmG 8, nmG 6] S0 (fun v _ => v = .one (.s (.bool true))) = ((.one (.s (.bool true)) : AV) = .one (.s (.bool true))) := by kernel_rfl
theorem gr_8_7 (k : Nat) : A3_0 (GraphE (k+2000)) (J3 (GraphE (k+2000)) (k+2000)) [nmG 8, nmG 7] S0 (fun v _ => v = .one (.s (.bool true))) = ((.one (.s (.bool true)) : AV) = .one (.s (.bool true))) := by kernel_rfl
theorem gr_8_8 (k : Nat) : A3_0 (GraphE (k+2000)) (J3 (GraphE (k+2000)) (k+2000)) [nmG 8, nmG 8] S0 (fun v _ => v = .one (.s (.bool true))) = ((.one (.s (.bool true)) : AV) = .one (.s (.bool true))) := by kernel_rfl
theorem gr_5_0 (k : Nat) : A3_0 (GraphE (k+2000)) (J3 (GraphE (k+2000)) (k+2000)) [nmG 5, nmG 0] S0 (fun v _ => v = .one (.s (.bool true))) = ((.one (.s (.bool true)) : AV) = .one (.s (.bool true))) := by kernel_rfl
theorem gr_5_1 (k : Nat) : A3_0 (GraphE (k+2000)) (J3 (GraphE (k+2000)) (k+2000)) [nmG 5, nmG 1] S0 (fun v _ => v = .one (.s (.bool true))) = ((.one (.s (.bool true)) : AV) = .one (.s (.bool true))) := by kernel_rfl
theorem gr_5_2 (k : Nat) : A3_0 (GraphE (k+2000)) (J3 (GraphE (k+2000)) (k+2000)) [nmG 5, nmG 2] S0 (fun v _ => v = .one (.s (.bool true))) = ((.one (.s (.bool true)) : AV) = .one (.s (.bool true))) := by kernel_rfl
theorem gr_5_3 (k : Nat) : A3_0 (GraphE (k+2000)) (J3 (GraphE (k+2000)) (k+2000)) [nmG 5, nmG 3] S0 (fun v _ => v = .one (.s (.bool true))) = ((.one (.s (.bool true)) : AV) = .one (.s (.bool true))) := by kernel_rfl
theorem gr_5_4 (k : Nat) : A3_0 (GraphE (k+2000)) (J3 (GraphE (k+2000)) (k+2000)) [nmG 5, nmG 4] S0 (fun v _ => v = .one (.s (.bool true))) = ((.one (.s (.bool true)) : AV) = .one (.s (.bool true))) := by kernel_rfl
theorem gr_5_5 (k : Nat) : A3_0 (GraphE (k+2000)) (J3 (GraphE (k+2000)) (k+2000)) [nmG 5, nmG 5] S0 (fun v _ => v = .one (.s (.bool true))) = ((.one (.s (.bool true)) : AV) = .one (.s (.bool true))) := by kernel_rfl
theorem gr_4_0 (k : Nat) : A3_0 (GraphE (k+2000)) (J3 (GraphE (k+2000)) (k+2000)) [nmG 4, nmG 0] S0 (fun v _ => v = .one (.s (.bool true))) = ((.one (.s (.bool true)) : AV) = .one (.s (.bool true))) := by kernel_rfl
theorem gr_4_1 (k : Nat) : A3_0 (GraphE (k+2000)) (J3 (GraphE (k+2000)) (k+2000)) [nmG 4, nmG 1] S0 (fun v _ => v = .one (.s (.bool true))) = ((.one (.s (.bool true)) : AV) = .one (.s (.bool true))) := by kernel_rfl
theorem gr_4_2 (k : Nat) : A3_0 (GraphE (k+2000)) (J3 (GraphE (k+2000)) (k+2000)) [nmG 4, nmG 2] S0 (fun v _ => v = .one (.s (.bool true))) = ((.one (.s (.bool true)) : AV) = .one (.s (.bool true))) := by kernel_rfl
theorem gr_4_3 (k : Nat) : A3_0 (GraphE (k+2000)) (J3 (GraphE (k+2000)) (k+2000)) [nmG 4, nmG 3] S0 (fun v _ => v = .one (.s (.bool true))) = ((.one (.s (.bool true)) : AV) = .one (.s (.bool true))) := by kernel_rfl
theorem gr_4_4 (k : Nat) : A3_0 (GraphE (k+2000)) (J3 (GraphE (k+2000)) (k+2000)) [nmG 4, nmG 4] S0 (fun v _ => v = .one (.s (.bool true))) = ((.one (.s (.bool true)) : AV) = .one (.s (.bool true))) := by kernel_rfl
end Go.Xe
