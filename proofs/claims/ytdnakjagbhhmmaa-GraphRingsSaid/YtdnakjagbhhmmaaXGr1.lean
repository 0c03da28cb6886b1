/- GraphRings: cases, by the kernel. -/
import Derived.Test.YtdnakjagbhhmmaaXGr0
set_option linter.unusedVariables false
namespace Go.Xe
set_option maxRecDepth 100000
theorem gr_11_0 (k : Nat) : A3_0 (GraphE (k+2000)) (J3 (GraphE (k+2000)) (k+2000)) [nmG 11, nmG 0] S0 (fun v _ => v = .one (.s (.bool true))) = ((.one (.s (.bool true)) : AV) = .one (.s (.bool true))) := by kernel_rfl
theorem gr_11_1 (k : Nat) : A3_0 (GraphE (k+2000)) (J3 (GraphE (k+2000)) (k+2000)) [nmG 11, nmG 1] S0 (fun v _ => v = .one (.s (.bool true))) = ((.one (.s (.bool true)) : AV) = .one (.s (.bool true))) := by kernel_rfl
theorem gr_11_2 (k : Nat) : A3_0 (GraphE (k+2000)) (J3 (GraphE (k+2000)) (k+2000)) [nmG 11, nmG 2] S0 (fun v _ => v = .one (.s (.bool true))) = ((.one (.s (.bool true)) : AV) = .one (.s (.bool true))) := by kernel_rfl
theorem gr_11_3 (k : Nat) : A3_0 (GraphE (k+2000)) (J3 (GraphE (k+2000)) (k+2000)) [nmG 11, nmG 3] S0 (fun v _ => v = .one (.s (.bool true))) = ((.one (.s (.bool true)) : AV) = .one (.s (.bool true))) := by kernel_rfl
theorem gr_11_4 (k : Nat) : A3_0 (GraphE (k+2000)) (J3 (GraphE (k+2000)) (k+2000)) [nmG 11, nmG 4] S0 (fun v _ => v = .one (.s (.bool true))) = ((.one (.s (.bool true)) : AV) = .one (.s (.bool true))) := by kernel_rfl
theorem gr_11_5 (k : Nat) : A3_0 (GraphE (k+2000)) (J3 (GraphE (k+2000)) (k+2000)) [nmG 11, nmG 5] S0 (fun v _ => v = .one (.s (.bool true))) = ((.one (.s (.bool true)) : AV) = .one (.s (.bool true))) := by kernel_rfl
theorem gr_11_6 (k : Nat) : A3_0 (GraphE (k+2000)) (J3 (GraphE (k+2000)) (k+2000)) [nmG 11, nmG 6] S0 (fun v _ => v = .one (.s (.bool true))) = ((.one (.s (.bool true)) : AV) = .one (.s (.bool true))) := by kernel_rfl
theorem gr_11_7 (k : Nat) : A3_0 (GraphE (k+2000)) (J3 (GraphE (k+2000)) (k+2000)) [nmG 11, nmG 7] S0 (fun v _ => v = .one (.s (.bool true))) = ((.one (.s (.bool true)) : AV) = .one (.s (.bool true))) := by kernel_rfl
theorem gr_11_8 (k : Nat) : A3_0 (GraphE (k+2000)) (J3 (GraphE (k+2000)) (k+2000)) [nmG 11, nmG 8] S0 (fun v _ => v = .one (.s (.bool true))) = ((.one (.s (.bool true)) : AV) = .one (.s (.bool true))) := by kernel_rfl
theorem gr_11_9 (k : Nat) : A3_0 (GraphE (k+2000)) (J3 (GraphE (k+2000)) (k+2000)) [nmG 11, nmG 9] S0 (fun v _ => v = .one (.s (.bool true))) = ((.one (.s (.bool true)) : AV) = .one (.s (.bool true))) := by kernel_rfl
theorem gr_11_10 (k : Nat) : A3_0 (GraphE (k+2000)) (J3 (GraphE (k+2000)) (k+2000)) [nmG 11, nmG 10] S0 (fun v _ => v = .one (.s (.bool true))) = ((.one (.s (.bool true)) : AV) = .one (.s (.bool true))) := by kernel_rfl
theorem gr_11_11 (k : Nat) : A3_0 (GraphE (k+2000)) (J3 (GraphE (k+2000)) (k+2000)) [nmG 11, nmG 11] S0 (fun v _ => v = .one (.s (.bool true))) = ((.one (.s (.bool true)) : AV) = .one (.s (.bool true))) := by kernel_rfl
theorem gr_3_0 (k : Nat) : A3_0 (GraphE (k+2000)) (J3 (GraphE (k+2000)) (k+2000)) [nmG 3, nmG 0] S0 (fun v _ => v = .one (.s (.bool true))) = ((.one (.s (.bool true)) : AV) = .one (.s (.bool true))) := by kernel_rfl
theorem gr_3_1 (k : Nat) : A3_0 (GraphE (k+2000)) (J3 (GraphE (k+2000)) (k+2000)) [nmG 3, nmG 1] S0 (fun v _ => v = .one (.s (.bool true))) = ((.one (.s (.bool true)) : AV) = .one (.s (.bool true))) := by kernel_rfl
theorem gr_3_2 (k : Nat) : A3_0 (GraphE (k+2000)) (J3 (GraphE (k+2000)) (k+2000)) [nmG 3, nmG 2] S0 (fun v _ => v = .one (.s (.bool true))) = ((.one (.s (.bool true)) : AV) = .one (.s (.bool true))) := by kernel_rfl
theorem gr_3_3 (k : Nat) : A3_0 (GraphE (k+2000)) (J3 (GraphE (k+2000)) (k+2000)) [nmG 3, nmG 3] S0 (fun v _ => v = .one (.s (.bool true))) = ((.one (.s (.bool true)) : AV) = .one (.s (.bool true))) := by kernel_rfl
theorem gr_2_0 (k : Nat) : A3_0 (GraphE (k+2000)) (J3 (GraphE (k+2000)) (k+2000)) [nmG 2, nmG 0] S0 (fun v _ => v = .one (.s (.bool true))) = ((.one (.s (.bool true)) : AV) = .one (.s (.bool true))) := by kernel_rfl
theorem gr_2_1 (k : Nat) : A3_0 (GraphE (k+2000)) (J3 (GraphE (k+2000)) (k+2000)) [nmG 2, nmG 1] S0 (fun v _ => v = .one (.s (.bool true))) = ((.one (.s (.bool true)) : AV) = .one (.s (.bool true))) := by kernel_rfl
theorem gr_2_2 (k : Nat) : A3_0 (GraphE (k+2000)) (J3 (GraphE (k+2000)) (k+2000)) [nmG 2, nmG 2] S0 (fun v _ => v = .one (.s (.bool true))) = ((.one (.s (.bool true)) : AV) = .one (.s (.bool true))) := by kernel_rfl
theorem gr_1_0 (k : Nat) : A3_0 (GraphE (k+2000)) (J3 (GraphE (k+2000)) (k+2000)) [nmG 1, nmG 0] S0 (fun v _ => v = .one (.s (.bool true))) = ((.one (.s (.bool true)) : AV) = .one (.s (.bool true))) := by kernel_rfl
theorem gr_1_1 (k : Nat) : A3_0 (GraphE (k+2000)) (J3 (GraphE (k+2000)) (k+2000)) [nmG 1, nmG 1] S0 (fun v _ => v = .one (.s (.bool true))) = ((.one (.s (.bool true)) : AV) = .one (.s (.bool true))) := by kernel_rfl
theorem gr_0_0 (k : Nat) : A3_0 (GraphE (k+2000)) (J3 (GraphE (k+2000)) (k+2000)) [nmG 0, nmG 0] S0 (fun v _ => v = .one (.s (.bool true))) = ((.one (.s (.bool true)) : AV) = .one (.s (.bool true))) := by kernel_rfl
end Go.Xe
