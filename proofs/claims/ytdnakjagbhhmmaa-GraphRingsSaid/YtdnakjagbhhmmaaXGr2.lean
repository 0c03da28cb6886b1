/- GraphRings: cases, by the kernel. -/
import Derived.Test.YtdnakjagbhhmmaaXGr0
set_option linter.unusedVariables false
namespace Go.Xe
set_option maxRecDepth 100000
theorem gr_10_0 (k : Nat) : A3_0 (GraphE (k+2000)) (J3 (GraphE (k+2000)) (k+2000)) [nmG 10, nmG 0] S0 (fun v _ => v = .one (.s (.bool true))) = ((.one (.s (.bool true)) : AV) = .one (.s (.bool true))) := by kernel_rfl
theorem gr_10_1 (k : Nat) : A3_0 (GraphE (k+2000)) (J3 (GraphE (k+2000)) (k+2000)) [nmG 10, nmG 1] S0 (fun v _ => v = .one (.s (.bool true))) = ((.one (.s (.bool true)) : AV) = .one (.s (.bool true))) := by kernel_rfl
theorem gr_10_2 (k : Nat) : A3_0 (GraphE (k+2000)) (J3 (GraphE (k+2000)) (k+2000)) [nmG 10, nmG 2] S0 (fun v _ => v = .one (.s (.bool true))) = ((.one (.s (.bool true)) : AV) = .one (.s (.bool true))) := by kernel_rfl
theorem gr_10_3 (k : Nat) : A3_0 (GraphE (k+2000)) (J3 (GraphE (k+2000)) (k+2000)) [nmG 10, nmG 3] S0 (fun v _ => v = .one (.s (.bool true))) = ((.one (.s (.bool true)) : AV) = .one (.s (.bool true))) := by kernel_rfl
theorem gr_10_4 (k : Nat) : A3_0 (GraphE (k+2000)) (J3 (GraphE (k+2000)) (k+2000)) [nmG 10, nmG 4] S0 (fun v _ => v = .one (.s (.bool true))) = ((.one (.s (.bool true)) : AV) = .one (.s (.bool true))) := by kernel_rfl
theorem gr_10_5 (k : Nat) : A3_0 (GraphE (k+2000)) (J3 (GraphE (k+2000)) (k+2000)) [nmG 10, nmG 5] S0 (fun v _ => v = .one (.s (.bool true))) = ((.one (.s (.bool true)) : AV) = .one (.s (.bool true))) := by kernel_rfl
theorem gr_10_6 (k : Nat) : A3_0 (GraphE (k+2000)) (J3 (GraphE (k+2000)) (k+2000)) [nmG 10, nmG 6] S0 (fun v _ => v = .one (.s (.bool true))) = ((.one (.s (.bool true)) : AV) = .one (.s (.bool true))) := by kernel_rfl
theorem gr_10_7 (k : Nat) : A3_0 (GraphE (k+2000)) (J3 (GraphE (k+2000)) (k+2000)) [nmG 10, nmG 7] S0 (fun v _ => v = .one (.s (.bool true))) = ((.one (.s (.bool true)) : AV) = .one (.s (.bool true))) := by kernel_rfl
theorem gr_10_8 (k : Nat) : A3_0 (GraphE (k+2000)) (J3 (GraphE (k+2000)) (k+2000)) [nmG 10, nmG 8] S0 (fun v _ => v = .one (.s (.bool true))) = ((.one (.s (.bool true)) : AV) = .one (.s (.bool true))) := by kernel_rfl
theorem gr_10_9 (k : Nat) : A3_0 (GraphE (k+2000)) (J3 (GraphE (k+2000)) (k+2000)) [nmG 10, nmG 9] S0 (fun v _ => v = .one (.s (.bool true))) = ((.one (.s (.bool true)) : AV) = .one (.s (.bool true))) := by kernel_rfl
theorem gr_10_10 (k : Nat) : A3_0 (GraphE (k+2000)) (J3 (GraphE (k+2000)) (k+2000)) [nmG 10, nmG 10] S0 (fun v _ => v = .one (.s (.bool true))) = ((.one (.s (.bool true)) : AV) = .one (.s (.bool true))) := by kernel_rfl
theorem gr_6_0 (k : Nat) : A3_0 (GraphE (k+2000)) (J3 (GraphE (k+2000)) (k+2000)) [nmG 6, nmG 0] S0 (fun v _ => v = .one (.s (.bool true))) = ((.one (.s (.bool true)) : AV) = .one (.s (.bool true))) := by kernel_rfl
theorem gr_6_1 (k : Nat) : A3_0 (GraphE (k+2000)) (J3 (GraphE (k+2000)) (k+2000)) [nmG 6, nmG 1] S0 (fun v _ => v = .one (.s (.bool true))) = ((.one (.s (.bool true)) : AV) = .one (.s (.bool true))) := by kernel_rfl
theorem gr_6_2 (k : Nat) : A3_0 (GraphE (k+2000)) (J3 (GraphE (k+2000)) (k+2000)) [nmG 6, nmG 2] S0 (fun v _ => v = .one (.s (.bool true))) = ((.one (.s (.bool true)) : AV) = .one (.s (.bool true))) := by kernel_rfl
theorem gr_6_3 (k : Nat) : A3_0 (GraphE (k+2000)) (J3 (GraphE (k+2000)) (k+2000)) [nmG 6, nmG 3] S0 (fun v _ => v = .one (.s (.bool true))) = ((.one (.s (.bool true)) : AV) = .one (.s (.bool true))) := by kernel_rfl
theorem gr_6_4 (k : Nat) : A3_0 (GraphE (k+2000)) (J3 (GraphE (k+2000)) (k+2000)) [nmG 6, nmG 4] S0 (fun v _ => v = .one (.s (.bool true))) = ((.one (.s (.bool true)) : AV) = .one (.s (.bool true))) := by kernel_rfl
theorem gr_6_5 (k : Nat) : A3_0 (GraphE (k+2000)) (J3 (GraphE (k+2000)) (k+2000)) [nmG 6, nmG 5] S0 (fun v _ => v = .one (.s (.bool true))) = ((.one (.s (.bool true)) : AV) = .one (.s (.bool true))) := by kernel_rfl
theorem gr_6_6 (k : Nat) : A3_0 (GraphE (k+2000)) (J3 (GraphE (k+2000)) (k+2000)) [nmG 6, nmG 6] S0 (fun v _ => v = .one (.s (.bool true))) = ((.one (.s (.bool true)) : AV) = .one (.s (.bool true))) := by kernel_rfl
end Go.Xe
