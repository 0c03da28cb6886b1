/- GraphRings: cases, by the kernel. -/
import Derived.Test.YtdnakjagbhhmmaaXGr0
set_option linter.unusedVariables false
namespace Go.Xe
set_option maxRecDepth 100000
theorem gr_9_0 (k : Nat) : A3_0 (GraphE (k+2000)) (J3 (GraphE (k+2000)) (k+2000)) [nmG 9, nmG 0] S0 (fun v _ => v = .one (.s (.bool true))) = ((.one (.s (.bool true)) : AV) = .one (.s (.bool true))) := by kernel_rfl
theorem gr_9_1 (k : Nat) : A3_0 (GraphE (k+2000)) (J3 (GraphE (k+2000)) (k+2000)) [nmG 9, nmG 1] S0 (fun v _ => v = .one (.s (.bool true))) = ((.one (.s (.bool true)) : AV) = .one (.s (.bool true))) := by kernel_rfl
theorem gr_9_2 (k : Nat) : A3_0 (GraphE (k+2000)) (J3 (GraphE (k+2000)) (k+2000)) [nmG 9, nmG 2] S0 (fun v _ => v = .one (.s (.bool true))) = ((.one (.s (.bool true)) : AV) = .one (.s (.bool true))) := by kernel_rfl
theorem gr_9_3 (k : Nat) : A3_0 (GraphE (k+2000)) (J3 (GraphE (k+2000)) (k+2000)) [nmG 9, nmG 3] S0 (fun v _ => v = .one (.s (.bool true))) = ((.one (.s (.bool true)) : AV) = .one (.s (.bool true))) := by kernel_rfl
theorem gr_9_4 (k : Nat) : A3_0 (GraphE (k+2000)) (J3 (GraphE (k+2000)) (k+2000)) [nmG 9, nmG 4] S0 (fun v _ => v = .one (.s (.bool true))) = ((.one (.s (.bool true)) : AV) = .one (.s (.bool true))) := by kernel_rfl
theorem gr_9_5 (k : Nat) : A3_0 (GraphE (k+2000)) (J3 (GraphE (k+2000)) (k+2000)) [nmG 9, nmG 5] S0 (fun v _ => v = .one (.s (.bool true))) = ((.one (.s (.bool true)) : AV) = .one (.s (.bool true))) := by kernel_rfl
theorem gr_9_6 (k : Nat) : A3_0 (GraphE (k+2000)) (J3 (GraphE (k+2000)) (k+2000)) [nmG 9, nmG 6] S0 (fun v _ => v = .one (.s (.bool true))) = ((.one (.s (.bool true)) : AV) = .one (.s (.bool true))) := by kernel_rfl
theorem gr_9_7 (k : Nat) : A3_0 (GraphE (k+2000)) (J3 (GraphE (k+2000)) (k+2000)) [nmG 9, nmG 7] S0 (fun v _ => v = .one (.s (.bool true))) = ((.one (.s (.bool true)) : AV) = .one (.s (.bool true))) := by kernel_rfl
theorem gr_9_8 (k : Nat) : A3_0 (GraphE (k+2000)) (J3 (GraphE (k+2000)) (k+2000)) [nmG 9, nmG 8] S0 (fun v _ => v = .one (.s (.bool true))) = ((.one (.s (.bool true)) : AV) = .one (.s (.bool true))) := by kernel_rfl
theorem gr_9_9 (k : Nat) : A3_0 (GraphE (k+2000)) (J3 (GraphE (k+2000)) (k+2000)) [nmG 9, nmG 9] S0 (fun v _ => v = .one (.s (.bool true))) = ((.one (.s (.bool true)) : AV) = .one (.s (.bool true))) := by kernel_rfl
theorem gr_7_0 (k : Nat) : A3_0 (GraphE (k+2000)) (J3 (GraphE (k+2000)) (k+2000)) [nmG 7, nmG 0] S0 (fun v _ => v = .one (.s (.bool true))) = ((.one (.s (.bool true)) : AV) = .one (.s (.bool true))) := by kernel_rfl
theorem gr_7_1 (k : Nat) : A3_0 (GraphE (k+2000)) (J3 (GraphE (k+2000)) (k+2000)) [nmG 7, nmG 1] S0 (fun v _ => v = .one (.s (.bool true))) = ((.one (.s (.bool true)) : AV) = .one (.s (.bool true))) := by kernel_rfl
theorem gr_7_2 (k : Nat) : A3_0 (GraphE (k+2000)) (J3 (GraphE (k+2000)) (k+2000)) [nmG 7, nmG 2] S0 (fun v _ => v = .one (.s (.bool true))) = ((.one (.s (.bool true)) : AV) = .one (.s (.bool true))) := by kernel_rfl
theorem gr_7_3 (k : Nat) : A3_0 (GraphE (k+2000)) (J3 (GraphE (k+2000)) (k+2000)) [nmG 7, nmG 3] S0 (fun v _ => v = .one (.s (.bool true))) = ((.one (.s (.bool true)) : AV) = .one (.s (.bool true))) := by kernel_rfl
theorem gr_7_4 (k : Nat) : A3_0 (GraphE (k+2000)) (J3 (GraphE (k+2000)) (k+2000)) [nmG 7, nmG 4] S0 (fun v _ => v = .one (.s (.bool true))) = ((.one (.s (.bool true)) : AV) = .one (.s (.bool true))) := by kernel_rfl
theorem gr_7_5 (k : Nat) : A3_0 (GraphE (k+2000)) (J3 (GraphE (k+2000)) (k+2000)) [nmG 7, nmG 5] S0 (fun v _ => v = .one (.s (.bool true))) = ((.one (.s (.bool true)) : AV) = .one (.s (.bool true))) := by kernel_rfl
theorem gr_7_6 (k : Nat) : A3_0 (GraphE (k+2000)) (J3 (GraphE (k+2000)) (k+2000)) [nmG 7, nmG 6] S0 (fun v _ => v = .one (.s (.bool true))) = ((.one (.s (.bool true)) : AV) = .one (.s (.bool true))) := by kernel_rfl
theorem gr_7_7 (k : Nat) : A3_0 (GraphE (k+2000)) (J3 (GraphE (k+2000)) (k+2000)) [nmG 7, nmG 7] S0 (fun v _ => v = .one (.s (.bool true))) = ((.one (.s (.bool true)) : AV) = .one (.s (.bool true))) := by kernel_rfl
end Go.Xe
