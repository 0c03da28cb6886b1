import Derived.Test.YticjocbgadgjpaaXF
namespace Go.Xe
set_option maxRecDepth 100000
theorem awake_run (k : Nat) : A6_0 (MemD (k+200)) (J6 (MemD (k+200)) (k+200)) [] S0 (fun v _ => v = .one (.s (.bool true))) = ((.one (.s (.bool true)) : AV) = .one (.s (.bool true))) := by kernel_rfl
end Go.Xe
