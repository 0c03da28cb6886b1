/- A part of the proof: I1. -/
import Derived.Test.YtgjggcgdilahdaaXSir
set_option linter.unusedVariables false
set_option linter.unusedSimpArgs false
set_option linter.constructorNameAsVariable false
set_option linter.unusedVariables false
set_option maxRecDepth 100000
namespace Go.Xe
open Go.RowKit
variable {i : Nat → Option AO}
abbrev nm (x : Int) : AV := .one (.s (.int .i64 x))
abbrev wd (n : Int) (c : Bool) : AV := .one (.agg [.int .i64 n, .bool c])
theorem may_ok {H n M} (hK : Kn H n M) (c : Bool) {K : AV → St → Prop} (hk : ∀ H' n', n ≤ n' → Kn H' n' M → K (.one (.s (.bool true))) ⟨i, H', n'⟩) : DSIr 75 [wd 64 c] ⟨i, H, n⟩ K := by
  refine .e (S75 (JS_ok _ _ _ _) ?_)
  unfold F75_0
  repeat (first | ((with_reducible refine hK.letS ?_); clear hK; intro H hK) | ((with_reducible refine letK_i ?_)) | ((with_reducible apply uncK_e); exact rfl) | ((with_reducible apply cI_e); exact rfl) | ((with_reducible refine hK.at0 ?_)))
  refine ifK_f rfl ?_
  repeat (first | ((with_reducible refine letK_i ?_)) | ((with_reducible apply uncK_e); exact rfl) | ((with_reducible apply cI_e); exact rfl) | ((with_reducible refine hK.at0 ?_)) | ((with_reducible refine G75_q0 ?_); unfold F75_q0))
  refine ifK_f rfl ?_
  repeat (first | ((with_reducible refine letK_i ?_)) | ((with_reducible apply uncK_e); exact rfl) | ((with_reducible apply cI_e); exact rfl) | ((with_reducible refine hK.at0 ?_)))
  refine ifK_f rfl ?_
  repeat (first | ((with_reducible refine letK_i ?_)) | ((with_reducible apply uncK_e); exact rfl) | ((with_reducible apply cI_e); exact rfl) | ((with_reducible refine hK.at0 ?_)))
  refine hk _ _ ?_ ?_ <;> first | omega | exact (by first | exact hK | exact hK.tail | exact hK.tail.tail | exact hK.tail.tail.tail | exact hK.tail.tail.tail.tail | exact hK.tail.tail.tail.tail.tail | exact hK.tail.tail.tail.tail.tail.tail | exact hK.tail.tail.tail.tail.tail.tail.tail | exact hK.tail.tail.tail.tail.tail.tail.tail.tail)
def wrapU (x : Int) : Int := iwrap .i64 (shrI .u64 (shlI .u64 (iwrap .u64 x) 0) 0)
theorem wrapU_ok {H n M} (hK : Kn H n M) (x : Int) {K : AV → St → Prop} (hk : ∀ H' n', n ≤ n' → Kn H' n' M → K (nm (wrapU x)) ⟨i, H', n'⟩) : DSIr 62 [wd 64 false, nm x] ⟨i, H, n⟩ K := by
  refine .e (S62 (JS_ok _ _ _ _) ?_)
  unfold F62_0
  repeat (first | ((with_reducible refine hK.letS ?_); clear hK; intro H hK) | ((with_reducible apply uncK_e); exact rfl) | ((with_reducible apply cI_e); exact rfl) | ((with_reducible apply cB_e); exact rfl) | ((with_reducible refine hK.at0 ?_)) | ((with_reducible refine G62_q3 ?_); unfold F62_q3))
  refine may_ok hK _ (fun H n' hn hK => ?_)
  repeat (first | ((with_reducible refine letK_i ?_)))
  refine ifK_f rfl ?_
  repeat (first | ((with_reducible refine letK_i ?_)) | ((with_reducible apply uncK_e); exact rfl) | ((with_reducible refine hK.at0 ?_)) | ((with_reducible refine G62_q2 ?_); unfold F62_q2))
  refine ifK_t rfl ?_
  repeat (first | ((with_reducible refine letK_i ?_)) | ((with_reducible apply uncK_e); exact rfl) | ((with_reducible apply cI_e); exact rfl) | ((with_reducible refine hK.at0 ?_)) | ((with_reducible refine G62_q0 ?_); unfold F62_q0))
  refine req_i (by kernel_rfl) ?_
  repeat (first | ((with_reducible refine letK_i ?_)) | ((with_reducible apply uncK_e); exact rfl) | ((with_reducible apply cI_e); exact rfl) | ((with_reducible refine hK.at0 ?_)))
  refine req_i (by kernel_rfl) ?_
  repeat (first | ((with_reducible refine letK_i ?_)))
  refine hk _ _ ?_ ?_ <;> first | omega | exact (by first | exact hK | exact hK.tail | exact hK.tail.tail | exact hK.tail.tail.tail | exact hK.tail.tail.tail.tail | exact hK.tail.tail.tail.tail.tail | exact hK.tail.tail.tail.tail.tail.tail | exact hK.tail.tail.tail.tail.tail.tail.tail | exact hK.tail.tail.tail.tail.tail.tail.tail.tail)
end Go.Xe
