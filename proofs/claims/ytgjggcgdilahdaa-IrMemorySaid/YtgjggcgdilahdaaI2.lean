/- A part of the proof: I2. -/
import Derived.Test.YtgjggcgdilahdaaI1
set_option linter.unusedVariables false
set_option linter.unusedSimpArgs false
set_option linter.constructorNameAsVariable false
set_option linter.unusedVariables false
set_option maxRecDepth 100000
namespace Go.Xe
open Go.RowKit
variable {i : Nat → Option AO}
abbrev two (x : Int) (c : Bool) : AV := .tup [.s (.int .i64 x), .s (.bool c)]
theorem bin1 {H n M} (hK : Kn H n M) (a b : Int) {K : AV → St → Prop} (hk : ∀ H' n', n ≤ n' → Kn H' n' M → K (two (wrapU (iwrap .i64 (wrapU a + wrapU b))) true) ⟨i, H', n'⟩) : DSIr 74 [wd 64 false, nm 1, nm a, nm b] ⟨i, H, n⟩ K := by
  refine .e (S74 (JS_ok _ _ _ _) ?_)
  unfold F74_0
  repeat (first | ((with_reducible refine hK.letS ?_); clear hK; intro H hK) | ((with_reducible apply uncK_e); exact rfl) | ((with_reducible apply cI_e); exact rfl) | ((with_reducible apply cB_e); exact rfl) | ((with_reducible refine hK.at0 ?_)))
  refine may_ok hK _ (fun H n' hn hK => ?_)
  repeat (first | ((with_reducible refine letK_i ?_)) | ((with_reducible refine G74_q25 ?_); unfold F74_q25))
  refine ifK_f rfl ?_
  repeat (first | ((with_reducible refine letK_i ?_)) | ((with_reducible apply uncK_e); exact rfl) | ((with_reducible apply cI_e); exact rfl) | ((with_reducible refine hK.at0 ?_)))
  refine S74_2 ?_
  unfold F74_2
  refine ifK_f rfl ?_
  repeat (first | ((with_reducible apply uncK_e); exact rfl) | ((with_reducible apply cI_e); exact rfl) | ((with_reducible apply cB_e); exact rfl) | ((with_reducible apply pvcs_e); exact rfl) | ((with_reducible refine hK.at0 ?_)) | ((with_reducible refine G74_q27 ?_); unfold F74_q27))
  refine wrapU_ok hK _ (fun H n' hn hK => ?_)
  repeat (first | ((with_reducible refine letK_i ?_)) | ((with_reducible apply cI_e); exact rfl) | ((with_reducible apply scK_e); exact rfl))
  refine ifK_f rfl ?_
  repeat (first | ((with_reducible refine letK_i ?_)) | ((with_reducible refine G74_q26 ?_); unfold F74_q26))
  refine ifK_f rfl ?_
  repeat (first | ((with_reducible refine letK_i ?_)))
  refine S74_7 ?_
  unfold F74_7
  refine ifK_f rfl ?_
  repeat (first | ((with_reducible apply uncK_e); exact rfl) | ((with_reducible apply cI_e); exact rfl) | ((with_reducible apply cB_e); exact rfl) | ((with_reducible apply pvcs_e); exact rfl) | ((with_reducible refine hK.at0 ?_)) | ((with_reducible refine G74_q42 ?_); unfold F74_q42))
  refine wrapU_ok hK _ (fun H n' hn hK => ?_)
  repeat (first | ((with_reducible refine letK_i ?_)) | ((with_reducible apply cI_e); exact rfl) | ((with_reducible apply scK_e); exact rfl))
  refine ifK_t rfl ?_
  repeat (first | ((with_reducible refine letK_i ?_)) | ((with_reducible apply uncK_e); exact rfl) | ((with_reducible apply cI_e); exact rfl) | ((with_reducible apply cB_e); exact rfl) | ((with_reducible apply pvcs_e); exact rfl) | ((with_reducible refine ifK_f ?_ ?_); (with_reducible exact rfl)) | ((with_reducible refine hK.at0 ?_)) | ((with_reducible refine G74_q31 ?_); unfold F74_q31))
  refine wrapU_ok hK _ (fun H n' hn hK => ?_)
  repeat (first | ((with_reducible apply cI_e); exact rfl) | ((with_reducible apply scK_e); exact rfl))
  refine hk _ _ ?_ ?_ <;> first | omega | exact (by first | exact hK | exact hK.tail | exact hK.tail.tail | exact hK.tail.tail.tail | exact hK.tail.tail.tail.tail | exact hK.tail.tail.tail.tail.tail | exact hK.tail.tail.tail.tail.tail.tail | exact hK.tail.tail.tail.tail.tail.tail.tail | exact hK.tail.tail.tail.tail.tail.tail.tail.tail)
end Go.Xe
