/- A part of the proof: I5. -/
import Derived.Test.YtgjggcgdilahdaaI4
set_option linter.unusedVariables false
set_option linter.unusedSimpArgs false
set_option linter.constructorNameAsVariable false
set_option linter.unusedVariables false
set_option maxRecDepth 100000
namespace Go.Xe
open Go.RowKit
variable {i : Nat → Option AO}
theorem plain1 {H n M} (hK : Kn H n M) {a b : Int} (ha : In64 a) (hb : In64 b) {K : AV → St → Prop} (hk : ∀ H' n', n ≤ n' → Kn H' n' M → K (two (iwrap .i64 (a + b)) true) ⟨i, H', n'⟩) : CallE IrP IrG 61 [nm 1, nm a, nm b] ⟨i, H, n⟩ K := by
  refine S61 (JS_ok _ _ _ _) ?_
  unfold F61_0
  repeat (first | ((with_reducible refine hK.letS ?_); clear hK; intro H hK) | ((with_reducible refine letK_i ?_)) | ((with_reducible refine hK.wr0 ?_ ?_); exact rfl; clear hK; intro H hK) | ((with_reducible refine hK.wr1 ?_ ?_); exact rfl; clear hK; intro H hK) | ((with_reducible refine G61_q11 ?_); unfold F61_q11))
  refine ifK_f rfl ?_
  repeat (first | ((with_reducible refine letK_i ?_)) | ((with_reducible refine G61_q10 ?_); unfold F61_q10))
  refine ifK_f rfl ?_
  repeat (first | ((with_reducible refine letK_i ?_)) | ((with_reducible refine G61_q9 ?_); unfold F61_q9))
  refine ifK_f rfl ?_
  repeat (first | ((with_reducible refine letK_i ?_)))
  refine S61_5 ?_
  unfold F61_5
  refine ifK_f rfl ?_
  repeat (first | ((with_reducible refine letK_i ?_)) | ((with_reducible refine G61_q13 ?_); unfold F61_q13))
  refine ifK_f rfl ?_
  repeat (first | ((with_reducible refine letK_i ?_)))
  refine S61_10 ?_
  unfold F61_10
  refine ifK_f rfl ?_
  repeat (first | ((with_reducible refine letK_i ?_)) | ((with_reducible refine G61_q17 ?_); unfold F61_q17))
  refine ifK_f rfl ?_
  repeat (first | ((with_reducible apply uncK_e); exact rfl) | ((with_reducible apply cI_e); exact rfl) | ((with_reducible apply cB_e); exact rfl) | ((with_reducible apply pvcs_e); exact rfl) | ((with_reducible refine hK.at0 ?_)) | ((with_reducible refine G61_q16 ?_); unfold F61_q16))
  refine bin1 hK a b (fun H n' hn hK => ?_)
  rw [wrapU_id ha.1 ha.2, wrapU_id hb.1 hb.2, wrapU_w]
  repeat (first | ((with_reducible apply cI_e); exact rfl) | ((with_reducible apply cB_e); exact rfl) | ((with_reducible apply avT_e); exact rfl) | ((with_reducible apply uncV_e); exact rfl) | ((with_reducible apply v1S_e); exact rfl) | ((with_reducible apply endL_e); exact rfl))
  refine hk _ _ ?_ ?_ <;> first | omega | exact (by first | exact hK | exact hK.tail | exact hK.tail.tail | exact hK.tail.tail.tail | exact hK.tail.tail.tail.tail | exact hK.tail.tail.tail.tail.tail | exact hK.tail.tail.tail.tail.tail.tail | exact hK.tail.tail.tail.tail.tail.tail.tail | exact hK.tail.tail.tail.tail.tail.tail.tail.tail)
end Go.Xe
