/- A part of the proof: I5. -/
import Derived.Test.YtgjggcgdilahdaaI4
set_option linter.unusedVariables false
set_option linter.unusedSimpArgs false
set_option linter.constructorNameAsVariable false
set_option linter.unusedVariables false
set_option maxRecDepth 100000
namespace Go.Xe
open Go.RowKit
variable {i : Nat → Option AO}
def shr8 (a : Int) : Int := iwrap .i64 (shrI .u64 (iwrap .u64 a) 8)
theorem shift12 {H n M} (hK : Kn H n M) (a : Int) {K : AV → St → Prop} (hk : ∀ H' n', n ≤ n' → Kn H' n' M → K (two (shr8 a) true) ⟨i, H', n'⟩) : DSIr 82 [wd 64 false, nm 12, nm a, nm 8] ⟨i, H, n⟩ K := by
  refine .e (S82 (JS_ok _ _ _ _) ?_)
  unfold F82_0
  repeat (first | ((with_reducible refine hK.letS ?_); clear hK; intro H hK) | ((with_reducible refine letK_i ?_)) | ((with_reducible refine G82_q8 ?_); unfold F82_q8))
  refine ifK_f rfl ?_
  repeat (first | ((with_reducible refine letK_i ?_)) | ((with_reducible apply uncK_e); exact rfl) | ((with_reducible apply cI_e); exact rfl) | ((with_reducible refine hK.at0 ?_)))
  refine S82_2 ?_
  unfold F82_2
  refine ifK_f rfl ?_
  repeat (first | ((with_reducible refine letK_i ?_)) | ((with_reducible refine G82_q9 ?_); unfold F82_q9))
  refine ifK_t rfl ?_
  repeat (first | ((with_reducible refine letK_i ?_)) | ((with_reducible apply uncK_e); exact rfl) | ((with_reducible apply cB_e); exact rfl) | ((with_reducible refine hK.at0 ?_)))
  refine S82_6 ?_
  unfold F82_6
  refine ifK_f rfl ?_
  repeat (first | ((with_reducible refine letK_i ?_)))
  refine ifK_t rfl ?_
  repeat (first | ((with_reducible refine letK_i ?_)))
  refine req_i (by kernel_rfl) ?_
  repeat (first | ((with_reducible refine letK_i ?_)))
  refine hk _ _ ?_ ?_ <;> first | omega | exact (by first | exact hK | exact hK.tail | exact hK.tail.tail | exact hK.tail.tail.tail | exact hK.tail.tail.tail.tail | exact hK.tail.tail.tail.tail.tail | exact hK.tail.tail.tail.tail.tail.tail | exact hK.tail.tail.tail.tail.tail.tail.tail | exact hK.tail.tail.tail.tail.tail.tail.tail.tail)
theorem bin12 {H n M} (hK : Kn H n M) {a : Int} (ha : In64 a) {K : AV → St → Prop} (hk : ∀ H' n', n ≤ n' → Kn H' n' M → K (two (shr8 a) true) ⟨i, H', n'⟩) : DSIr 74 [wd 64 false, nm 12, nm a, nm 8] ⟨i, H, n⟩ K := by
  refine .e (S74 (JS_ok _ _ _ _) ?_)
  unfold F74_0
  repeat (first | ((with_reducible refine hK.letS ?_); clear hK; intro H hK) | ((with_reducible apply uncK_e); exact rfl) | ((with_reducible apply cI_e); exact rfl) | ((with_reducible apply cB_e); exact rfl) | ((with_reducible refine hK.at0 ?_)))
  refine may_ok hK _ (fun H n' hn hK => ?_)
  repeat (first | ((with_reducible refine letK_i ?_)) | ((with_reducible refine G74_q25 ?_); unfold F74_q25))
  refine ifK_f rfl ?_
  repeat (first | ((with_reducible refine letK_i ?_)) | ((with_reducible apply uncK_e); exact rfl) | ((with_reducible apply cI_e); exact rfl) | ((with_reducible refine hK.at0 ?_)))
  refine S74_2 ?_
  unfold F74_2
  refine ifK_f rfl ?_
  repeat (first | ((with_reducible apply uncK_e); exact rfl) | ((with_reducible apply cI_e); exact rfl) | ((with_reducible apply cB_e); exact rfl) | ((with_reducible apply pvcs_e); exact rfl) | ((with_reducible refine hK.at0 ?_)) | ((with_reducible refine G74_q27 ?_); unfold F74_q27))
  refine wrapU_ok hK _ (fun H n' hn hK => ?_)
  repeat (first | ((with_reducible refine letK_i ?_)) | ((with_reducible apply cI_e); exact rfl) | ((with_reducible apply scK_e); exact rfl))
  rw [wrapU_id ha.1 ha.2]
  refine ifK_f rfl ?_
  repeat (first | ((with_reducible refine letK_i ?_)) | ((with_reducible refine G74_q26 ?_); unfold F74_q26))
  refine ifK_t rfl ?_
  skip
  refine S74_7 ?_
  unfold F74_7
  refine ifK_t rfl ?_
  repeat (first | ((with_reducible apply uncK_e); exact rfl) | ((with_reducible apply cI_e); exact rfl) | ((with_reducible apply cB_e); exact rfl) | ((with_reducible apply pvcs_e); exact rfl) | ((with_reducible refine hK.at0 ?_)) | ((with_reducible refine G74_q28 ?_); unfold F74_q28))
  refine shift12 hK _ (fun H n' hn hK => ?_)
  repeat (first | ((with_reducible apply cI_e); exact rfl) | ((with_reducible apply cB_e); exact rfl) | ((with_reducible apply avT_e); exact rfl) | ((with_reducible apply uncV_e); exact rfl) | ((with_reducible apply v1S_e); exact rfl) | ((with_reducible apply endL_e); exact rfl))
  refine hk _ _ ?_ ?_ <;> first | omega | exact (by first | exact hK | exact hK.tail | exact hK.tail.tail | exact hK.tail.tail.tail | exact hK.tail.tail.tail.tail | exact hK.tail.tail.tail.tail.tail | exact hK.tail.tail.tail.tail.tail.tail | exact hK.tail.tail.tail.tail.tail.tail.tail | exact hK.tail.tail.tail.tail.tail.tail.tail.tail)
theorem plain1 {H n M} (hK : Kn H n M) {a b : Int} (ha : In64 a) (hb : In64 b) {K : AV → St → Prop} (hk : ∀ H' n', n ≤ n' → Kn H' n' M → K (two (iwrap .i64 (a + b)) true) ⟨i, H', n'⟩) : CallE IrP IrG 61 [nm 1, nm a, nm b] ⟨i, H, n⟩ K := by
  refine S61 (JS_ok _ _ _ _) ?_
  unfold F61_0
  repeat (first | ((with_reducible refine hK.letS ?_); clear hK; intro H hK) | ((with_reducible refine letK_i ?_)) | ((with_reducible refine hK.wr0 ?_ ?_); exact rfl; clear hK; intro H hK) | ((with_reducible refine hK.wr1 ?_ ?_); exact rfl; clear hK; intro H hK) | ((with_reducible refine G61_q11 ?_); unfold F61_q11))
  refine ifK_f rfl ?_
  repeat (first | ((with_reducible refine letK_i ?_)) | ((with_reducible refine G61_q10 ?_); unfold F61_q10))
  refine ifK_f rfl ?_
  repeat (first | ((with_reducible refine letK_i ?_)) | ((with_reducible refine G61_q9 ?_); unfold F61_q9))
  refine ifK_f rfl ?_
  repeat (first | ((with_reducible refine letK_i ?_)))
  refine S61_5 ?_
  unfold F61_5
  refine ifK_f rfl ?_
  repeat (first | ((with_reducible refine letK_i ?_)) | ((with_reducible refine G61_q13 ?_); unfold F61_q13))
  refine ifK_f rfl ?_
  repeat (first | ((with_reducible refine letK_i ?_)))
  refine S61_10 ?_
  unfold F61_10
  refine ifK_f rfl ?_
  repeat (first | ((with_reducible refine letK_i ?_)) | ((with_reducible refine G61_q17 ?_); unfold F61_q17))
  refine ifK_f rfl ?_
  repeat (first | ((with_reducible apply uncK_e); exact rfl) | ((with_reducible apply cI_e); exact rfl) | ((with_reducible apply cB_e); exact rfl) | ((with_reducible apply pvcs_e); exact rfl) | ((with_reducible refine hK.at0 ?_)) | ((with_reducible refine G61_q16 ?_); unfold F61_q16))
  refine bin1 hK a b (fun H n' hn hK => ?_)
  rw [wrapU_id ha.1 ha.2, wrapU_id hb.1 hb.2, wrapU_w]
  repeat (first | ((with_reducible apply cI_e); exact rfl) | ((with_reducible apply cB_e); exact rfl) | ((with_reducible apply avT_e); exact rfl) | ((with_reducible apply uncV_e); exact rfl) | ((with_reducible apply v1S_e); exact rfl) | ((with_reducible apply endL_e); exact rfl))
  refine hk _ _ ?_ ?_ <;> first | omega | exact (by first | exact hK | exact hK.tail | exact hK.tail.tail | exact hK.tail.tail.tail | exact hK.tail.tail.tail.tail | exact hK.tail.tail.tail.tail.tail | exact hK.tail.tail.tail.tail.tail.tail | exact hK.tail.tail.tail.tail.tail.tail.tail | exact hK.tail.tail.tail.tail.tail.tail.tail.tail)
theorem plain2 {H n M} (hK : Kn H n M) {a b : Int} (ha : In64 a) (hb : In64 b) {K : AV → St → Prop} (hk : ∀ H' n', n ≤ n' → Kn H' n' M → K (two (iwrap .i64 (a - b)) true) ⟨i, H', n'⟩) : CallE IrP IrG 61 [nm 2, nm a, nm b] ⟨i, H, n⟩ K := by
  refine S61 (JS_ok _ _ _ _) ?_
  unfold F61_0
  repeat (first | ((with_reducible refine hK.letS ?_); clear hK; intro H hK) | ((with_reducible refine letK_i ?_)) | ((with_reducible refine hK.wr0 ?_ ?_); exact rfl; clear hK; intro H hK) | ((with_reducible refine hK.wr1 ?_ ?_); exact rfl; clear hK; intro H hK) | ((with_reducible refine G61_q11 ?_); unfold F61_q11))
  refine ifK_f rfl ?_
  repeat (first | ((with_reducible refine letK_i ?_)) | ((with_reducible refine G61_q10 ?_); unfold F61_q10))
  refine ifK_f rfl ?_
  repeat (first | ((with_reducible refine letK_i ?_)) | ((with_reducible refine G61_q9 ?_); unfold F61_q9))
  refine ifK_f rfl ?_
  repeat (first | ((with_reducible refine letK_i ?_)))
  refine S61_5 ?_
  unfold F61_5
  refine ifK_f rfl ?_
  repeat (first | ((with_reducible refine letK_i ?_)) | ((with_reducible refine G61_q13 ?_); unfold F61_q13))
  refine ifK_f rfl ?_
  repeat (first | ((with_reducible refine letK_i ?_)))
  refine S61_10 ?_
  unfold F61_10
  refine ifK_f rfl ?_
  repeat (first | ((with_reducible refine letK_i ?_)) | ((with_reducible refine G61_q17 ?_); unfold F61_q17))
  refine ifK_f rfl ?_
  repeat (first | ((with_reducible apply uncK_e); exact rfl) | ((with_reducible apply cI_e); exact rfl) | ((with_reducible apply cB_e); exact rfl) | ((with_reducible apply pvcs_e); exact rfl) | ((with_reducible refine hK.at0 ?_)) | ((with_reducible refine G61_q16 ?_); unfold F61_q16))
  refine bin2 hK a b (fun H n' hn hK => ?_)
  rw [wrapU_id ha.1 ha.2, wrapU_id hb.1 hb.2, wrapU_w]
  repeat (first | ((with_reducible apply cI_e); exact rfl) | ((with_reducible apply cB_e); exact rfl) | ((with_reducible apply avT_e); exact rfl) | ((with_reducible apply uncV_e); exact rfl) | ((with_reducible apply v1S_e); exact rfl) | ((with_reducible apply endL_e); exact rfl))
  refine hk _ _ ?_ ?_ <;> first | omega | exact (by first | exact hK | exact hK.tail | exact hK.tail.tail | exact hK.tail.tail.tail | exact hK.tail.tail.tail.tail | exact hK.tail.tail.tail.tail.tail | exact hK.tail.tail.tail.tail.tail.tail | exact hK.tail.tail.tail.tail.tail.tail.tail | exact hK.tail.tail.tail.tail.tail.tail.tail.tail)
theorem plain3 {H n M} (hK : Kn H n M) {a b : Int} (ha : In64 a) (hb : In64 b) {K : AV → St → Prop} (hk : ∀ H' n', n ≤ n' → Kn H' n' M → K (two (iwrap .i64 (a * b)) true) ⟨i, H', n'⟩) : CallE IrP IrG 61 [nm 3, nm a, nm b] ⟨i, H, n⟩ K := by
  refine S61 (JS_ok _ _ _ _) ?_
  unfold F61_0
  repeat (first | ((with_reducible refine hK.letS ?_); clear hK; intro H hK) | ((with_reducible refine letK_i ?_)) | ((with_reducible refine hK.wr0 ?_ ?_); exact rfl; clear hK; intro H hK) | ((with_reducible refine hK.wr1 ?_ ?_); exact rfl; clear hK; intro H hK) | ((with_reducible refine G61_q11 ?_); unfold F61_q11))
  refine ifK_f rfl ?_
  repeat (first | ((with_reducible refine letK_i ?_)) | ((with_reducible refine G61_q10 ?_); unfold F61_q10))
  refine ifK_f rfl ?_
  repeat (first | ((with_reducible refine letK_i ?_)) | ((with_reducible refine G61_q9 ?_); unfold F61_q9))
  refine ifK_f rfl ?_
  repeat (first | ((with_reducible refine letK_i ?_)))
  refine S61_5 ?_
  unfold F61_5
  refine ifK_f rfl ?_
  repeat (first | ((with_reducible refine letK_i ?_)) | ((with_reducible refine G61_q13 ?_); unfold F61_q13))
  refine ifK_f rfl ?_
  repeat (first | ((with_reducible refine letK_i ?_)))
  refine S61_10 ?_
  unfold F61_10
  refine ifK_f rfl ?_
  repeat (first | ((with_reducible refine letK_i ?_)) | ((with_reducible refine G61_q17 ?_); unfold F61_q17))
  refine ifK_f rfl ?_
  repeat (first | ((with_reducible apply uncK_e); exact rfl) | ((with_reducible apply cI_e); exact rfl) | ((with_reducible apply cB_e); exact rfl) | ((with_reducible apply pvcs_e); exact rfl) | ((with_reducible refine hK.at0 ?_)) | ((with_reducible refine G61_q16 ?_); unfold F61_q16))
  refine bin3 hK a b (fun H n' hn hK => ?_)
  rw [wrapU_id ha.1 ha.2, wrapU_id hb.1 hb.2, wrapU_w]
  repeat (first | ((with_reducible apply cI_e); exact rfl) | ((with_reducible apply cB_e); exact rfl) | ((with_reducible apply avT_e); exact rfl) | ((with_reducible apply uncV_e); exact rfl) | ((with_reducible apply v1S_e); exact rfl) | ((with_reducible apply endL_e); exact rfl))
  refine hk _ _ ?_ ?_ <;> first | omega | exact (by first | exact hK | exact hK.tail | exact hK.tail.tail | exact hK.tail.tail.tail | exact hK.tail.tail.tail.tail | exact hK.tail.tail.tail.tail.tail | exact hK.tail.tail.tail.tail.tail.tail | exact hK.tail.tail.tail.tail.tail.tail.tail | exact hK.tail.tail.tail.tail.tail.tail.tail.tail)
theorem plain4 {H n M} (hK : Kn H n M) {a b : Int} (ha : In64 a) (hb : In64 b) (hz : b ≠ 0) (hm : (ieq b (-1) && ieq a (-9223372036854775808)) = false) {K : AV → St → Prop} (hk : ∀ H' n', n ≤ n' → Kn H' n' M → K (two (iwrap .i64 (Int.tdiv a b)) true) ⟨i, H', n'⟩) : CallE IrP IrG 61 [nm 4, nm a, nm b] ⟨i, H, n⟩ K := by
  refine S61 (JS_ok _ _ _ _) ?_
  unfold F61_0
  repeat (first | ((with_reducible refine hK.letS ?_); clear hK; intro H hK) | ((with_reducible refine letK_i ?_)) | ((with_reducible refine hK.wr0 ?_ ?_); exact rfl; clear hK; intro H hK) | ((with_reducible refine hK.wr1 ?_ ?_); exact rfl; clear hK; intro H hK) | ((with_reducible refine G61_q11 ?_); unfold F61_q11))
  refine ifK_t rfl ?_
  skip
  refine S61_5 ?_
  unfold F61_5
  refine ifK_t rfl ?_
  repeat (first | ((with_reducible apply uncK_e); exact rfl) | ((with_reducible apply cI_e); exact rfl) | ((with_reducible apply cB_e); exact rfl) | ((with_reducible apply pvcs_e); exact rfl) | ((with_reducible refine hK.at1 ?_)) | ((with_reducible refine G61_q12 ?_); unfold F61_q12))
  refine bin4 hK ha hb hz (fun H n' hn hK => ?_)
  rw [hm]
  repeat (first | ((with_reducible apply cI_e); exact rfl) | ((with_reducible apply cB_e); exact rfl) | ((with_reducible apply avT_e); exact rfl) | ((with_reducible apply uncV_e); exact rfl) | ((with_reducible apply v1S_e); exact rfl) | ((with_reducible apply endL_e); exact rfl))
  refine hk _ _ ?_ ?_ <;> first | omega | exact (by first | exact hK | exact hK.tail | exact hK.tail.tail | exact hK.tail.tail.tail | exact hK.tail.tail.tail.tail | exact hK.tail.tail.tail.tail.tail | exact hK.tail.tail.tail.tail.tail.tail | exact hK.tail.tail.tail.tail.tail.tail.tail | exact hK.tail.tail.tail.tail.tail.tail.tail.tail)
theorem plain5 {H n M} (hK : Kn H n M) {a b : Int} (ha : In64 a) (hb : In64 b) (hz : b ≠ 0) (hm : (ieq b (-1) && ieq a (-9223372036854775808)) = false) {K : AV → St → Prop} (hk : ∀ H' n', n ≤ n' → Kn H' n' M → K (two (Int.tmod a b) true) ⟨i, H', n'⟩) : CallE IrP IrG 61 [nm 5, nm a, nm b] ⟨i, H, n⟩ K := by
  refine S61 (JS_ok _ _ _ _) ?_
  unfold F61_0
  repeat (first | ((with_reducible refine hK.letS ?_); clear hK; intro H hK) | ((with_reducible refine letK_i ?_)) | ((with_reducible refine hK.wr0 ?_ ?_); exact rfl; clear hK; intro H hK) | ((with_reducible refine hK.wr1 ?_ ?_); exact rfl; clear hK; intro H hK) | ((with_reducible refine G61_q11 ?_); unfold F61_q11))
  refine ifK_f rfl ?_
  repeat (first | ((with_reducible refine letK_i ?_)) | ((with_reducible refine G61_q10 ?_); unfold F61_q10))
  refine ifK_t rfl ?_
  skip
  refine S61_5 ?_
  unfold F61_5
  refine ifK_t rfl ?_
  repeat (first | ((with_reducible apply uncK_e); exact rfl) | ((with_reducible apply cI_e); exact rfl) | ((with_reducible apply cB_e); exact rfl) | ((with_reducible apply pvcs_e); exact rfl) | ((with_reducible refine hK.at1 ?_)) | ((with_reducible refine G61_q12 ?_); unfold F61_q12))
  refine bin5 hK ha hb hz (fun H n' hn hK => ?_)
  rw [hm]
  repeat (first | ((with_reducible apply cI_e); exact rfl) | ((with_reducible apply cB_e); exact rfl) | ((with_reducible apply avT_e); exact rfl) | ((with_reducible apply uncV_e); exact rfl) | ((with_reducible apply v1S_e); exact rfl) | ((with_reducible apply endL_e); exact rfl))
  refine hk _ _ ?_ ?_ <;> first | omega | exact (by first | exact hK | exact hK.tail | exact hK.tail.tail | exact hK.tail.tail.tail | exact hK.tail.tail.tail.tail | exact hK.tail.tail.tail.tail.tail | exact hK.tail.tail.tail.tail.tail.tail | exact hK.tail.tail.tail.tail.tail.tail.tail | exact hK.tail.tail.tail.tail.tail.tail.tail.tail)
theorem plain6 {H n M} (hK : Kn H n M) {a b : Int} (ha : In64 a) (hb : In64 b) (hz : b ≠ 0) (hu : iwrap .u64 b ≠ 0) {K : AV → St → Prop} (hk : ∀ H' n', n ≤ n' → Kn H' n' M → K (two (iwrap .i64 (iwrap .u64 (Int.tdiv (iwrap .u64 a) (iwrap .u64 b)))) true) ⟨i, H', n'⟩) : CallE IrP IrG 61 [nm 6, nm a, nm b] ⟨i, H, n⟩ K := by
  refine S61 (JS_ok _ _ _ _) ?_
  unfold F61_0
  repeat (first | ((with_reducible refine hK.letS ?_); clear hK; intro H hK) | ((with_reducible refine letK_i ?_)) | ((with_reducible refine hK.wr0 ?_ ?_); exact rfl; clear hK; intro H hK) | ((with_reducible refine hK.wr1 ?_ ?_); exact rfl; clear hK; intro H hK) | ((with_reducible refine G61_q11 ?_); unfold F61_q11))
  refine ifK_f rfl ?_
  repeat (first | ((with_reducible refine letK_i ?_)) | ((with_reducible refine G61_q10 ?_); unfold F61_q10))
  refine ifK_f rfl ?_
  repeat (first | ((with_reducible refine letK_i ?_)) | ((with_reducible refine G61_q9 ?_); unfold F61_q9))
  refine ifK_f rfl ?_
  repeat (first | ((with_reducible refine letK_i ?_)))
  refine S61_5 ?_
  unfold F61_5
  refine ifK_f rfl ?_
  repeat (first | ((with_reducible refine letK_i ?_)) | ((with_reducible refine G61_q13 ?_); unfold F61_q13))
  refine ifK_f rfl ?_
  repeat (first | ((with_reducible refine letK_i ?_)))
  refine S61_10 ?_
  unfold F61_10
  refine ifK_f rfl ?_
  repeat (first | ((with_reducible refine letK_i ?_)) | ((with_reducible refine G61_q17 ?_); unfold F61_q17))
  refine ifK_f rfl ?_
  repeat (first | ((with_reducible apply uncK_e); exact rfl) | ((with_reducible apply cI_e); exact rfl) | ((with_reducible apply cB_e); exact rfl) | ((with_reducible apply pvcs_e); exact rfl) | ((with_reducible refine hK.at0 ?_)) | ((with_reducible refine G61_q16 ?_); unfold F61_q16))
  refine bin6 hK ha hb hz hu (fun H n' hn hK => ?_)
  repeat (first | ((with_reducible apply cI_e); exact rfl) | ((with_reducible apply cB_e); exact rfl) | ((with_reducible apply avT_e); exact rfl) | ((with_reducible apply uncV_e); exact rfl) | ((with_reducible apply v1S_e); exact rfl) | ((with_reducible apply endL_e); exact rfl))
  refine hk _ _ ?_ ?_ <;> first | omega | exact (by first | exact hK | exact hK.tail | exact hK.tail.tail | exact hK.tail.tail.tail | exact hK.tail.tail.tail.tail | exact hK.tail.tail.tail.tail.tail | exact hK.tail.tail.tail.tail.tail.tail | exact hK.tail.tail.tail.tail.tail.tail.tail | exact hK.tail.tail.tail.tail.tail.tail.tail.tail)
theorem plain7 {H n M} (hK : Kn H n M) {a b : Int} (ha : In64 a) (hb : In64 b) (hz : b ≠ 0) (hu : iwrap .u64 b ≠ 0) {K : AV → St → Prop} (hk : ∀ H' n', n ≤ n' → Kn H' n' M → K (two (iwrap .i64 (Int.tmod (iwrap .u64 a) (iwrap .u64 b))) true) ⟨i, H', n'⟩) : CallE IrP IrG 61 [nm 7, nm a, nm b] ⟨i, H, n⟩ K := by
  refine S61 (JS_ok _ _ _ _) ?_
  unfold F61_0
  repeat (first | ((with_reducible refine hK.letS ?_); clear hK; intro H hK) | ((with_reducible refine letK_i ?_)) | ((with_reducible refine hK.wr0 ?_ ?_); exact rfl; clear hK; intro H hK) | ((with_reducible refine hK.wr1 ?_ ?_); exact rfl; clear hK; intro H hK) | ((with_reducible refine G61_q11 ?_); unfold F61_q11))
  refine ifK_f rfl ?_
  repeat (first | ((with_reducible refine letK_i ?_)) | ((with_reducible refine G61_q10 ?_); unfold F61_q10))
  refine ifK_f rfl ?_
  repeat (first | ((with_reducible refine letK_i ?_)) | ((with_reducible refine G61_q9 ?_); unfold F61_q9))
  refine ifK_f rfl ?_
  repeat (first | ((with_reducible refine letK_i ?_)))
  refine S61_5 ?_
  unfold F61_5
  refine ifK_f rfl ?_
  repeat (first | ((with_reducible refine letK_i ?_)) | ((with_reducible refine G61_q13 ?_); unfold F61_q13))
  refine ifK_f rfl ?_
  repeat (first | ((with_reducible refine letK_i ?_)))
  refine S61_10 ?_
  unfold F61_10
  refine ifK_f rfl ?_
  repeat (first | ((with_reducible refine letK_i ?_)) | ((with_reducible refine G61_q17 ?_); unfold F61_q17))
  refine ifK_f rfl ?_
  repeat (first | ((with_reducible apply uncK_e); exact rfl) | ((with_reducible apply cI_e); exact rfl) | ((with_reducible apply cB_e); exact rfl) | ((with_reducible apply pvcs_e); exact rfl) | ((with_reducible refine hK.at0 ?_)) | ((with_reducible refine G61_q16 ?_); unfold F61_q16))
  refine bin7 hK ha hb hz hu (fun H n' hn hK => ?_)
  repeat (first | ((with_reducible apply cI_e); exact rfl) | ((with_reducible apply cB_e); exact rfl) | ((with_reducible apply avT_e); exact rfl) | ((with_reducible apply uncV_e); exact rfl) | ((with_reducible apply v1S_e); exact rfl) | ((with_reducible apply endL_e); exact rfl))
  refine hk _ _ ?_ ?_ <;> first | omega | exact (by first | exact hK | exact hK.tail | exact hK.tail.tail | exact hK.tail.tail.tail | exact hK.tail.tail.tail.tail | exact hK.tail.tail.tail.tail.tail | exact hK.tail.tail.tail.tail.tail.tail | exact hK.tail.tail.tail.tail.tail.tail.tail | exact hK.tail.tail.tail.tail.tail.tail.tail.tail)
theorem plain8 {H n M} (hK : Kn H n M) {a b : Int} (ha : In64 a) (hb : In64 b) {K : AV → St → Prop} (hk : ∀ H' n', n ≤ n' → Kn H' n' M → K (two (iand .i64 a b) true) ⟨i, H', n'⟩) : CallE IrP IrG 61 [nm 8, nm a, nm b] ⟨i, H, n⟩ K := by
  refine S61 (JS_ok _ _ _ _) ?_
  unfold F61_0
  repeat (first | ((with_reducible refine hK.letS ?_); clear hK; intro H hK) | ((with_reducible refine letK_i ?_)) | ((with_reducible refine hK.wr0 ?_ ?_); exact rfl; clear hK; intro H hK) | ((with_reducible refine hK.wr1 ?_ ?_); exact rfl; clear hK; intro H hK) | ((with_reducible refine G61_q11 ?_); unfold F61_q11))
  refine ifK_f rfl ?_
  repeat (first | ((with_reducible refine letK_i ?_)) | ((with_reducible refine G61_q10 ?_); unfold F61_q10))
  refine ifK_f rfl ?_
  repeat (first | ((with_reducible refine letK_i ?_)) | ((with_reducible refine G61_q9 ?_); unfold F61_q9))
  refine ifK_f rfl ?_
  repeat (first | ((with_reducible refine letK_i ?_)))
  refine S61_5 ?_
  unfold F61_5
  refine ifK_f rfl ?_
  repeat (first | ((with_reducible refine letK_i ?_)) | ((with_reducible refine G61_q13 ?_); unfold F61_q13))
  refine ifK_f rfl ?_
  repeat (first | ((with_reducible refine letK_i ?_)))
  refine S61_10 ?_
  unfold F61_10
  refine ifK_f rfl ?_
  repeat (first | ((with_reducible refine letK_i ?_)) | ((with_reducible refine G61_q17 ?_); unfold F61_q17))
  refine ifK_f rfl ?_
  repeat (first | ((with_reducible apply uncK_e); exact rfl) | ((with_reducible apply cI_e); exact rfl) | ((with_reducible apply cB_e); exact rfl) | ((with_reducible apply pvcs_e); exact rfl) | ((with_reducible refine hK.at0 ?_)) | ((with_reducible refine G61_q16 ?_); unfold F61_q16))
  refine bin8 hK a b (fun H n' hn hK => ?_)
  rw [wrapU_id ha.1 ha.2, wrapU_id hb.1 hb.2]
  repeat (first | ((with_reducible apply cI_e); exact rfl) | ((with_reducible apply cB_e); exact rfl) | ((with_reducible apply avT_e); exact rfl) | ((with_reducible apply uncV_e); exact rfl) | ((with_reducible apply v1S_e); exact rfl) | ((with_reducible apply endL_e); exact rfl))
  refine hk _ _ ?_ ?_ <;> first | omega | exact (by first | exact hK | exact hK.tail | exact hK.tail.tail | exact hK.tail.tail.tail | exact hK.tail.tail.tail.tail | exact hK.tail.tail.tail.tail.tail | exact hK.tail.tail.tail.tail.tail.tail | exact hK.tail.tail.tail.tail.tail.tail.tail | exact hK.tail.tail.tail.tail.tail.tail.tail.tail)
theorem plain9 {H n M} (hK : Kn H n M) {a b : Int} (ha : In64 a) (hb : In64 b) {K : AV → St → Prop} (hk : ∀ H' n', n ≤ n' → Kn H' n' M → K (two (ior .i64 a b) true) ⟨i, H', n'⟩) : CallE IrP IrG 61 [nm 9, nm a, nm b] ⟨i, H, n⟩ K := by
  refine S61 (JS_ok _ _ _ _) ?_
  unfold F61_0
  repeat (first | ((with_reducible refine hK.letS ?_); clear hK; intro H hK) | ((with_reducible refine letK_i ?_)) | ((with_reducible refine hK.wr0 ?_ ?_); exact rfl; clear hK; intro H hK) | ((with_reducible refine hK.wr1 ?_ ?_); exact rfl; clear hK; intro H hK) | ((with_reducible refine G61_q11 ?_); unfold F61_q11))
  refine ifK_f rfl ?_
  repeat (first | ((with_reducible refine letK_i ?_)) | ((with_reducible refine G61_q10 ?_); unfold F61_q10))
  refine ifK_f rfl ?_
  repeat (first | ((with_reducible refine letK_i ?_)) | ((with_reducible refine G61_q9 ?_); unfold F61_q9))
  refine ifK_f rfl ?_
  repeat (first | ((with_reducible refine letK_i ?_)))
  refine S61_5 ?_
  unfold F61_5
  refine ifK_f rfl ?_
  repeat (first | ((with_reducible refine letK_i ?_)) | ((with_reducible refine G61_q13 ?_); unfold F61_q13))
  refine ifK_f rfl ?_
  repeat (first | ((with_reducible refine letK_i ?_)))
  refine S61_10 ?_
  unfold F61_10
  refine ifK_f rfl ?_
  repeat (first | ((with_reducible refine letK_i ?_)) | ((with_reducible refine G61_q17 ?_); unfold F61_q17))
  refine ifK_f rfl ?_
  repeat (first | ((with_reducible apply uncK_e); exact rfl) | ((with_reducible apply cI_e); exact rfl) | ((with_reducible apply cB_e); exact rfl) | ((with_reducible apply pvcs_e); exact rfl) | ((with_reducible refine hK.at0 ?_)) | ((with_reducible refine G61_q16 ?_); unfold F61_q16))
  refine bin9 hK a b (fun H n' hn hK => ?_)
  rw [wrapU_id ha.1 ha.2, wrapU_id hb.1 hb.2]
  repeat (first | ((with_reducible apply cI_e); exact rfl) | ((with_reducible apply cB_e); exact rfl) | ((with_reducible apply avT_e); exact rfl) | ((with_reducible apply uncV_e); exact rfl) | ((with_reducible apply v1S_e); exact rfl) | ((with_reducible apply endL_e); exact rfl))
  refine hk _ _ ?_ ?_ <;> first | omega | exact (by first | exact hK | exact hK.tail | exact hK.tail.tail | exact hK.tail.tail.tail | exact hK.tail.tail.tail.tail | exact hK.tail.tail.tail.tail.tail | exact hK.tail.tail.tail.tail.tail.tail | exact hK.tail.tail.tail.tail.tail.tail.tail | exact hK.tail.tail.tail.tail.tail.tail.tail.tail)
theorem plain10 {H n M} (hK : Kn H n M) {a b : Int} (ha : In64 a) (hb : In64 b) {K : AV → St → Prop} (hk : ∀ H' n', n ≤ n' → Kn H' n' M → K (two (ixor .i64 a b) true) ⟨i, H', n'⟩) : CallE IrP IrG 61 [nm 10, nm a, nm b] ⟨i, H, n⟩ K := by
  refine S61 (JS_ok _ _ _ _) ?_
  unfold F61_0
  repeat (first | ((with_reducible refine hK.letS ?_); clear hK; intro H hK) | ((with_reducible refine letK_i ?_)) | ((with_reducible refine hK.wr0 ?_ ?_); exact rfl; clear hK; intro H hK) | ((with_reducible refine hK.wr1 ?_ ?_); exact rfl; clear hK; intro H hK) | ((with_reducible refine G61_q11 ?_); unfold F61_q11))
  refine ifK_f rfl ?_
  repeat (first | ((with_reducible refine letK_i ?_)) | ((with_reducible refine G61_q10 ?_); unfold F61_q10))
  refine ifK_f rfl ?_
  repeat (first | ((with_reducible refine letK_i ?_)) | ((with_reducible refine G61_q9 ?_); unfold F61_q9))
  refine ifK_f rfl ?_
  repeat (first | ((with_reducible refine letK_i ?_)))
  refine S61_5 ?_
  unfold F61_5
  refine ifK_f rfl ?_
  repeat (first | ((with_reducible refine letK_i ?_)) | ((with_reducible refine G61_q13 ?_); unfold F61_q13))
  refine ifK_f rfl ?_
  repeat (first | ((with_reducible refine letK_i ?_)))
  refine S61_10 ?_
  unfold F61_10
  refine ifK_f rfl ?_
  repeat (first | ((with_reducible refine letK_i ?_)) | ((with_reducible refine G61_q17 ?_); unfold F61_q17))
  refine ifK_f rfl ?_
  repeat (first | ((with_reducible apply uncK_e); exact rfl) | ((with_reducible apply cI_e); exact rfl) | ((with_reducible apply cB_e); exact rfl) | ((with_reducible apply pvcs_e); exact rfl) | ((with_reducible refine hK.at0 ?_)) | ((with_reducible refine G61_q16 ?_); unfold F61_q16))
  refine bin10 hK a b (fun H n' hn hK => ?_)
  rw [wrapU_id ha.1 ha.2, wrapU_id hb.1 hb.2]
  repeat (first | ((with_reducible apply cI_e); exact rfl) | ((with_reducible apply cB_e); exact rfl) | ((with_reducible apply avT_e); exact rfl) | ((with_reducible apply uncV_e); exact rfl) | ((with_reducible apply v1S_e); exact rfl) | ((with_reducible apply endL_e); exact rfl))
  refine hk _ _ ?_ ?_ <;> first | omega | exact (by first | exact hK | exact hK.tail | exact hK.tail.tail | exact hK.tail.tail.tail | exact hK.tail.tail.tail.tail | exact hK.tail.tail.tail.tail.tail | exact hK.tail.tail.tail.tail.tail.tail | exact hK.tail.tail.tail.tail.tail.tail.tail | exact hK.tail.tail.tail.tail.tail.tail.tail.tail)
theorem plain4z {H n M} (hK : Kn H n M) {a : Int} (ha : In64 a) {K : AV → St → Prop} (hk : ∀ H' n', n ≤ n' → Kn H' n' M → K (two 0 false) ⟨i, H', n'⟩) : CallE IrP IrG 61 [nm 4, nm a, nm 0] ⟨i, H, n⟩ K := by
  refine S61 (JS_ok _ _ _ _) ?_
  unfold F61_0
  repeat (first | ((with_reducible refine hK.letS ?_); clear hK; intro H hK) | ((with_reducible refine letK_i ?_)) | ((with_reducible refine hK.wr0 ?_ ?_); exact rfl; clear hK; intro H hK) | ((with_reducible refine hK.wr1 ?_ ?_); exact rfl; clear hK; intro H hK) | ((with_reducible refine G61_q11 ?_); unfold F61_q11))
  refine ifK_t rfl ?_
  skip
  refine S61_5 ?_
  unfold F61_5
  refine ifK_t rfl ?_
  repeat (first | ((with_reducible apply uncK_e); exact rfl) | ((with_reducible apply cI_e); exact rfl) | ((with_reducible apply cB_e); exact rfl) | ((with_reducible apply pvcs_e); exact rfl) | ((with_reducible refine hK.at1 ?_)) | ((with_reducible refine G61_q12 ?_); unfold F61_q12))
  refine bin4z (b := 0) hK ha ⟨by decide, by decide⟩ (fun H n' hn hK => ?_)
  repeat (first | ((with_reducible apply cI_e); exact rfl) | ((with_reducible apply cB_e); exact rfl) | ((with_reducible apply avT_e); exact rfl) | ((with_reducible apply uncV_e); exact rfl) | ((with_reducible apply v1S_e); exact rfl) | ((with_reducible apply endL_e); exact rfl))
  refine hk _ _ ?_ ?_ <;> first | omega | exact (by first | exact hK | exact hK.tail | exact hK.tail.tail | exact hK.tail.tail.tail | exact hK.tail.tail.tail.tail | exact hK.tail.tail.tail.tail.tail | exact hK.tail.tail.tail.tail.tail.tail | exact hK.tail.tail.tail.tail.tail.tail.tail | exact hK.tail.tail.tail.tail.tail.tail.tail.tail)
theorem plain5z {H n M} (hK : Kn H n M) {a : Int} (ha : In64 a) {K : AV → St → Prop} (hk : ∀ H' n', n ≤ n' → Kn H' n' M → K (two 0 false) ⟨i, H', n'⟩) : CallE IrP IrG 61 [nm 5, nm a, nm 0] ⟨i, H, n⟩ K := by
  refine S61 (JS_ok _ _ _ _) ?_
  unfold F61_0
  repeat (first | ((with_reducible refine hK.letS ?_); clear hK; intro H hK) | ((with_reducible refine letK_i ?_)) | ((with_reducible refine hK.wr0 ?_ ?_); exact rfl; clear hK; intro H hK) | ((with_reducible refine hK.wr1 ?_ ?_); exact rfl; clear hK; intro H hK) | ((with_reducible refine G61_q11 ?_); unfold F61_q11))
  refine ifK_f rfl ?_
  repeat (first | ((with_reducible refine letK_i ?_)) | ((with_reducible refine G61_q10 ?_); unfold F61_q10))
  refine ifK_t rfl ?_
  skip
  refine S61_5 ?_
  unfold F61_5
  refine ifK_t rfl ?_
  repeat (first | ((with_reducible apply uncK_e); exact rfl) | ((with_reducible apply cI_e); exact rfl) | ((with_reducible apply cB_e); exact rfl) | ((with_reducible apply pvcs_e); exact rfl) | ((with_reducible refine hK.at1 ?_)) | ((with_reducible refine G61_q12 ?_); unfold F61_q12))
  refine bin5z (b := 0) hK ha ⟨by decide, by decide⟩ (fun H n' hn hK => ?_)
  repeat (first | ((with_reducible apply cI_e); exact rfl) | ((with_reducible apply cB_e); exact rfl) | ((with_reducible apply avT_e); exact rfl) | ((with_reducible apply uncV_e); exact rfl) | ((with_reducible apply v1S_e); exact rfl) | ((with_reducible apply endL_e); exact rfl))
  refine hk _ _ ?_ ?_ <;> first | omega | exact (by first | exact hK | exact hK.tail | exact hK.tail.tail | exact hK.tail.tail.tail | exact hK.tail.tail.tail.tail | exact hK.tail.tail.tail.tail.tail | exact hK.tail.tail.tail.tail.tail.tail | exact hK.tail.tail.tail.tail.tail.tail.tail | exact hK.tail.tail.tail.tail.tail.tail.tail.tail)
theorem plain6z {H n M} (hK : Kn H n M) {a : Int} (ha : In64 a) {K : AV → St → Prop} (hk : ∀ H' n', n ≤ n' → Kn H' n' M → K (two 0 false) ⟨i, H', n'⟩) : CallE IrP IrG 61 [nm 6, nm a, nm 0] ⟨i, H, n⟩ K := by
  refine S61 (JS_ok _ _ _ _) ?_
  unfold F61_0
  repeat (first | ((with_reducible refine hK.letS ?_); clear hK; intro H hK) | ((with_reducible refine letK_i ?_)) | ((with_reducible refine hK.wr0 ?_ ?_); exact rfl; clear hK; intro H hK) | ((with_reducible refine hK.wr1 ?_ ?_); exact rfl; clear hK; intro H hK) | ((with_reducible refine G61_q11 ?_); unfold F61_q11))
  refine ifK_f rfl ?_
  repeat (first | ((with_reducible refine letK_i ?_)) | ((with_reducible refine G61_q10 ?_); unfold F61_q10))
  refine ifK_f rfl ?_
  repeat (first | ((with_reducible refine letK_i ?_)) | ((with_reducible refine G61_q9 ?_); unfold F61_q9))
  refine ifK_f rfl ?_
  repeat (first | ((with_reducible refine letK_i ?_)))
  refine S61_5 ?_
  unfold F61_5
  refine ifK_f rfl ?_
  repeat (first | ((with_reducible refine letK_i ?_)) | ((with_reducible refine G61_q13 ?_); unfold F61_q13))
  refine ifK_f rfl ?_
  repeat (first | ((with_reducible refine letK_i ?_)))
  refine S61_10 ?_
  unfold F61_10
  refine ifK_f rfl ?_
  repeat (first | ((with_reducible refine letK_i ?_)) | ((with_reducible refine G61_q17 ?_); unfold F61_q17))
  refine ifK_f rfl ?_
  repeat (first | ((with_reducible apply uncK_e); exact rfl) | ((with_reducible apply cI_e); exact rfl) | ((with_reducible apply cB_e); exact rfl) | ((with_reducible apply pvcs_e); exact rfl) | ((with_reducible refine hK.at0 ?_)) | ((with_reducible refine G61_q16 ?_); unfold F61_q16))
  refine bin6z (b := 0) hK ha ⟨by decide, by decide⟩ (fun H n' hn hK => ?_)
  repeat (first | ((with_reducible apply cI_e); exact rfl) | ((with_reducible apply cB_e); exact rfl) | ((with_reducible apply avT_e); exact rfl) | ((with_reducible apply uncV_e); exact rfl) | ((with_reducible apply v1S_e); exact rfl) | ((with_reducible apply endL_e); exact rfl))
  refine hk _ _ ?_ ?_ <;> first | omega | exact (by first | exact hK | exact hK.tail | exact hK.tail.tail | exact hK.tail.tail.tail | exact hK.tail.tail.tail.tail | exact hK.tail.tail.tail.tail.tail | exact hK.tail.tail.tail.tail.tail.tail | exact hK.tail.tail.tail.tail.tail.tail.tail | exact hK.tail.tail.tail.tail.tail.tail.tail.tail)
theorem plain7z {H n M} (hK : Kn H n M) {a : Int} (ha : In64 a) {K : AV → St → Prop} (hk : ∀ H' n', n ≤ n' → Kn H' n' M → K (two 0 false) ⟨i, H', n'⟩) : CallE IrP IrG 61 [nm 7, nm a, nm 0] ⟨i, H, n⟩ K := by
  refine S61 (JS_ok _ _ _ _) ?_
  unfold F61_0
  repeat (first | ((with_reducible refine hK.letS ?_); clear hK; intro H hK) | ((with_reducible refine letK_i ?_)) | ((with_reducible refine hK.wr0 ?_ ?_); exact rfl; clear hK; intro H hK) | ((with_reducible refine hK.wr1 ?_ ?_); exact rfl; clear hK; intro H hK) | ((with_reducible refine G61_q11 ?_); unfold F61_q11))
  refine ifK_f rfl ?_
  repeat (first | ((with_reducible refine letK_i ?_)) | ((with_reducible refine G61_q10 ?_); unfold F61_q10))
  refine ifK_f rfl ?_
  repeat (first | ((with_reducible refine letK_i ?_)) | ((with_reducible refine G61_q9 ?_); unfold F61_q9))
  refine ifK_f rfl ?_
  repeat (first | ((with_reducible refine letK_i ?_)))
  refine S61_5 ?_
  unfold F61_5
  refine ifK_f rfl ?_
  repeat (first | ((with_reducible refine letK_i ?_)) | ((with_reducible refine G61_q13 ?_); unfold F61_q13))
  refine ifK_f rfl ?_
  repeat (first | ((with_reducible refine letK_i ?_)))
  refine S61_10 ?_
  unfold F61_10
  refine ifK_f rfl ?_
  repeat (first | ((with_reducible refine letK_i ?_)) | ((with_reducible refine G61_q17 ?_); unfold F61_q17))
  refine ifK_f rfl ?_
  repeat (first | ((with_reducible apply uncK_e); exact rfl) | ((with_reducible apply cI_e); exact rfl) | ((with_reducible apply cB_e); exact rfl) | ((with_reducible apply pvcs_e); exact rfl) | ((with_reducible refine hK.at0 ?_)) | ((with_reducible refine G61_q16 ?_); unfold F61_q16))
  refine bin7z (b := 0) hK ha ⟨by decide, by decide⟩ (fun H n' hn hK => ?_)
  repeat (first | ((with_reducible apply cI_e); exact rfl) | ((with_reducible apply cB_e); exact rfl) | ((with_reducible apply avT_e); exact rfl) | ((with_reducible apply uncV_e); exact rfl) | ((with_reducible apply v1S_e); exact rfl) | ((with_reducible apply endL_e); exact rfl))
  refine hk _ _ ?_ ?_ <;> first | omega | exact (by first | exact hK | exact hK.tail | exact hK.tail.tail | exact hK.tail.tail.tail | exact hK.tail.tail.tail.tail | exact hK.tail.tail.tail.tail.tail | exact hK.tail.tail.tail.tail.tail.tail | exact hK.tail.tail.tail.tail.tail.tail.tail | exact hK.tail.tail.tail.tail.tail.tail.tail.tail)
theorem plain12 {H n M} (hK : Kn H n M) {a : Int} (ha : In64 a) {K : AV → St → Prop} (hk : ∀ H' n', n ≤ n' → Kn H' n' M → K (two (shr8 a) true) ⟨i, H', n'⟩) : CallE IrP IrG 61 [nm 12, nm a, nm 8] ⟨i, H, n⟩ K := by
  refine S61 (JS_ok _ _ _ _) ?_
  unfold F61_0
  repeat (first | ((with_reducible refine hK.letS ?_); clear hK; intro H hK) | ((with_reducible refine letK_i ?_)) | ((with_reducible refine hK.wr0 ?_ ?_); exact rfl; clear hK; intro H hK) | ((with_reducible refine hK.wr1 ?_ ?_); exact rfl; clear hK; intro H hK) | ((with_reducible refine G61_q11 ?_); unfold F61_q11))
  refine ifK_f rfl ?_
  repeat (first | ((with_reducible refine letK_i ?_)) | ((with_reducible refine G61_q10 ?_); unfold F61_q10))
  refine ifK_f rfl ?_
  repeat (first | ((with_reducible refine letK_i ?_)) | ((with_reducible refine G61_q9 ?_); unfold F61_q9))
  refine ifK_f rfl ?_
  repeat (first | ((with_reducible refine letK_i ?_)))
  refine S61_5 ?_
  unfold F61_5
  refine ifK_f rfl ?_
  repeat (first | ((with_reducible refine letK_i ?_)) | ((with_reducible refine G61_q13 ?_); unfold F61_q13))
  refine ifK_f rfl ?_
  repeat (first | ((with_reducible refine letK_i ?_)))
  refine S61_10 ?_
  unfold F61_10
  refine ifK_t rfl ?_
  repeat (first | ((with_reducible refine letK_i ?_)) | ((with_reducible apply uncK_e); exact rfl) | ((with_reducible apply cI_e); exact rfl) | ((with_reducible apply pvcs_e); exact rfl) | ((with_reducible refine hK.at0 ?_)) | ((with_reducible refine G61_q14 ?_); unfold F61_q14))
  rw [show iand IntKind.i64 8 63 = 8 from by kernel_rfl]
  refine bin12 hK ha (fun H n' hn hK => ?_)
  repeat (first | ((with_reducible apply cI_e); exact rfl) | ((with_reducible apply cB_e); exact rfl) | ((with_reducible apply avT_e); exact rfl) | ((with_reducible apply uncV_e); exact rfl) | ((with_reducible apply v1S_e); exact rfl) | ((with_reducible apply endL_e); exact rfl))
  refine hk _ _ ?_ ?_ <;> first | omega | exact (by first | exact hK | exact hK.tail | exact hK.tail.tail | exact hK.tail.tail.tail | exact hK.tail.tail.tail.tail | exact hK.tail.tail.tail.tail.tail | exact hK.tail.tail.tail.tail.tail.tail | exact hK.tail.tail.tail.tail.tail.tail.tail | exact hK.tail.tail.tail.tail.tail.tail.tail.tail)
theorem plain4m {H n M} (hK : Kn H n M) {a b : Int} (ha : In64 a) (hb : In64 b) (hz : b ≠ 0) (hm : (ieq b (-1) && ieq a (-9223372036854775808)) = true) {K : AV → St → Prop} (hk : ∀ H' n', n ≤ n' → Kn H' n' M → K (two 0 false) ⟨i, H', n'⟩) : CallE IrP IrG 61 [nm 4, nm a, nm b] ⟨i, H, n⟩ K := by
  refine S61 (JS_ok _ _ _ _) ?_
  unfold F61_0
  repeat (first | ((with_reducible refine hK.letS ?_); clear hK; intro H hK) | ((with_reducible refine letK_i ?_)) | ((with_reducible refine hK.wr0 ?_ ?_); exact rfl; clear hK; intro H hK) | ((with_reducible refine hK.wr1 ?_ ?_); exact rfl; clear hK; intro H hK) | ((with_reducible refine G61_q11 ?_); unfold F61_q11))
  refine ifK_t rfl ?_
  skip
  refine S61_5 ?_
  unfold F61_5
  refine ifK_t rfl ?_
  repeat (first | ((with_reducible apply uncK_e); exact rfl) | ((with_reducible apply cI_e); exact rfl) | ((with_reducible apply cB_e); exact rfl) | ((with_reducible apply pvcs_e); exact rfl) | ((with_reducible refine hK.at1 ?_)) | ((with_reducible refine G61_q12 ?_); unfold F61_q12))
  refine bin4 hK ha hb hz (fun H n' hn hK => ?_)
  rw [hm]
  repeat (first | ((with_reducible apply cI_e); exact rfl) | ((with_reducible apply cB_e); exact rfl) | ((with_reducible apply avT_e); exact rfl) | ((with_reducible apply uncV_e); exact rfl) | ((with_reducible apply v1S_e); exact rfl) | ((with_reducible apply endL_e); exact rfl))
  refine hk _ _ ?_ ?_ <;> first | omega | exact (by first | exact hK | exact hK.tail | exact hK.tail.tail | exact hK.tail.tail.tail | exact hK.tail.tail.tail.tail | exact hK.tail.tail.tail.tail.tail | exact hK.tail.tail.tail.tail.tail.tail | exact hK.tail.tail.tail.tail.tail.tail.tail | exact hK.tail.tail.tail.tail.tail.tail.tail.tail)
theorem plain5m {H n M} (hK : Kn H n M) {a b : Int} (ha : In64 a) (hb : In64 b) (hz : b ≠ 0) (hm : (ieq b (-1) && ieq a (-9223372036854775808)) = true) {K : AV → St → Prop} (hk : ∀ H' n', n ≤ n' → Kn H' n' M → K (two 0 false) ⟨i, H', n'⟩) : CallE IrP IrG 61 [nm 5, nm a, nm b] ⟨i, H, n⟩ K := by
  refine S61 (JS_ok _ _ _ _) ?_
  unfold F61_0
  repeat (first | ((with_reducible refine hK.letS ?_); clear hK; intro H hK) | ((with_reducible refine letK_i ?_)) | ((with_reducible refine hK.wr0 ?_ ?_); exact rfl; clear hK; intro H hK) | ((with_reducible refine hK.wr1 ?_ ?_); exact rfl; clear hK; intro H hK) | ((with_reducible refine G61_q11 ?_); unfold F61_q11))
  refine ifK_f rfl ?_
  repeat (first | ((with_reducible refine letK_i ?_)) | ((with_reducible refine G61_q10 ?_); unfold F61_q10))
  refine ifK_t rfl ?_
  skip
  refine S61_5 ?_
  unfold F61_5
  refine ifK_t rfl ?_
  repeat (first | ((with_reducible apply uncK_e); exact rfl) | ((with_reducible apply cI_e); exact rfl) | ((with_reducible apply cB_e); exact rfl) | ((with_reducible apply pvcs_e); exact rfl) | ((with_reducible refine hK.at1 ?_)) | ((with_reducible refine G61_q12 ?_); unfold F61_q12))
  refine bin5 hK ha hb hz (fun H n' hn hK => ?_)
  rw [hm]
  repeat (first | ((with_reducible apply cI_e); exact rfl) | ((with_reducible apply cB_e); exact rfl) | ((with_reducible apply avT_e); exact rfl) | ((with_reducible apply uncV_e); exact rfl) | ((with_reducible apply v1S_e); exact rfl) | ((with_reducible apply endL_e); exact rfl))
  refine hk _ _ ?_ ?_ <;> first | omega | exact (by first | exact hK | exact hK.tail | exact hK.tail.tail | exact hK.tail.tail.tail | exact hK.tail.tail.tail.tail | exact hK.tail.tail.tail.tail.tail | exact hK.tail.tail.tail.tail.tail.tail | exact hK.tail.tail.tail.tail.tail.tail.tail | exact hK.tail.tail.tail.tail.tail.tail.tail.tail)
end Go.Xe
