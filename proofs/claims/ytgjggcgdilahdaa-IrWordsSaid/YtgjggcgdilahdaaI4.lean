/- A part of the proof: I4. -/
import Derived.Test.YtgjggcgdilahdaaI3
set_option linter.unusedVariables false
set_option linter.unusedSimpArgs false
set_option linter.constructorNameAsVariable false
set_option linter.unusedVariables false
set_option maxRecDepth 100000
namespace Go.Xe
open Go.RowKit
variable {i : Nat → Option AO}
theorem iwrap_u64 (x : Int) : iwrap .u64 x = x % 18446744073709551616 := by rw [iwrap_eq]; simp [IntKind.wrap, IntKind.bits, IntKind.signed]
theorem wrapU_eq (x : Int) : wrapU x = iwrap .i64 x := by
  have h : shrI .u64 (shlI .u64 (iwrap .u64 x) 0) 0 = iwrap .u64 x := by
    unfold shrI shlI
    have h1 : (2 ^ (Nat.min (0 : Int).toNat IntKind.u64.bits) : Nat) = 1 := by decide
    rw [h1, ← iwrap_eq, iwrap_u64, iwrap_u64]
    have h2 : ((1 : Nat) : Int) = 1 := rfl
    rw [h2, Int.fdiv_one, Int.mul_one]
    omega
  unfold wrapU
  rw [h, iwrap_u64, iwrap_eq, iwrap_eq]
  simp only [IntKind.wrap, IntKind.bits, IntKind.signed]
  simp <;> omega
theorem wrapU_id {x : Int} (h0 : -9223372036854775808 ≤ x) (h1 : x ≤ 9223372036854775807) : wrapU x = x := by rw [wrapU_eq]; exact iw64 h0 h1
theorem wrapU_w (x : Int) : wrapU (iwrap .i64 x) = iwrap .i64 x := by
  have := (show -9223372036854775808 ≤ iwrap .i64 x ∧ iwrap .i64 x ≤ 9223372036854775807 from by
    rw [iwrap_eq]; simp only [IntKind.wrap, IntKind.bits, IntKind.signed]; simp; omega)
  exact wrapU_id this.1 this.2
theorem wrapS_id {x : Int} (h0 : -9223372036854775808 ≤ x) (h1 : x ≤ 9223372036854775807) : wrapS x = x := by
  unfold wrapS shrI shlI
  have h2 : (2 ^ (Nat.min (0 : Int).toNat IntKind.i64.bits) : Nat) = 1 := by decide
  rw [h2, ← iwrap_eq, show ((1 : Nat) : Int) = 1 from rfl, Int.mul_one, Int.fdiv_one, iw64 h0 h1]
def In64 (x : Int) : Prop := -9223372036854775808 ≤ x ∧ x ≤ 9223372036854775807
theorem bin4 {i : Nat → Option AO} {H n M} (hK : Kn H n M) {a b : Int} (ha : In64 a) (hb : In64 b) (hz : b ≠ 0) {K : AV → St → Prop} (hk : ∀ H' n', n ≤ n' → Kn H' n' M → K (bif ieq b (-1) && ieq a (-9223372036854775808) then two 0 false else two (iwrap .i64 (Int.tdiv a b)) true) ⟨i, H', n'⟩) : DSIr 74 [wd 64 true, nm 4, nm a, nm b] ⟨i, H, n⟩ K := by
  refine .e (S74 (JS_ok _ _ _ _) ?_)
  unfold F74_0
  repeat (first | ((with_reducible refine hK.letS ?_); clear hK; intro H hK) | ((with_reducible apply uncK_e); exact rfl) | ((with_reducible apply cI_e); exact rfl) | ((with_reducible apply cB_e); exact rfl) | ((with_reducible refine hK.at0 ?_)))
  refine may_ok hK _ (fun H n' hn hK => ?_)
  repeat (first | ((with_reducible refine letK_i ?_)) | ((with_reducible refine G74_q25 ?_); unfold F74_q25))
  refine ifK_f rfl ?_
  repeat (first | ((with_reducible refine letK_i ?_)) | ((with_reducible apply uncK_e); exact rfl) | ((with_reducible apply cI_e); exact rfl) | ((with_reducible refine hK.at0 ?_)))
  refine S74_2 ?_
  unfold F74_2
  refine ifK_f rfl ?_
  repeat (first | ((with_reducible apply uncK_e); exact rfl) | ((with_reducible apply cI_e); exact rfl) | ((with_reducible apply cB_e); exact rfl) | ((with_reducible apply pvcs_e); exact rfl) | ((with_reducible refine hK.at0 ?_)) | ((with_reducible refine G74_q27 ?_); unfold F74_q27))
  refine wrapS_ok hK _ (fun H n' hn hK => ?_)
  repeat (first | ((with_reducible refine letK_i ?_)) | ((with_reducible apply cI_e); exact rfl) | ((with_reducible apply scK_e); exact rfl))
  rw [wrapS_id ha.1 ha.2]
  refine ifK_f rfl ?_
  repeat (first | ((with_reducible refine letK_i ?_)) | ((with_reducible refine G74_q26 ?_); unfold F74_q26))
  refine ifK_f rfl ?_
  repeat (first | ((with_reducible refine letK_i ?_)))
  refine S74_7 ?_
  unfold F74_7
  refine ifK_f rfl ?_
  repeat (first | ((with_reducible apply uncK_e); exact rfl) | ((with_reducible apply cI_e); exact rfl) | ((with_reducible apply cB_e); exact rfl) | ((with_reducible apply pvcs_e); exact rfl) | ((with_reducible refine hK.at0 ?_)) | ((with_reducible refine G74_q42 ?_); unfold F74_q42))
  refine wrapS_ok hK _ (fun H n' hn hK => ?_)
  repeat (first | ((with_reducible refine letK_i ?_)) | ((with_reducible apply cI_e); exact rfl) | ((with_reducible apply scK_e); exact rfl))
  rw [wrapS_id hb.1 hb.2]
  refine ifK_f rfl ?_
  repeat (first | ((with_reducible refine letK_i ?_)) | ((with_reducible refine G74_q41 ?_); unfold F74_q41))
  refine ifK_f rfl ?_
  repeat (first | ((with_reducible refine letK_i ?_)))
  refine ifK_f rfl ?_
  repeat (first | ((with_reducible refine letK_i ?_)) | ((with_reducible refine G74_q40 ?_); unfold F74_q40))
  refine ifK_t rfl ?_
  skip
  refine S74_36 ?_
  unfold F74_36
  refine ifK_t rfl ?_
  repeat (first | ((with_reducible apply uncK_e); exact rfl) | ((with_reducible apply cI_e); exact rfl) | ((with_reducible apply cB_e); exact rfl) | ((with_reducible apply pvcs_e); exact rfl) | ((with_reducible refine hK.at0 ?_)) | ((with_reducible refine G74_q43 ?_); unfold F74_q43))
  refine quoS hK _ a b hz (fun H n' hn hK => ?_)
  cases h1 : ieq b (-1) && ieq a (-9223372036854775808) with
  | true =>
    rw [h1] at hk
    repeat (first | ((with_reducible apply cI_e); exact rfl) | ((with_reducible apply cB_e); exact rfl) | ((with_reducible apply avT_e); exact rfl) | ((with_reducible apply uncV_e); exact rfl) | ((with_reducible apply v1S_e); exact rfl) | ((with_reducible apply endL_e); exact rfl))
    refine hk _ _ ?_ ?_ <;> first | omega | exact (by first | exact hK | exact hK.tail | exact hK.tail.tail | exact hK.tail.tail.tail | exact hK.tail.tail.tail.tail | exact hK.tail.tail.tail.tail.tail | exact hK.tail.tail.tail.tail.tail.tail | exact hK.tail.tail.tail.tail.tail.tail.tail | exact hK.tail.tail.tail.tail.tail.tail.tail.tail)
  | false =>
    rw [h1] at hk
    repeat (first | ((with_reducible apply cI_e); exact rfl) | ((with_reducible apply cB_e); exact rfl) | ((with_reducible apply avT_e); exact rfl) | ((with_reducible apply uncV_e); exact rfl) | ((with_reducible apply v1S_e); exact rfl) | ((with_reducible apply endL_e); exact rfl))
    refine hk _ _ ?_ ?_ <;> first | omega | exact (by first | exact hK | exact hK.tail | exact hK.tail.tail | exact hK.tail.tail.tail | exact hK.tail.tail.tail.tail | exact hK.tail.tail.tail.tail.tail | exact hK.tail.tail.tail.tail.tail.tail | exact hK.tail.tail.tail.tail.tail.tail.tail | exact hK.tail.tail.tail.tail.tail.tail.tail.tail)
theorem bin4z {i : Nat → Option AO} {H n M} (hK : Kn H n M) {a b : Int} (ha : In64 a) (hb : In64 b) {K : AV → St → Prop} (hk : ∀ H' n', n ≤ n' → Kn H' n' M → K (two 0 false) ⟨i, H', n'⟩) : DSIr 74 [wd 64 true, nm 4, nm a, nm 0] ⟨i, H, n⟩ K := by
  refine .e (S74 (JS_ok _ _ _ _) ?_)
  unfold F74_0
  repeat (first | ((with_reducible refine hK.letS ?_); clear hK; intro H hK) | ((with_reducible apply uncK_e); exact rfl) | ((with_reducible apply cI_e); exact rfl) | ((with_reducible apply cB_e); exact rfl) | ((with_reducible refine hK.at0 ?_)))
  refine may_ok hK _ (fun H n' hn hK => ?_)
  repeat (first | ((with_reducible refine letK_i ?_)) | ((with_reducible refine G74_q25 ?_); unfold F74_q25))
  refine ifK_f rfl ?_
  repeat (first | ((with_reducible refine letK_i ?_)) | ((with_reducible apply uncK_e); exact rfl) | ((with_reducible apply cI_e); exact rfl) | ((with_reducible refine hK.at0 ?_)))
  refine S74_2 ?_
  unfold F74_2
  refine ifK_f rfl ?_
  repeat (first | ((with_reducible apply uncK_e); exact rfl) | ((with_reducible apply cI_e); exact rfl) | ((with_reducible apply cB_e); exact rfl) | ((with_reducible apply pvcs_e); exact rfl) | ((with_reducible refine hK.at0 ?_)) | ((with_reducible refine G74_q27 ?_); unfold F74_q27))
  refine wrapS_ok hK _ (fun H n' hn hK => ?_)
  repeat (first | ((with_reducible refine letK_i ?_)) | ((with_reducible apply cI_e); exact rfl) | ((with_reducible apply scK_e); exact rfl))
  rw [wrapS_id ha.1 ha.2]
  refine ifK_f rfl ?_
  repeat (first | ((with_reducible refine letK_i ?_)) | ((with_reducible refine G74_q26 ?_); unfold F74_q26))
  refine ifK_f rfl ?_
  repeat (first | ((with_reducible refine letK_i ?_)))
  refine S74_7 ?_
  unfold F74_7
  refine ifK_f rfl ?_
  repeat (first | ((with_reducible apply uncK_e); exact rfl) | ((with_reducible apply cI_e); exact rfl) | ((with_reducible apply cB_e); exact rfl) | ((with_reducible apply pvcs_e); exact rfl) | ((with_reducible refine hK.at0 ?_)) | ((with_reducible refine G74_q42 ?_); unfold F74_q42))
  refine wrapS_ok hK _ (fun H n' hn hK => ?_)
  repeat (first | ((with_reducible refine letK_i ?_)) | ((with_reducible apply cI_e); exact rfl) | ((with_reducible apply scK_e); exact rfl))
  rw [show wrapS 0 = 0 from wrapS_id (by decide) (by decide)]
  refine ifK_f rfl ?_
  repeat (first | ((with_reducible refine letK_i ?_)) | ((with_reducible refine G74_q41 ?_); unfold F74_q41))
  refine ifK_f rfl ?_
  repeat (first | ((with_reducible refine letK_i ?_)))
  refine ifK_f rfl ?_
  repeat (first | ((with_reducible refine letK_i ?_)) | ((with_reducible refine G74_q40 ?_); unfold F74_q40))
  refine ifK_t rfl ?_
  skip
  refine S74_36 ?_
  unfold F74_36
  refine ifK_t rfl ?_
  repeat (first | ((with_reducible apply uncK_e); exact rfl) | ((with_reducible apply cI_e); exact rfl) | ((with_reducible apply cB_e); exact rfl) | ((with_reducible apply pvcs_e); exact rfl) | ((with_reducible refine hK.at0 ?_)) | ((with_reducible refine G74_q43 ?_); unfold F74_q43))
  refine quo_zero hK _ _ _ (fun H n' hn hK => ?_)
  repeat (first | ((with_reducible apply cI_e); exact rfl) | ((with_reducible apply cB_e); exact rfl) | ((with_reducible apply avT_e); exact rfl) | ((with_reducible apply uncV_e); exact rfl) | ((with_reducible apply v1S_e); exact rfl) | ((with_reducible apply endL_e); exact rfl))
  refine hk _ _ ?_ ?_ <;> first | omega | exact (by first | exact hK | exact hK.tail | exact hK.tail.tail | exact hK.tail.tail.tail | exact hK.tail.tail.tail.tail | exact hK.tail.tail.tail.tail.tail | exact hK.tail.tail.tail.tail.tail.tail | exact hK.tail.tail.tail.tail.tail.tail.tail | exact hK.tail.tail.tail.tail.tail.tail.tail.tail)
theorem bin5 {i : Nat → Option AO} {H n M} (hK : Kn H n M) {a b : Int} (ha : In64 a) (hb : In64 b) (hz : b ≠ 0) {K : AV → St → Prop} (hk : ∀ H' n', n ≤ n' → Kn H' n' M → K (bif ieq b (-1) && ieq a (-9223372036854775808) then two 0 false else two (Int.tmod a b) true) ⟨i, H', n'⟩) : DSIr 74 [wd 64 true, nm 5, nm a, nm b] ⟨i, H, n⟩ K := by
  refine .e (S74 (JS_ok _ _ _ _) ?_)
  unfold F74_0
  repeat (first | ((with_reducible refine hK.letS ?_); clear hK; intro H hK) | ((with_reducible apply uncK_e); exact rfl) | ((with_reducible apply cI_e); exact rfl) | ((with_reducible apply cB_e); exact rfl) | ((with_reducible refine hK.at0 ?_)))
  refine may_ok hK _ (fun H n' hn hK => ?_)
  repeat (first | ((with_reducible refine letK_i ?_)) | ((with_reducible refine G74_q25 ?_); unfold F74_q25))
  refine ifK_f rfl ?_
  repeat (first | ((with_reducible refine letK_i ?_)) | ((with_reducible apply uncK_e); exact rfl) | ((with_reducible apply cI_e); exact rfl) | ((with_reducible refine hK.at0 ?_)))
  refine S74_2 ?_
  unfold F74_2
  refine ifK_f rfl ?_
  repeat (first | ((with_reducible apply uncK_e); exact rfl) | ((with_reducible apply cI_e); exact rfl) | ((with_reducible apply cB_e); exact rfl) | ((with_reducible apply pvcs_e); exact rfl) | ((with_reducible refine hK.at0 ?_)) | ((with_reducible refine G74_q27 ?_); unfold F74_q27))
  refine wrapS_ok hK _ (fun H n' hn hK => ?_)
  repeat (first | ((with_reducible refine letK_i ?_)) | ((with_reducible apply cI_e); exact rfl) | ((with_reducible apply scK_e); exact rfl))
  rw [wrapS_id ha.1 ha.2]
  refine ifK_f rfl ?_
  repeat (first | ((with_reducible refine letK_i ?_)) | ((with_reducible refine G74_q26 ?_); unfold F74_q26))
  refine ifK_f rfl ?_
  repeat (first | ((with_reducible refine letK_i ?_)))
  refine S74_7 ?_
  unfold F74_7
  refine ifK_f rfl ?_
  repeat (first | ((with_reducible apply uncK_e); exact rfl) | ((with_reducible apply cI_e); exact rfl) | ((with_reducible apply cB_e); exact rfl) | ((with_reducible apply pvcs_e); exact rfl) | ((with_reducible refine hK.at0 ?_)) | ((with_reducible refine G74_q42 ?_); unfold F74_q42))
  refine wrapS_ok hK _ (fun H n' hn hK => ?_)
  repeat (first | ((with_reducible refine letK_i ?_)) | ((with_reducible apply cI_e); exact rfl) | ((with_reducible apply scK_e); exact rfl))
  rw [wrapS_id hb.1 hb.2]
  refine ifK_f rfl ?_
  repeat (first | ((with_reducible refine letK_i ?_)) | ((with_reducible refine G74_q41 ?_); unfold F74_q41))
  refine ifK_f rfl ?_
  repeat (first | ((with_reducible refine letK_i ?_)))
  refine ifK_f rfl ?_
  repeat (first | ((with_reducible refine letK_i ?_)) | ((with_reducible refine G74_q40 ?_); unfold F74_q40))
  refine ifK_f rfl ?_
  repeat (first | ((with_reducible refine letK_i ?_)))
  refine ifK_t rfl ?_
  skip
  refine S74_36 ?_
  unfold F74_36
  refine ifK_t rfl ?_
  repeat (first | ((with_reducible apply uncK_e); exact rfl) | ((with_reducible apply cI_e); exact rfl) | ((with_reducible apply cB_e); exact rfl) | ((with_reducible apply pvcs_e); exact rfl) | ((with_reducible refine hK.at0 ?_)) | ((with_reducible refine G74_q43 ?_); unfold F74_q43))
  refine quoS hK _ a b hz (fun H n' hn hK => ?_)
  cases h1 : ieq b (-1) && ieq a (-9223372036854775808) with
  | true =>
    rw [h1] at hk
    repeat (first | ((with_reducible apply cI_e); exact rfl) | ((with_reducible apply cB_e); exact rfl) | ((with_reducible apply avT_e); exact rfl) | ((with_reducible apply uncV_e); exact rfl) | ((with_reducible apply v1S_e); exact rfl) | ((with_reducible apply endL_e); exact rfl))
    refine hk _ _ ?_ ?_ <;> first | omega | exact (by first | exact hK | exact hK.tail | exact hK.tail.tail | exact hK.tail.tail.tail | exact hK.tail.tail.tail.tail | exact hK.tail.tail.tail.tail.tail | exact hK.tail.tail.tail.tail.tail.tail | exact hK.tail.tail.tail.tail.tail.tail.tail | exact hK.tail.tail.tail.tail.tail.tail.tail.tail)
  | false =>
    rw [h1] at hk
    repeat (first | ((with_reducible apply cI_e); exact rfl) | ((with_reducible apply cB_e); exact rfl) | ((with_reducible apply avT_e); exact rfl) | ((with_reducible apply uncV_e); exact rfl) | ((with_reducible apply v1S_e); exact rfl) | ((with_reducible apply endL_e); exact rfl))
    refine hk _ _ ?_ ?_ <;> first | omega | exact (by first | exact hK | exact hK.tail | exact hK.tail.tail | exact hK.tail.tail.tail | exact hK.tail.tail.tail.tail | exact hK.tail.tail.tail.tail.tail | exact hK.tail.tail.tail.tail.tail.tail | exact hK.tail.tail.tail.tail.tail.tail.tail | exact hK.tail.tail.tail.tail.tail.tail.tail.tail)
theorem bin5z {i : Nat → Option AO} {H n M} (hK : Kn H n M) {a b : Int} (ha : In64 a) (hb : In64 b) {K : AV → St → Prop} (hk : ∀ H' n', n ≤ n' → Kn H' n' M → K (two 0 false) ⟨i, H', n'⟩) : DSIr 74 [wd 64 true, nm 5, nm a, nm 0] ⟨i, H, n⟩ K := by
  refine .e (S74 (JS_ok _ _ _ _) ?_)
  unfold F74_0
  repeat (first | ((with_reducible refine hK.letS ?_); clear hK; intro H hK) | ((with_reducible apply uncK_e); exact rfl) | ((with_reducible apply cI_e); exact rfl) | ((with_reducible apply cB_e); exact rfl) | ((with_reducible refine hK.at0 ?_)))
  refine may_ok hK _ (fun H n' hn hK => ?_)
  repeat (first | ((with_reducible refine letK_i ?_)) | ((with_reducible refine G74_q25 ?_); unfold F74_q25))
  refine ifK_f rfl ?_
  repeat (first | ((with_reducible refine letK_i ?_)) | ((with_reducible apply uncK_e); exact rfl) | ((with_reducible apply cI_e); exact rfl) | ((with_reducible refine hK.at0 ?_)))
  refine S74_2 ?_
  unfold F74_2
  refine ifK_f rfl ?_
  repeat (first | ((with_reducible apply uncK_e); exact rfl) | ((with_reducible apply cI_e); exact rfl) | ((with_reducible apply cB_e); exact rfl) | ((with_reducible apply pvcs_e); exact rfl) | ((with_reducible refine hK.at0 ?_)) | ((with_reducible refine G74_q27 ?_); unfold F74_q27))
  refine wrapS_ok hK _ (fun H n' hn hK => ?_)
  repeat (first | ((with_reducible refine letK_i ?_)) | ((with_reducible apply cI_e); exact rfl) | ((with_reducible apply scK_e); exact rfl))
  rw [wrapS_id ha.1 ha.2]
  refine ifK_f rfl ?_
  repeat (first | ((with_reducible refine letK_i ?_)) | ((with_reducible refine G74_q26 ?_); unfold F74_q26))
  refine ifK_f rfl ?_
  repeat (first | ((with_reducible refine letK_i ?_)))
  refine S74_7 ?_
  unfold F74_7
  refine ifK_f rfl ?_
  repeat (first | ((with_reducible apply uncK_e); exact rfl) | ((with_reducible apply cI_e); exact rfl) | ((with_reducible apply cB_e); exact rfl) | ((with_reducible apply pvcs_e); exact rfl) | ((with_reducible refine hK.at0 ?_)) | ((with_reducible refine G74_q42 ?_); unfold F74_q42))
  refine wrapS_ok hK _ (fun H n' hn hK => ?_)
  repeat (first | ((with_reducible refine letK_i ?_)) | ((with_reducible apply cI_e); exact rfl) | ((with_reducible apply scK_e); exact rfl))
  rw [show wrapS 0 = 0 from wrapS_id (by decide) (by decide)]
  refine ifK_f rfl ?_
  repeat (first | ((with_reducible refine letK_i ?_)) | ((with_reducible refine G74_q41 ?_); unfold F74_q41))
  refine ifK_f rfl ?_
  repeat (first | ((with_reducible refine letK_i ?_)))
  refine ifK_f rfl ?_
  repeat (first | ((with_reducible refine letK_i ?_)) | ((with_reducible refine G74_q40 ?_); unfold F74_q40))
  refine ifK_f rfl ?_
  repeat (first | ((with_reducible refine letK_i ?_)))
  refine ifK_t rfl ?_
  skip
  refine S74_36 ?_
  unfold F74_36
  refine ifK_t rfl ?_
  repeat (first | ((with_reducible apply uncK_e); exact rfl) | ((with_reducible apply cI_e); exact rfl) | ((with_reducible apply cB_e); exact rfl) | ((with_reducible apply pvcs_e); exact rfl) | ((with_reducible refine hK.at0 ?_)) | ((with_reducible refine G74_q43 ?_); unfold F74_q43))
  refine quo_zero hK _ _ _ (fun H n' hn hK => ?_)
  repeat (first | ((with_reducible apply cI_e); exact rfl) | ((with_reducible apply cB_e); exact rfl) | ((with_reducible apply avT_e); exact rfl) | ((with_reducible apply uncV_e); exact rfl) | ((with_reducible apply v1S_e); exact rfl) | ((with_reducible apply endL_e); exact rfl))
  refine hk _ _ ?_ ?_ <;> first | omega | exact (by first | exact hK | exact hK.tail | exact hK.tail.tail | exact hK.tail.tail.tail | exact hK.tail.tail.tail.tail | exact hK.tail.tail.tail.tail.tail | exact hK.tail.tail.tail.tail.tail.tail | exact hK.tail.tail.tail.tail.tail.tail.tail | exact hK.tail.tail.tail.tail.tail.tail.tail.tail)
theorem bin6 {i : Nat → Option AO} {H n M} (hK : Kn H n M) {a b : Int} (ha : In64 a) (hb : In64 b) (hz : b ≠ 0) (hu : iwrap .u64 b ≠ 0) {K : AV → St → Prop} (hk : ∀ H' n', n ≤ n' → Kn H' n' M → K (two (iwrap .i64 (iwrap .u64 (Int.tdiv (iwrap .u64 a) (iwrap .u64 b)))) true) ⟨i, H', n'⟩) : DSIr 74 [wd 64 false, nm 6, nm a, nm b] ⟨i, H, n⟩ K := by
  refine .e (S74 (JS_ok _ _ _ _) ?_)
  unfold F74_0
  repeat (first | ((with_reducible refine hK.letS ?_); clear hK; intro H hK) | ((with_reducible apply uncK_e); exact rfl) | ((with_reducible apply cI_e); exact rfl) | ((with_reducible apply cB_e); exact rfl) | ((with_reducible refine hK.at0 ?_)))
  refine may_ok hK _ (fun H n' hn hK => ?_)
  repeat (first | ((with_reducible refine letK_i ?_)) | ((with_reducible refine G74_q25 ?_); unfold F74_q25))
  refine ifK_f rfl ?_
  repeat (first | ((with_reducible refine letK_i ?_)) | ((with_reducible apply uncK_e); exact rfl) | ((with_reducible apply cI_e); exact rfl) | ((with_reducible refine hK.at0 ?_)))
  refine S74_2 ?_
  unfold F74_2
  refine ifK_f rfl ?_
  repeat (first | ((with_reducible apply uncK_e); exact rfl) | ((with_reducible apply cI_e); exact rfl) | ((with_reducible apply cB_e); exact rfl) | ((with_reducible apply pvcs_e); exact rfl) | ((with_reducible refine hK.at0 ?_)) | ((with_reducible refine G74_q27 ?_); unfold F74_q27))
  refine wrapU_ok hK _ (fun H n' hn hK => ?_)
  repeat (first | ((with_reducible refine letK_i ?_)) | ((with_reducible apply cI_e); exact rfl) | ((with_reducible apply scK_e); exact rfl))
  rw [wrapU_id ha.1 ha.2]
  refine ifK_f rfl ?_
  repeat (first | ((with_reducible refine letK_i ?_)) | ((with_reducible refine G74_q26 ?_); unfold F74_q26))
  refine ifK_f rfl ?_
  repeat (first | ((with_reducible refine letK_i ?_)))
  refine S74_7 ?_
  unfold F74_7
  refine ifK_f rfl ?_
  repeat (first | ((with_reducible apply uncK_e); exact rfl) | ((with_reducible apply cI_e); exact rfl) | ((with_reducible apply cB_e); exact rfl) | ((with_reducible apply pvcs_e); exact rfl) | ((with_reducible refine hK.at0 ?_)) | ((with_reducible refine G74_q42 ?_); unfold F74_q42))
  refine wrapU_ok hK _ (fun H n' hn hK => ?_)
  repeat (first | ((with_reducible refine letK_i ?_)) | ((with_reducible apply cI_e); exact rfl) | ((with_reducible apply scK_e); exact rfl))
  rw [wrapU_id hb.1 hb.2]
  refine ifK_f rfl ?_
  repeat (first | ((with_reducible refine letK_i ?_)) | ((with_reducible refine G74_q41 ?_); unfold F74_q41))
  refine ifK_f rfl ?_
  repeat (first | ((with_reducible refine letK_i ?_)))
  refine ifK_f rfl ?_
  repeat (first | ((with_reducible refine letK_i ?_)) | ((with_reducible refine G74_q40 ?_); unfold F74_q40))
  refine ifK_f rfl ?_
  repeat (first | ((with_reducible refine letK_i ?_)))
  refine ifK_f rfl ?_
  repeat (first | ((with_reducible refine letK_i ?_)) | ((with_reducible refine G74_q39 ?_); unfold F74_q39))
  refine ifK_t rfl ?_
  skip
  refine S74_36 ?_
  unfold F74_36
  refine ifK_t rfl ?_
  repeat (first | ((with_reducible apply uncK_e); exact rfl) | ((with_reducible apply cI_e); exact rfl) | ((with_reducible apply cB_e); exact rfl) | ((with_reducible apply pvcs_e); exact rfl) | ((with_reducible refine hK.at0 ?_)) | ((with_reducible refine G74_q43 ?_); unfold F74_q43))
  refine quoU hK _ a b hz hu (fun H n' hn hK => ?_)
  repeat (first | ((with_reducible apply cI_e); exact rfl) | ((with_reducible apply cB_e); exact rfl) | ((with_reducible apply avT_e); exact rfl) | ((with_reducible apply uncV_e); exact rfl) | ((with_reducible apply v1S_e); exact rfl) | ((with_reducible apply endL_e); exact rfl))
  refine hk _ _ ?_ ?_ <;> first | omega | exact (by first | exact hK | exact hK.tail | exact hK.tail.tail | exact hK.tail.tail.tail | exact hK.tail.tail.tail.tail | exact hK.tail.tail.tail.tail.tail | exact hK.tail.tail.tail.tail.tail.tail | exact hK.tail.tail.tail.tail.tail.tail.tail | exact hK.tail.tail.tail.tail.tail.tail.tail.tail)
theorem bin6z {i : Nat → Option AO} {H n M} (hK : Kn H n M) {a b : Int} (ha : In64 a) (hb : In64 b) {K : AV → St → Prop} (hk : ∀ H' n', n ≤ n' → Kn H' n' M → K (two 0 false) ⟨i, H', n'⟩) : DSIr 74 [wd 64 false, nm 6, nm a, nm 0] ⟨i, H, n⟩ K := by
  refine .e (S74 (JS_ok _ _ _ _) ?_)
  unfold F74_0
  repeat (first | ((with_reducible refine hK.letS ?_); clear hK; intro H hK) | ((with_reducible apply uncK_e); exact rfl) | ((with_reducible apply cI_e); exact rfl) | ((with_reducible apply cB_e); exact rfl) | ((with_reducible refine hK.at0 ?_)))
  refine may_ok hK _ (fun H n' hn hK => ?_)
  repeat (first | ((with_reducible refine letK_i ?_)) | ((with_reducible refine G74_q25 ?_); unfold F74_q25))
  refine ifK_f rfl ?_
  repeat (first | ((with_reducible refine letK_i ?_)) | ((with_reducible apply uncK_e); exact rfl) | ((with_reducible apply cI_e); exact rfl) | ((with_reducible refine hK.at0 ?_)))
  refine S74_2 ?_
  unfold F74_2
  refine ifK_f rfl ?_
  repeat (first | ((with_reducible apply uncK_e); exact rfl) | ((with_reducible apply cI_e); exact rfl) | ((with_reducible apply cB_e); exact rfl) | ((with_reducible apply pvcs_e); exact rfl) | ((with_reducible refine hK.at0 ?_)) | ((with_reducible refine G74_q27 ?_); unfold F74_q27))
  refine wrapU_ok hK _ (fun H n' hn hK => ?_)
  repeat (first | ((with_reducible refine letK_i ?_)) | ((with_reducible apply cI_e); exact rfl) | ((with_reducible apply scK_e); exact rfl))
  rw [wrapU_id ha.1 ha.2]
  refine ifK_f rfl ?_
  repeat (first | ((with_reducible refine letK_i ?_)) | ((with_reducible refine G74_q26 ?_); unfold F74_q26))
  refine ifK_f rfl ?_
  repeat (first | ((with_reducible refine letK_i ?_)))
  refine S74_7 ?_
  unfold F74_7
  refine ifK_f rfl ?_
  repeat (first | ((with_reducible apply uncK_e); exact rfl) | ((with_reducible apply cI_e); exact rfl) | ((with_reducible apply cB_e); exact rfl) | ((with_reducible apply pvcs_e); exact rfl) | ((with_reducible refine hK.at0 ?_)) | ((with_reducible refine G74_q42 ?_); unfold F74_q42))
  refine wrapU_ok hK _ (fun H n' hn hK => ?_)
  repeat (first | ((with_reducible refine letK_i ?_)) | ((with_reducible apply cI_e); exact rfl) | ((with_reducible apply scK_e); exact rfl))
  rw [show wrapU 0 = 0 from wrapU_id (by decide) (by decide)]
  refine ifK_f rfl ?_
  repeat (first | ((with_reducible refine letK_i ?_)) | ((with_reducible refine G74_q41 ?_); unfold F74_q41))
  refine ifK_f rfl ?_
  repeat (first | ((with_reducible refine letK_i ?_)))
  refine ifK_f rfl ?_
  repeat (first | ((with_reducible refine letK_i ?_)) | ((with_reducible refine G74_q40 ?_); unfold F74_q40))
  refine ifK_f rfl ?_
  repeat (first | ((with_reducible refine letK_i ?_)))
  refine ifK_f rfl ?_
  repeat (first | ((with_reducible refine letK_i ?_)) | ((with_reducible refine G74_q39 ?_); unfold F74_q39))
  refine ifK_t rfl ?_
  skip
  refine S74_36 ?_
  unfold F74_36
  refine ifK_t rfl ?_
  repeat (first | ((with_reducible apply uncK_e); exact rfl) | ((with_reducible apply cI_e); exact rfl) | ((with_reducible apply cB_e); exact rfl) | ((with_reducible apply pvcs_e); exact rfl) | ((with_reducible refine hK.at0 ?_)) | ((with_reducible refine G74_q43 ?_); unfold F74_q43))
  refine quo_zero hK _ _ _ (fun H n' hn hK => ?_)
  repeat (first | ((with_reducible apply cI_e); exact rfl) | ((with_reducible apply cB_e); exact rfl) | ((with_reducible apply avT_e); exact rfl) | ((with_reducible apply uncV_e); exact rfl) | ((with_reducible apply v1S_e); exact rfl) | ((with_reducible apply endL_e); exact rfl))
  refine hk _ _ ?_ ?_ <;> first | omega | exact (by first | exact hK | exact hK.tail | exact hK.tail.tail | exact hK.tail.tail.tail | exact hK.tail.tail.tail.tail | exact hK.tail.tail.tail.tail.tail | exact hK.tail.tail.tail.tail.tail.tail | exact hK.tail.tail.tail.tail.tail.tail.tail | exact hK.tail.tail.tail.tail.tail.tail.tail.tail)
theorem bin7 {i : Nat → Option AO} {H n M} (hK : Kn H n M) {a b : Int} (ha : In64 a) (hb : In64 b) (hz : b ≠ 0) (hu : iwrap .u64 b ≠ 0) {K : AV → St → Prop} (hk : ∀ H' n', n ≤ n' → Kn H' n' M → K (two (iwrap .i64 (Int.tmod (iwrap .u64 a) (iwrap .u64 b))) true) ⟨i, H', n'⟩) : DSIr 74 [wd 64 false, nm 7, nm a, nm b] ⟨i, H, n⟩ K := by
  refine .e (S74 (JS_ok _ _ _ _) ?_)
  unfold F74_0
  repeat (first | ((with_reducible refine hK.letS ?_); clear hK; intro H hK) | ((with_reducible apply uncK_e); exact rfl) | ((with_reducible apply cI_e); exact rfl) | ((with_reducible apply cB_e); exact rfl) | ((with_reducible refine hK.at0 ?_)))
  refine may_ok hK _ (fun H n' hn hK => ?_)
  repeat (first | ((with_reducible refine letK_i ?_)) | ((with_reducible refine G74_q25 ?_); unfold F74_q25))
  refine ifK_f rfl ?_
  repeat (first | ((with_reducible refine letK_i ?_)) | ((with_reducible apply uncK_e); exact rfl) | ((with_reducible apply cI_e); exact rfl) | ((with_reducible refine hK.at0 ?_)))
  refine S74_2 ?_
  unfold F74_2
  refine ifK_f rfl ?_
  repeat (first | ((with_reducible apply uncK_e); exact rfl) | ((with_reducible apply cI_e); exact rfl) | ((with_reducible apply cB_e); exact rfl) | ((with_reducible apply pvcs_e); exact rfl) | ((with_reducible refine hK.at0 ?_)) | ((with_reducible refine G74_q27 ?_); unfold F74_q27))
  refine wrapU_ok hK _ (fun H n' hn hK => ?_)
  repeat (first | ((with_reducible refine letK_i ?_)) | ((with_reducible apply cI_e); exact rfl) | ((with_reducible apply scK_e); exact rfl))
  rw [wrapU_id ha.1 ha.2]
  refine ifK_f rfl ?_
  repeat (first | ((with_reducible refine letK_i ?_)) | ((with_reducible refine G74_q26 ?_); unfold F74_q26))
  refine ifK_f rfl ?_
  repeat (first | ((with_reducible refine letK_i ?_)))
  refine S74_7 ?_
  unfold F74_7
  refine ifK_f rfl ?_
  repeat (first | ((with_reducible apply uncK_e); exact rfl) | ((with_reducible apply cI_e); exact rfl) | ((with_reducible apply cB_e); exact rfl) | ((with_reducible apply pvcs_e); exact rfl) | ((with_reducible refine hK.at0 ?_)) | ((with_reducible refine G74_q42 ?_); unfold F74_q42))
  refine wrapU_ok hK _ (fun H n' hn hK => ?_)
  repeat (first | ((with_reducible refine letK_i ?_)) | ((with_reducible apply cI_e); exact rfl) | ((with_reducible apply scK_e); exact rfl))
  rw [wrapU_id hb.1 hb.2]
  refine ifK_f rfl ?_
  repeat (first | ((with_reducible refine letK_i ?_)) | ((with_reducible refine G74_q41 ?_); unfold F74_q41))
  refine ifK_f rfl ?_
  repeat (first | ((with_reducible refine letK_i ?_)))
  refine ifK_f rfl ?_
  repeat (first | ((with_reducible refine letK_i ?_)) | ((with_reducible refine G74_q40 ?_); unfold F74_q40))
  refine ifK_f rfl ?_
  repeat (first | ((with_reducible refine letK_i ?_)))
  refine ifK_f rfl ?_
  repeat (first | ((with_reducible refine letK_i ?_)) | ((with_reducible refine G74_q39 ?_); unfold F74_q39))
  refine ifK_f rfl ?_
  repeat (first | ((with_reducible refine letK_i ?_)))
  skip
  refine S74_36 ?_
  unfold F74_36
  refine ifK_t rfl ?_
  repeat (first | ((with_reducible apply uncK_e); exact rfl) | ((with_reducible apply cI_e); exact rfl) | ((with_reducible apply cB_e); exact rfl) | ((with_reducible apply pvcs_e); exact rfl) | ((with_reducible refine hK.at0 ?_)) | ((with_reducible refine G74_q43 ?_); unfold F74_q43))
  refine quoU hK _ a b hz hu (fun H n' hn hK => ?_)
  repeat (first | ((with_reducible apply cI_e); exact rfl) | ((with_reducible apply cB_e); exact rfl) | ((with_reducible apply avT_e); exact rfl) | ((with_reducible apply uncV_e); exact rfl) | ((with_reducible apply v1S_e); exact rfl) | ((with_reducible apply endL_e); exact rfl))
  refine hk _ _ ?_ ?_ <;> first | omega | exact (by first | exact hK | exact hK.tail | exact hK.tail.tail | exact hK.tail.tail.tail | exact hK.tail.tail.tail.tail | exact hK.tail.tail.tail.tail.tail | exact hK.tail.tail.tail.tail.tail.tail | exact hK.tail.tail.tail.tail.tail.tail.tail | exact hK.tail.tail.tail.tail.tail.tail.tail.tail)
theorem bin7z {i : Nat → Option AO} {H n M} (hK : Kn H n M) {a b : Int} (ha : In64 a) (hb : In64 b) {K : AV → St → Prop} (hk : ∀ H' n', n ≤ n' → Kn H' n' M → K (two 0 false) ⟨i, H', n'⟩) : DSIr 74 [wd 64 false, nm 7, nm a, nm 0] ⟨i, H, n⟩ K := by
  refine .e (S74 (JS_ok _ _ _ _) ?_)
  unfold F74_0
  repeat (first | ((with_reducible refine hK.letS ?_); clear hK; intro H hK) | ((with_reducible apply uncK_e); exact rfl) | ((with_reducible apply cI_e); exact rfl) | ((with_reducible apply cB_e); exact rfl) | ((with_reducible refine hK.at0 ?_)))
  refine may_ok hK _ (fun H n' hn hK => ?_)
  repeat (first | ((with_reducible refine letK_i ?_)) | ((with_reducible refine G74_q25 ?_); unfold F74_q25))
  refine ifK_f rfl ?_
  repeat (first | ((with_reducible refine letK_i ?_)) | ((with_reducible apply uncK_e); exact rfl) | ((with_reducible apply cI_e); exact rfl) | ((with_reducible refine hK.at0 ?_)))
  refine S74_2 ?_
  unfold F74_2
  refine ifK_f rfl ?_
  repeat (first | ((with_reducible apply uncK_e); exact rfl) | ((with_reducible apply cI_e); exact rfl) | ((with_reducible apply cB_e); exact rfl) | ((with_reducible apply pvcs_e); exact rfl) | ((with_reducible refine hK.at0 ?_)) | ((with_reducible refine G74_q27 ?_); unfold F74_q27))
  refine wrapU_ok hK _ (fun H n' hn hK => ?_)
  repeat (first | ((with_reducible refine letK_i ?_)) | ((with_reducible apply cI_e); exact rfl) | ((with_reducible apply scK_e); exact rfl))
  rw [wrapU_id ha.1 ha.2]
  refine ifK_f rfl ?_
  repeat (first | ((with_reducible refine letK_i ?_)) | ((with_reducible refine G74_q26 ?_); unfold F74_q26))
  refine ifK_f rfl ?_
  repeat (first | ((with_reducible refine letK_i ?_)))
  refine S74_7 ?_
  unfold F74_7
  refine ifK_f rfl ?_
  repeat (first | ((with_reducible apply uncK_e); exact rfl) | ((with_reducible apply cI_e); exact rfl) | ((with_reducible apply cB_e); exact rfl) | ((with_reducible apply pvcs_e); exact rfl) | ((with_reducible refine hK.at0 ?_)) | ((with_reducible refine G74_q42 ?_); unfold F74_q42))
  refine wrapU_ok hK _ (fun H n' hn hK => ?_)
  repeat (first | ((with_reducible refine letK_i ?_)) | ((with_reducible apply cI_e); exact rfl) | ((with_reducible apply scK_e); exact rfl))
  rw [show wrapU 0 = 0 from wrapU_id (by decide) (by decide)]
  refine ifK_f rfl ?_
  repeat (first | ((with_reducible refine letK_i ?_)) | ((with_reducible refine G74_q41 ?_); unfold F74_q41))
  refine ifK_f rfl ?_
  repeat (first | ((with_reducible refine letK_i ?_)))
  refine ifK_f rfl ?_
  repeat (first | ((with_reducible refine letK_i ?_)) | ((with_reducible refine G74_q40 ?_); unfold F74_q40))
  refine ifK_f rfl ?_
  repeat (first | ((with_reducible refine letK_i ?_)))
  refine ifK_f rfl ?_
  repeat (first | ((with_reducible refine letK_i ?_)) | ((with_reducible refine G74_q39 ?_); unfold F74_q39))
  refine ifK_f rfl ?_
  repeat (first | ((with_reducible refine letK_i ?_)))
  skip
  refine S74_36 ?_
  unfold F74_36
  refine ifK_t rfl ?_
  repeat (first | ((with_reducible apply uncK_e); exact rfl) | ((with_reducible apply cI_e); exact rfl) | ((with_reducible apply cB_e); exact rfl) | ((with_reducible apply pvcs_e); exact rfl) | ((with_reducible refine hK.at0 ?_)) | ((with_reducible refine G74_q43 ?_); unfold F74_q43))
  refine quo_zero hK _ _ _ (fun H n' hn hK => ?_)
  repeat (first | ((with_reducible apply cI_e); exact rfl) | ((with_reducible apply cB_e); exact rfl) | ((with_reducible apply avT_e); exact rfl) | ((with_reducible apply uncV_e); exact rfl) | ((with_reducible apply v1S_e); exact rfl) | ((with_reducible apply endL_e); exact rfl))
  refine hk _ _ ?_ ?_ <;> first | omega | exact (by first | exact hK | exact hK.tail | exact hK.tail.tail | exact hK.tail.tail.tail | exact hK.tail.tail.tail.tail | exact hK.tail.tail.tail.tail.tail | exact hK.tail.tail.tail.tail.tail.tail | exact hK.tail.tail.tail.tail.tail.tail.tail | exact hK.tail.tail.tail.tail.tail.tail.tail.tail)
end Go.Xe
