/- Quotients, rests, shifts of word, in plain numbers. -/
import Derived.Test.YthkcdmkimnockaaDoorWordSpec
open Go Go.RowKit Go.Proofs.YthkcdmkimnockaaDoorW.PrintMore Go.Proofs.YthkcdmkimnockaaDoorW.PrintWords
open Go.Proofs.YthkcdmkimnockaaDoor.WordMath
namespace Go.Proofs.YthkcdmkimnockaaDoor.PWord
/-- what stands in a width: a number that is its own lowest bits -/
structure In (b : Int) (s : Bool) (n : Int) : Prop where
  i64 : I64 n
  own : wv b s n = n
  s32 : b = 32 → s = true → -2147483648 ≤ n ∧ n ≤ 2147483647
  u32 : b = 32 → s = false → 0 ≤ n ∧ n < 4294967296
theorem in_wv (b : Int) (hb : b = 32 ∨ b = 64) (s : Bool) (n : Int) : In b s (wv b s n) := by
  refine ⟨wv_range b s n, ?_, ?_, ?_⟩
  · rcases hb with rfl | rfl
    · cases s
      · rw [wv_32u, wv_32u]; omega
      · rw [wv_32s, wv_32s]; omega
    · rw [wv_64, wv_64]; unfold wrap64; omega
  · rintro rfl rfl; rw [wv_32s]; omega
  · rintro rfl rfl; rw [wv_32u]; omega
theorem in_of (b : Int) (hb : b = 32 ∨ b = 64) (s : Bool) (n : Int) (h : I64 n) (h1 : b = 32 → s = true → -2147483648 ≤ n ∧ n ≤ 2147483647) (h2 : b = 32 → s = false → 0 ≤ n ∧ n < 4294967296) : In b s n := by
  refine ⟨h, ?_, h1, h2⟩
  rcases hb with rfl | rfl
  · cases s
    · have := h2 rfl rfl; rw [wv_32u]; omega
    · have := h1 rfl rfl; rw [wv_32s]; omega
  · rw [wv_64]; unfold wrap64; omega
theorem wrap_cong (x y m : Int) (h : x = y + m * 18446744073709551616) : wrap64 x = wrap64 y := by unfold wrap64; omega
theorem div_mod (b : Int) (hb : b = 32 ∨ b = 64) (s : Bool) (a c : Int) (ha : In b s a) (hc : In b s c) :
    ∃ ok q r, Bin b s 4 a c = (q, ok) ∧ Bin b s 5 a c = (r, ok) ∧ (ok = true → c ≠ 0 ∧ wv b s (wrap64 (wrap64 (q * c) + r)) = a ∧ (s = true → r = 0 ∨ ((decide (r < 0)) != (decide (a < 0))) = false) ∧ (s = false → Bin b s 16 r c = (1, true))) := by
  have e4 : Bin b s 4 a c = (if c = 0 then (0, false) else if s = true then ar b s (a.tdiv c) else (wrap64 (uv a / uv c), true)) := by
    unfold Bin; rw [if_pos hb, ha.own, hc.own]; rfl
  have e5 : Bin b s 5 a c = (if c = 0 then (0, false) else if s = true then (if c = -1 ∧ a = least b then (0, false) else (a.tmod c, true)) else (wrap64 (uv a % uv c), true)) := by
    unfold Bin; rw [if_pos hb, ha.own, hc.own]; rfl
  rw [e4, e5]
  by_cases h0 : c = 0
  · exact ⟨false, 0, 0, by rw [if_pos h0], by rw [if_pos h0], fun h => by cases h⟩
  rw [if_neg h0, if_neg h0]
  cases s with
  | true =>
    rw [if_pos rfl, if_pos rfl]
    by_cases hm : c = -1 ∧ a = least b
    · refine ⟨false, 0, 0, ?_, by rw [if_pos hm], fun h => by cases h⟩
      have hd : a.tdiv c = - least b := by obtain ⟨e1, e2⟩ := hm; rw [e1, Int.tdiv_neg, Int.tdiv_one, e2]
      rw [hd]
      rcases hb with rfl | rfl <;> simp [ar, wv, least, wrap64]
    · rw [if_neg hm]
      have g1 := Int.natAbs_tdiv_le_natAbs a c
      have g2 : c = -1 → a.tdiv c = -a := fun h => by subst h; rw [Int.tdiv_neg, Int.tdiv_one]
      have g3 : c ≠ -1 → a = least b → a.tdiv c ≠ - least b := fun hc1 hal => tdiv_no a c _ (by rcases hb with rfl | rfl <;> simp [least]) h0 hc1 (by omega)
      have h64 := ha.i64
      have hin : In b true (a.tdiv c) := by
        rcases hb with rfl | rfl
        · have := ha.s32 rfl rfl
          simp only [least, if_true] at *
          exact in_of 32 (.inl rfl) true _ (by unfold I64; omega) (fun _ _ => by omega) (fun _ h => by cases h)
        · simp only [least, show ¬ ((64 : Int) = 32) by decide, if_false] at *
          exact in_of 64 (.inr rfl) true _ (by unfold I64 at *; omega) (fun h => absurd h (by decide)) (fun _ h => by cases h)
      refine ⟨true, a.tdiv c, a.tmod c, ?_, rfl, fun _ => ⟨h0, ?_, fun _ => ?_, fun h => by cases h⟩⟩
      · unfold ar; rw [if_pos rfl, if_pos hin.own]
      · have hq := Int.tmod_add_mul_tdiv a c
        have e : wrap64 (wrap64 (a.tdiv c * c) + a.tmod c) = wrap64 a := by
          rw [Int.mul_comm c] at hq
          unfold wrap64
          omega
        rw [e, wv_wrap, ha.own]
      · by_cases hr : a.tmod c = 0
        · exact .inl hr
        · refine .inr ?_
          rw [bne_eq_false_iff_eq, decide_eq_decide]
          have h5 := tmod_lt a c h0
          constructor
          · intro hn
            apply Decidable.by_contra
            intro hp
            have := Int.tmod_nonneg c (show 0 ≤ a by omega)
            omega
          · intro hn
            have := Int.tmod_nonneg c (show 0 ≤ -a by omega)
            rw [Int.neg_tmod] at this
            omega
  | false =>
    rw [if_neg (by decide), if_neg (by decide)]
    have hC : 0 < uv c := by have := hc.i64; unfold uv I64 at *; omega
    have hlt := Int.emod_lt_of_pos (uv a) hC
    have hge := Int.emod_nonneg (uv a) (Int.ne_of_gt hC)
    have hA : 0 ≤ uv a ∧ uv a < 18446744073709551616 := by unfold uv; omega
    have hC2 : uv c < 18446744073709551616 := by unfold uv; omega
    refine ⟨true, wrap64 (uv a / uv c), wrap64 (uv a % uv c), rfl, rfl, fun _ => ⟨h0, ?_, (fun h => by cases h), fun _ => ?_⟩⟩
    · have hq := Int.emod_add_mul_ediv (uv a) (uv c)
      have q1 : ∃ m, wrap64 (uv a / uv c) = uv a / uv c + m * 18446744073709551616 := ⟨-((uv a / uv c + 9223372036854775808) / 18446744073709551616), by unfold wrap64; omega⟩
      have q2 : ∃ m, c = uv c + m * 18446744073709551616 := ⟨c / 18446744073709551616, by unfold uv; omega⟩
      have q3 : ∃ m, a = uv a + m * 18446744073709551616 := ⟨a / 18446744073709551616, by unfold uv; omega⟩
      obtain ⟨m1, q1⟩ := q1
      obtain ⟨m2, q2⟩ := q2
      obtain ⟨m3, q3⟩ := q3
      generalize wrap64 (uv a / uv c) = q at *
      generalize uv a / uv c = Q at *
      generalize uv a % uv c = R at *
      have e : wrap64 (wrap64 (q * c) + wrap64 R) = wrap64 a := by
        have hqc : q * c = uv c * Q + (Q * m2 + m1 * uv c + m1 * m2 * 18446744073709551616) * 18446744073709551616 := by
          rw [q1]
          conv => lhs; rw [q2]
          grind
        rw [hqc]
        generalize Q * m2 + m1 * uv c + m1 * m2 * 18446744073709551616 = M
        have : uv c * Q = uv a - R := by omega
        rw [this]
        generalize uv a = A at *
        unfold wrap64
        omega
      rw [e, wv_wrap, ha.own]
    · unfold Bin
      rw [if_pos hb, if_neg (by decide), if_neg (by decide), if_neg (by decide), if_neg (by decide), if_neg (by decide), if_neg (by decide), if_neg (by decide), if_neg (by decide), if_neg (by decide), if_neg (by decide), if_neg (by decide), if_neg (by decide), if_pos (.inl rfl), hc.own]
      have hr : wv b false (wrap64 (uv a % uv c)) = wrap64 (uv a % uv c) := by
        rw [wv_wrap]
        rcases hb with rfl | rfl
        · have h1 := ha.u32 rfl rfl
          have h2 := hc.u32 rfl rfl
          rw [wv_32u]
          have e1 : uv c = c := by unfold uv; omega
          unfold wrap64
          omega
        · rw [wv_64]
      rw [hr]
      have : uv (wrap64 (uv a % uv c)) = uv a % uv c := by
        generalize uv a % uv c = R at *
        unfold uv wrap64
        omega
      unfold lessB
      rw [if_neg (by decide), this, decide_eq_true hlt]
      rfl
theorem shifts (b : Int) (hb : b = 32 ∨ b = 64) (s : Bool) (a n : Int) (ha : In b s a) (hn : 0 ≤ n ∧ n < b) :
    ∃ up fits down, Bin b s 11 a n = (up, fits) ∧ Bin b s 12 up n = (down, true) ∧ (fits = true → s = true → down = a) ∧ (fits = false → s = true → a < 0 ∨ 0 < n) := by
  have e11 : Bin b s 11 a n = (if s = true then (if 0 ≤ a then ar b s (a * 2 ^ n.toNat) else (0, false)) else (wv b s (a * 2 ^ n.toNat), true)) := by
    unfold Bin; rw [if_pos hb, if_pos rfl, if_pos hn, ha.own]
  have e12 : ∀ u, Bin b s 12 u n = (if s = true then (wv b s u / 2 ^ n.toNat, true) else (wrap64 (uv (wv b s u) / 2 ^ n.toNat), true)) := fun u => by
    unfold Bin; rw [if_pos hb, if_neg (by decide), if_pos (.inl rfl), if_pos hn]
  rw [e11]
  cases s with
  | false =>
    refine ⟨_, true, _, by rw [if_neg (by decide)], by rw [e12, if_neg (by decide)], (fun _ h => by cases h), (fun h => by cases h)⟩
  | true =>
    rw [if_pos rfl]
    by_cases h0 : 0 ≤ a
    · rw [if_pos h0]
      unfold ar
      rw [if_pos rfl]
      by_cases hw : wv b true (a * 2 ^ n.toNat) = a * 2 ^ n.toNat
      · rw [if_pos hw]
        refine ⟨_, true, _, rfl, by rw [e12, if_pos rfl], fun _ _ => ?_, fun h => by cases h⟩
        rw [hw]
        exact Int.mul_ediv_cancel a (Int.ne_of_gt (pow_pos' n))
      · rw [if_neg hw]
        refine ⟨0, false, _, rfl, by rw [e12, if_pos rfl], (fun h => by cases h), fun _ _ => ?_⟩
        apply Decidable.by_contra
        intro hc
        have hz : n = 0 := by omega
        subst hz
        apply hw
        simp only [Int.toNat_zero, Int.pow_zero, Int.mul_one]
        exact ha.own
    · rw [if_neg h0]
      exact ⟨0, false, _, rfl, by rw [e12, if_pos rfl], (fun h => by cases h), fun _ _ => .inl (by omega)⟩
end Go.Proofs.YthkcdmkimnockaaDoor.PWord
