/- What word's functions answer, in plain numbers. -/
import Derived.Test.YthkcdmkimnockaaDoorPWordx10
import Derived.Test.YthkcdmkimnockaaDoorPWordx13
import Derived.Test.YthkcdmkimnockaaDoorPWordx17
import Derived.Test.YthkcdmkimnockaaDoorPWordx2
import Derived.Test.YthkcdmkimnockaaDoorPWordx4
import Derived.Test.YthkcdmkimnockaaDoorPWordx5
import Derived.Test.YthkcdmkimnockaaDoorPWordx9
import Derived.Test.YthkcdmkimnockaaDoorWordMath
import Derived.OpenShut
open Go Go.RowKit Go.Proofs.YthkcdmkimnockaaDoorW.PrintMore Go.Proofs.YthkcdmkimnockaaDoorW.PrintWords
open Go.Proofs.YthkcdmkimnockaaDoor.WordMath
namespace Go.Proofs.YthkcdmkimnockaaDoor.PWord
abbrev I64 (n : Int) : Prop := -9223372036854775808 ≤ n ∧ n ≤ 9223372036854775807
/-- n's lowest b bits, with a sign or without, as an int64. -/
def wv (b : Int) (s : Bool) (n : Int) : Int :=
  if b = 8 then (if s = true then (n + 128) % 256 - 128 else n % 256) else if b = 16 then (if s = true then (n + 32768) % 65536 - 32768 else n % 65536) else if b = 32 then (if s = true then (n + 2147483648) % 4294967296 - 2147483648 else n % 4294967296) else if b = 64 then wrap64 n else 0
def mayb (b : Int) : Bool := b == 8 || b == 16 || b == 32 || b == 64
theorem may_word (b : Int) (s : Bool) : word_May.f b s = some (mayb b) := by
  unfold word_May.f mayb
  by_cases h8 : b = 8
  · subst h8; rfl
  by_cases h16 : b = 16
  · subst h16; rfl
  by_cases h32 : b = 32
  · subst h32; rfl
  simp [h8, h16, h32]
theorem wrap_word (b : Int) (s : Bool) (n : Int) : word_Wrap.f b s n = some (wv b s n) := by
  unfold word_Wrap.f
  rw [may_word]
  unfold mayb wv
  by_cases h8 : b = 8
  · subst h8; cases s <;> simp [shl, shr, i64w, u64w, wrap64, IntKind.bits] <;> omega
  by_cases h16 : b = 16
  · subst h16; cases s <;> simp [shl, shr, i64w, u64w, wrap64, IntKind.bits] <;> omega
  by_cases h32 : b = 32
  · subst h32; cases s <;> simp [shl, shr, i64w, u64w, wrap64, IntKind.bits] <;> omega
  by_cases h64 : b = 64
  · subst h64; cases s <;> simp [shl, shr, i64w, u64w, wrap64, IntKind.bits] <;> omega
  simp [h8, h16, h32, h64]
theorem is_word (b : Int) (s : Bool) (n : Int) : word_Is.f b s n = some (mayb b && wv b s n == n) := by
  unfold word_Is.f
  rw [may_word, wrap_word]
  cases h : mayb b <;> simp
/-- a true number, as one of a width; with a sign: if it is one. -/
def ar (b : Int) (s : Bool) (n : Int) : Int × Bool := if s = true then (if wv b s n = n then (n, true) else (0, false)) else (wv b s n, true)
theorem mul64_word (x y : Int) (hx : 0 ≤ x) (hx2 : x < 18446744073709551616) (hy : 0 ≤ y) (hy2 : y < 18446744073709551616) :
    bits_Mul64.f x y = some (x * y / 18446744073709551616, x * y % 18446744073709551616) := by
  unfold bits_Mul64.f
  rw [mul64 x y hx hx2 hy hy2, u64w]
theorem product_word (a b : Int) (ha : I64 a) (hb : I64 b) : word_product.f a b = some (decide (I64 (a * b))) := by
  unfold word_product.f word_magnitude.f
  rw [mag_u a ha.1 ha.2, mag_u b hb.1 hb.2]
  have b1 := mag_bd a ha.1 ha.2
  have b2 := mag_bd b hb.1 hb.2
  simp only [Option.bind_some]
  rw [mul64_word _ _ b1.1 (by omega) b2.1 (by omega)]
  simp only [Option.bind_some]
  exact prod_fits a b ha.1 ha.2 hb.1 hb.2
theorem sum_word (b : Int) (s : Bool) (n : Int) (ok : Bool) : word_sum.f b s n ok = some (if ok = true ∧ mayb b = true ∧ wv b s n = n then (n, true) else (0, false)) := by
  unfold word_sum.f
  rw [is_word]
  cases ok <;> cases mayb b <;> simp
  by_cases h : wv b s n = n <;> simp [h]
def least (b : Int) : Int := if b = 32 then -2147483648 else -9223372036854775808
def uv (n : Int) : Int := n % 18446744073709551616
def tr (p : Bool) : Int := if p = true then 1 else 0
def lessB (s : Bool) (a c : Int) : Bool := if s = true then decide (a < c) else decide (uv a < uv c)
/-- what two numbers of a width come to -/
def Bin (b : Int) (s : Bool) (sub x y : Int) : Int × Bool :=
  if b = 32 ∨ b = 64 then
    if sub = 11 then (if 0 ≤ y ∧ y < b then (if s = true then (if 0 ≤ wv b s x then ar b s (wv b s x * 2 ^ y.toNat) else (0, false)) else (wv b s (wv b s x * 2 ^ y.toNat), true)) else (0, false))
    else if sub = 12 ∨ sub = 13 then (if 0 ≤ y ∧ y < b then (if s = true then (wv b s x / 2 ^ y.toNat, true) else (wrap64 (uv (wv b s x) / 2 ^ y.toNat), true)) else (0, false))
    else if sub = 1 then ar b s (wv b s x + wv b s y)
    else if sub = 2 then ar b s (wv b s x - wv b s y)
    else if sub = 3 then ar b s (wv b s x * wv b s y)
    else if sub = 4 ∨ sub = 6 then (if wv b s y = 0 then (0, false) else if s = true then ar b s ((wv b s x).tdiv (wv b s y)) else (wrap64 (uv (wv b s x) / uv (wv b s y)), true))
    else if sub = 5 ∨ sub = 7 then (if wv b s y = 0 then (0, false) else if s = true then (if wv b s y = -1 ∧ wv b s x = least b then (0, false) else ((wv b s x).tmod (wv b s y), true)) else (wrap64 (uv (wv b s x) % uv (wv b s y)), true))
    else if sub = 8 then (Go.bits .and .i64 (wv b s x) (wv b s y), true)
    else if sub = 9 then (Go.bits .or .i64 (wv b s x) (wv b s y), true)
    else if sub = 10 then (Go.bits .xor .i64 (wv b s x) (wv b s y), true)
    else if sub = 14 then (tr (wv b s x == wv b s y), true)
    else if sub = 15 then (tr (wv b s x != wv b s y), true)
    else if sub = 16 ∨ sub = 18 then (tr (lessB s (wv b s x) (wv b s y)), true)
    else if sub = 17 ∨ sub = 19 then (tr (!lessB s (wv b s y) (wv b s x)), true)
    else (0, false)
  else (0, false)
theorem truth_word (p : Bool) : word_truth.f p = some (tr p, true) := by cases p <;> rfl
theorem less_word (b : Int) (s : Bool) (a c : Int) : word_less.f b s a c = some (lessB s a c) := by
  unfold word_less.f lessB uv
  simp only [u64w]
  cases s <;> simp
theorem wv_range (b : Int) (s : Bool) (n : Int) : I64 (wv b s n) := by
  unfold wv
  repeat' split
  all_goals first | omega | (unfold wrap64; omega)
theorem wv_32s (n : Int) : wv 32 true n = (n + 2147483648) % 4294967296 - 2147483648 := by simp [wv]
theorem wv_32u (n : Int) : wv 32 false n = n % 4294967296 := by simp [wv]
theorem wv_64 (s : Bool) (n : Int) : wv 64 s n = wrap64 n := by simp [wv]
theorem ar_sum (b : Int) (hb : b = 32 ∨ b = 64) (n : Int) (ok : Bool) (h : ok = decide (I64 n)) : word_sum.f b true (wrap64 n) ok = some (ar b true n) := by
  rw [sum_word]
  have hm : mayb b = true := by rcases hb with rfl | rfl <;> rfl
  unfold ar
  by_cases hf : I64 n
  · rw [h, decide_eq_true hf]
    have e : wrap64 n = n := by unfold wrap64; omega
    simp [hm, e]
  · rw [h, decide_eq_false hf]
    have : ¬ wv b true n = n := fun e => hf (e ▸ wv_range b true n)
    simp [this]
theorem ar_u (b : Int) (n : Int) : wv b false (wrap64 n) = (ar b false n).1 ∧ (ar b false n).2 = true := by
  unfold ar
  refine ⟨?_, by simp⟩
  simp only [Bool.false_eq_true, if_false]
  unfold wv wrap64
  simp only [Bool.false_eq_true, if_false]
  repeat' split
  all_goals omega
theorem least_word (b : Int) (hb : b = 32 ∨ b = 64) (s : Bool) : word_least.f b s = some (least b) := by
  unfold word_least.f
  rcases hb with rfl | rfl <;> simp [wrap64, shr, least, IntKind.bits]
theorem pow_pos' (y : Int) : 0 < (2 : Int) ^ y.toNat := Int.pow_pos (by decide)
theorem shl_eq (k : IntKind) (a y : Int) (h : y ≤ k.bits) : shl k a y = k.wrap (a * 2 ^ y.toNat) := (shl_small rfl h).symm
theorem shr_eq (k : IntKind) (a y : Int) (h : y ≤ k.bits) : shr k a y = a / 2 ^ y.toNat := (shr_small rfl h).symm
theorem shl_i (a y : Int) (h : y < 64) : shl .i64 a y = wrap64 (a * 2 ^ y.toNat) := by rw [shl_eq _ _ _ (by simp only [IntKind.bits]; omega), i64w]
theorem shr_i (k : IntKind) (hk : k = .i64 ∨ k = .u64) (a y : Int) (h : y < 64) : shr k a y = a / 2 ^ y.toNat := shr_eq _ _ _ (by rcases hk with rfl | rfl <;> simp only [IntKind.bits] <;> omega)
theorem wv_wrap (b : Int) (s : Bool) (n : Int) : wv b s (wrap64 n) = wv b s n := by
  unfold wv wrap64
  repeat' split
  all_goals omega
/-- a shift up of a number that is not below 0, there and back, tells whether it fits -/
theorem shl_fits (a : Int) (y : Int) (h0 : 0 ≤ a) :
    (wrap64 (a * 2 ^ y.toNat) / 2 ^ y.toNat = a ∧ 0 ≤ wrap64 (a * 2 ^ y.toNat)) ↔ I64 (a * 2 ^ y.toNat) := by
  have hp := pow_pos' y
  generalize (2 : Int) ^ y.toNat = P at *
  have hq : 0 ≤ a * P := Int.mul_nonneg h0 (Int.le_of_lt hp)
  constructor
  · rintro ⟨h1, h2⟩
    have h3 : a * P ≤ wrap64 (a * P) := by
      have := Int.ediv_mul_le (wrap64 (a * P)) (Int.ne_of_gt hp)
      rw [h1] at this
      exact this
    unfold wrap64 at *
    omega
  · intro h
    have e : wrap64 (a * P) = a * P := by unfold wrap64; omega
    rw [e]
    exact ⟨Int.mul_ediv_cancel a (Int.ne_of_gt hp), hq⟩
theorem shift_word (k : Nat) (b : Int) (hb : b = 32 ∨ b = 64) (s : Bool) (sub a y : Int) (_ha : I64 a) (hs : sub = 11 ∨ sub = 12 ∨ sub = 13) :
    word_shift.f (k + 2) b s sub a y = some (if sub = 11 then (if 0 ≤ y ∧ y < b then (if s = true then (if 0 ≤ a then ar b s (a * 2 ^ y.toNat) else (0, false)) else (wv b s (a * 2 ^ y.toNat), true)) else (0, false))
    else (if 0 ≤ y ∧ y < b then (if s = true then (a / 2 ^ y.toNat, true) else (wrap64 (uv a / 2 ^ y.toNat), true)) else (0, false))) := by
  unfold word_shift.f
  by_cases hy : 0 ≤ y ∧ y < b
  · have h64 : y < 64 := by rcases hb with rfl | rfl <;> omega
    rw [if_neg (by omega), show decide (y ≥ b) = false from decide_eq_false (by omega)]
    rcases hs with rfl | hs
    · simp only [word_shift.j0, word_shift.j1, Bool.false_eq_true, if_false, if_true, if_pos hy, if_pos hy.1]
      cases s with
      | false =>
        simp only [Bool.false_eq_true, if_false]
        rw [wrap_word, shl_i _ _ h64, wv_wrap]
        rfl
      | true =>
        simp only [if_true]
        rw [shl_i _ _ h64, shr_i _ (.inl rfl) _ _ h64]
        by_cases h0 : 0 ≤ a
        · have hf := shl_fits a y h0
          rw [if_pos h0, if_pos (show a ≥ 0 from h0)]
          by_cases hq : wrap64 (a * 2 ^ y.toNat) / 2 ^ y.toNat = a
          · rw [if_pos hq, ar_sum b hb]
            · rfl
            · rw [decide_eq_decide]
              exact ⟨fun h => hf.1 ⟨hq, h⟩, fun h => (hf.2 h).2⟩
          · rw [if_neg hq, ar_sum b hb]
            · rfl
            · exact (decide_eq_false fun h => hq (hf.2 h).1).symm
        · rw [if_neg h0, if_neg (show ¬ a ≥ 0 from h0), sum_word]
          rfl
    · have h11 : ¬ sub = 11 := by omega
      simp only [word_shift.j0, word_shift.j1, Bool.false_eq_true, if_false, if_neg h11, if_pos hy, if_pos hy.1]
      cases s with
      | false =>
        simp only [Bool.false_eq_true, if_false]
        rw [shr_i _ (.inr rfl) _ _ h64, u64w]
        rfl
      | true =>
        simp only [if_true]
        rw [shr_i _ (.inl rfl) _ _ h64]
  · have e : (if y < 0 then word_shift.j0 (k + 2) sub a y true b s else word_shift.j0 (k + 2) sub a y (decide (y ≥ b)) b s) = word_shift.j0 (k + 2) sub a y true b s := by
      by_cases h0 : y < 0
      · rw [if_pos h0]
      · rw [if_neg h0, show decide (y ≥ b) = true from decide_eq_true (by omega)]
    rw [e]
    simp only [word_shift.j0, if_true, if_neg hy, ite_self]
theorem uv_zero (c : Int) (hc : I64 c) : uv c = 0 ↔ c = 0 := by unfold uv; omega
theorem tdiv_no (a c D : Int) (hD : D = 2147483648 ∨ D = 9223372036854775808) (h0 : c ≠ 0) (hc1 : c ≠ -1) (ha : a = -D) : a.tdiv c ≠ D := by
  intro he
  have h4 := Int.tmod_add_mul_tdiv a c
  have h5 := tmod_lt a c h0
  rw [he] at h4
  generalize a.tmod c = r at *
  rcases hD with rfl | rfl <;> omega
theorem quotient_word (k : Nat) (b : Int) (hb : b = 32 ∨ b = 64) (s : Bool) (sub a c : Int) (ha : I64 a) (hc : I64 c) (ha2 : s = true → b = 32 → -2147483648 ≤ a ∧ a ≤ 2147483647) (hs : sub = 4 ∨ sub = 5 ∨ sub = 6 ∨ sub = 7) :
    word_quotient.f (k + 3) b s sub a c = some (if sub = 4 ∨ sub = 6 then (if c = 0 then (0, false) else if s = true then ar b s (a.tdiv c) else (wrap64 (uv a / uv c), true))
      else (if c = 0 then (0, false) else if s = true then (if c = -1 ∧ a = least b then (0, false) else (a.tmod c, true)) else (wrap64 (uv a % uv c), true))) := by
  unfold word_quotient.f
  have e : (if sub = 5 then word_quotient.j0 (k + 3) a c true b s else word_quotient.j0 (k + 3) a c (sub == 7) b s) = word_quotient.j0 (k + 3) a c (sub == 5 || sub == 7) b s := by
    by_cases h5 : sub = 5
    · subst h5; rfl
    · rw [if_neg h5, beq_eq_false_iff_ne.mpr h5, Bool.false_or]
  rw [e]
  have hr : (sub == 5 || sub == 7) = !decide (sub = 4 ∨ sub = 6) := by rcases hs with rfl | rfl | rfl | rfl <;> rfl
  rw [hr]
  by_cases h0 : c = 0
  · subst h0
    simp only [word_quotient.j0, word_quotient.j1, if_true, ite_self]
  have hu : ¬ uv c = 0 := fun h => h0 ((uv_zero c hc).1 h)
  cases s with
  | false =>
    simp only [word_quotient.j0, word_quotient.j1, word_quotient.j2, Bool.false_eq_true, if_false, if_neg h0, u64w]
    by_cases hq : sub = 4 ∨ sub = 6
    · simp only [if_pos hq, decide_eq_true hq, Bool.not_true, Bool.false_eq_true, if_false]
      unfold uv at *
      rw [if_neg hu, Int.tdiv_eq_ediv_of_nonneg (by omega), Int.emod_eq_of_lt (Int.ediv_nonneg (by omega) (by omega)) (by have := Int.ediv_le_self (a := a % 18446744073709551616) (c % 18446744073709551616) (by omega); omega)]
    · simp only [if_neg hq, decide_eq_false hq, Bool.not_false, if_true]
      unfold uv at *
      rw [if_neg hu, Int.tmod_eq_emod_of_nonneg (by omega)]
  | true =>
    have lst := least_word b hb true
    have hm : c = -1 → a = least b → a.tdiv c = - least b := fun h1 h2 => by subst h1 h2; rw [Int.tdiv_neg, Int.tdiv_one]
    have hl : ¬ wv b true (- least b) = - least b := by rcases hb with rfl | rfl <;> simp [wv, least, wrap64]
    have hfit : ¬ (c = -1 ∧ a = least b) → wv b true (a.tdiv c) = a.tdiv c ∧ wrap64 (a.tdiv c) = a.tdiv c := fun hn => by
      have h1 := Int.natAbs_tdiv_le_natAbs a c
      have h2 : c = -1 → a.tdiv c = -a := fun h => by subst h; rw [Int.tdiv_neg, Int.tdiv_one]
      have h3 : c ≠ -1 → a = least b → a.tdiv c ≠ - least b := fun hc1 hal => tdiv_no a c _ (by rcases hb with rfl | rfl <;> simp [least]) h0 hc1 (by omega)
      rcases hb with rfl | rfl
      · have := ha2 rfl rfl
        simp only [least, if_true] at *
        unfold wrap64
        rw [wv_32s]
        omega
      · simp only [least, show ¬ ((64 : Int) = 32) by decide, if_false] at *
        rw [wv_64]
        unfold wrap64
        omega
    by_cases h1 : c = -1 ∧ a = least b
    · simp only [word_quotient.j0, word_quotient.j1, if_neg h0, if_true, if_pos h1.1, lst, Option.bind_some, beq_iff_eq.mpr h1.2, if_pos h1, hm h1.1 h1.2, ar, if_neg hl, ite_self]
    · have e1 : word_quotient.j0 (k + 3) a c (!decide (sub = 4 ∨ sub = 6)) b true = word_quotient.j1 (k + 2) a c (!decide (sub = 4 ∨ sub = 6)) false b true := by
        simp only [word_quotient.j0, if_neg h0, if_true, lst, Option.bind_some]
        by_cases hc1 : c = -1
        · rw [if_pos hc1, beq_eq_false_iff_ne.mpr fun h => h1 ⟨hc1, h⟩]
        · rw [if_neg hc1]
      rw [e1]
      simp only [word_quotient.j1, word_quotient.j2, Bool.false_eq_true, if_false, if_true, if_neg h0, if_neg h1, ar, (hfit h1).1, (hfit h1).2]
      by_cases hq : sub = 4 ∨ sub = 6
      · simp only [if_pos hq, decide_eq_true hq, Bool.not_true, Bool.false_eq_true, if_false]
      · simp only [if_neg hq, decide_eq_false hq, Bool.not_false, if_true]
theorem wv_range32 (n : Int) : -2147483648 ≤ wv 32 true n ∧ wv 32 true n ≤ 2147483647 := by rw [wv_32s]; omega
theorem add_ok (a c : Int) (ha : I64 a) (hc : I64 c) : ((decide (wrap64 (a + c) < a)) == (decide (c < 0))) = decide (I64 (a + c)) := by
  rw [Bool.eq_iff_iff, beq_iff_eq, decide_eq_decide, decide_eq_true_iff]
  unfold wrap64 I64
  omega
theorem sub_ok (a c : Int) (ha : I64 a) (hc : I64 c) : ((decide (wrap64 (a - c) > a)) == (decide (c < 0))) = decide (I64 (a - c)) := by
  rw [Bool.eq_iff_iff, beq_iff_eq, decide_eq_decide, decide_eq_true_iff]
  unfold wrap64 I64
  omega
theorem ar_false (b n : Int) : (wv b false (wrap64 n), true) = ar b false n := by
  rw [wv_wrap]
  rfl
theorem bin_word (k : Nat) (b : Int) (s : Bool) (sub x y : Int) : word_Binary.f (k + 8) b s sub x y = some (Bin b s sub x y) := by
  unfold word_Binary.f
  rw [may_word]
  by_cases hb : ¬ (b = 32 ∨ b = 64)
  · have e : Bin b s sub x y = (0, false) := by unfold Bin; rw [if_neg hb]
    rw [e]
    have e2 : mayb b = true → decide (b < 32) = true := fun h => by
      unfold mayb at h
      simp at h
      simp
      omega
    cases hm : mayb b
    · simp only [Option.bind_some, Bool.false_eq_true, if_false, word_Binary.j0, if_true]
    · simp only [Option.bind_some, if_true, word_Binary.j0, e2 hm]
  replace hb := Decidable.not_not.1 hb
  have hm : mayb b = true := by rcases hb with rfl | rfl <;> rfl
  have hd : decide (b < 32) = false := by rcases hb with rfl | rfl <;> rfl
  rw [hm, hd]
  have ra := wv_range b s x
  have rc := wv_range b s y
  have ra2 : s = true → b = 32 → -2147483648 ≤ wv b s x ∧ wv b s x ≤ 2147483647 := fun h1 h2 => by subst h1 h2; exact wv_range32 x
  simp only [Option.bind_some, if_true, word_Binary.j0, Bool.false_eq_true, if_false, wrap_word]
  unfold Bin
  rw [if_pos hb]
  generalize wv b s x = a at *
  have esh : ∀ (hs : sub = 11 ∨ sub = 12 ∨ sub = 13), (if sub = 11 then word_Binary.j1 (k + 7) sub a y true b s else if sub = 12 then word_Binary.j1 (k + 7) sub a y true b s else word_Binary.j1 (k + 7) sub a y (sub == 13) b s) = word_Binary.j1 (k + 7) sub a y true b s := by
    rintro (rfl | rfl | rfl) <;> simp
  by_cases hs : sub = 11 ∨ sub = 12 ∨ sub = 13
  · rw [esh hs]
    simp only [word_Binary.j1, if_true]
    rw [show k + 6 = (k + 4) + 2 from rfl, shift_word _ b hb s sub a y ra hs]
    rcases hs with rfl | hs
    · simp only [Option.bind_some, if_true]
    · have h11 : ¬ sub = 11 := by omega
      simp only [Option.bind_some, if_neg h11, if_pos hs]
  have e0 : (if sub = 11 then word_Binary.j1 (k + 7) sub a y true b s else if sub = 12 then word_Binary.j1 (k + 7) sub a y true b s else word_Binary.j1 (k + 7) sub a y (sub == 13) b s) = word_Binary.j1 (k + 7) sub a y false b s := by
    rw [if_neg (by omega), if_neg (by omega), beq_eq_false_iff_ne.mpr (by omega)]
  rw [e0]
  clear e0 esh
  simp only [word_Binary.j1, Bool.false_eq_true, if_false, wrap_word, Option.bind_some, if_neg (show ¬ sub = 11 from by omega), if_neg (show ¬ (sub = 12 ∨ sub = 13) from by omega)]
  generalize wv b s y = c at *
  by_cases h1 : sub = 1
  · subst h1
    simp only [if_true]
    rw [add_ok a c ra rc]
    cases s
    · simp only [Bool.false_eq_true, if_false, ar_false]
    · simp only [if_true, ar_sum b hb _ _ rfl, Option.bind_some]
  rw [if_neg h1, if_neg h1]
  by_cases h2 : sub = 2
  · subst h2
    simp only [if_true]
    rw [sub_ok a c ra rc]
    cases s
    · simp only [Bool.false_eq_true, if_false, ar_false]
    · simp only [if_true, ar_sum b hb _ _ rfl, Option.bind_some]
  rw [if_neg h2, if_neg h2]
  by_cases h3 : sub = 3
  · subst h3
    simp only [if_true]
    rw [product_word a c ra rc]
    cases s
    · simp only [Bool.false_eq_true, if_false, ar_false]
    · simp only [if_true, Option.bind_some, ar_sum b hb _ _ rfl]
  rw [if_neg h3, if_neg h3]
  have eq : ∀ (hs : sub = 4 ∨ sub = 5 ∨ sub = 6 ∨ sub = 7), (if sub = 4 then word_Binary.j2 (k + 6) sub a c sub (sub == 4) b s else if sub = 5 then word_Binary.j2 (k + 6) sub a c sub (sub == 5) b s else if sub = 6 then word_Binary.j2 (k + 6) sub a c sub (sub == 6) b s else word_Binary.j2 (k + 6) sub a c sub (sub == 7) b s) = word_Binary.j2 (k + 6) sub a c sub true b s := by
    rintro (rfl | rfl | rfl | rfl) <;> simp
  by_cases hs2 : sub = 4 ∨ sub = 5 ∨ sub = 6 ∨ sub = 7
  · rw [eq hs2]
    simp only [word_Binary.j2, if_true]
    rw [show k + 5 = (k + 2) + 3 from rfl, quotient_word _ b hb s sub a c ra rc ra2 hs2]
    by_cases h46 : sub = 4 ∨ sub = 6
    · simp only [if_pos h46, Option.bind_some]
    · simp only [if_neg h46, Option.bind_some, if_pos (show sub = 5 ∨ sub = 7 from by omega)]
  clear eq
  have e0 : (if sub = 4 then word_Binary.j2 (k + 6) sub a c sub (sub == 4) b s else if sub = 5 then word_Binary.j2 (k + 6) sub a c sub (sub == 5) b s else if sub = 6 then word_Binary.j2 (k + 6) sub a c sub (sub == 6) b s else word_Binary.j2 (k + 6) sub a c sub (sub == 7) b s) = word_Binary.j2 (k + 6) sub a c sub false b s := by
    rw [if_neg (by omega), if_neg (by omega), if_neg (by omega), beq_eq_false_iff_ne.mpr (by omega)]
  rw [e0, if_neg (show ¬ (sub = 4 ∨ sub = 6) from by omega), if_neg (show ¬ (sub = 5 ∨ sub = 7) from by omega)]
  clear e0
  simp only [word_Binary.j2, Bool.false_eq_true, if_false, truth_word, Option.bind_some]
  by_cases h8 : sub = 8
  · simp only [if_pos h8]
  by_cases h9 : sub = 9
  · simp only [if_neg h8, if_pos h9]
  by_cases h10 : sub = 10
  · simp only [if_neg h8, if_neg h9, if_pos h10]
  by_cases h14 : sub = 14
  · simp only [if_neg h8, if_neg h9, if_neg h10, if_pos h14]
  by_cases h15 : sub = 15
  · simp only [if_neg h8, if_neg h9, if_neg h10, if_neg h14, if_pos h15]
  simp only [if_neg h8, if_neg h9, if_neg h10, if_neg h14, if_neg h15]
  by_cases hl : sub = 16 ∨ sub = 18
  · have e0 : (if sub = 16 then word_Binary.j3 (k + 5) a c sub (sub == 16) b s else word_Binary.j3 (k + 5) a c sub (sub == 18) b s) = word_Binary.j3 (k + 5) a c sub true b s := by rcases hl with rfl | rfl <;> simp
    rw [e0, if_pos hl]
    simp only [word_Binary.j3, if_true, less_word, truth_word, Option.bind_some]
  have e0 : (if sub = 16 then word_Binary.j3 (k + 5) a c sub (sub == 16) b s else word_Binary.j3 (k + 5) a c sub (sub == 18) b s) = word_Binary.j3 (k + 5) a c sub false b s := by
    rw [if_neg (by omega), beq_eq_false_iff_ne.mpr (by omega)]
  rw [e0, if_neg hl]
  clear e0
  simp only [word_Binary.j3, Bool.false_eq_true, if_false]
  by_cases hl : sub = 17 ∨ sub = 19
  · have e0 : (if sub = 17 then word_Binary.j4 (k + 4) a c (sub == 17) b s else word_Binary.j4 (k + 4) a c (sub == 19) b s) = word_Binary.j4 (k + 4) a c true b s := by rcases hl with rfl | rfl <;> simp
    rw [e0, if_pos hl]
    simp only [word_Binary.j4, if_true, less_word, truth_word, Option.bind_some]
  have e0 : (if sub = 17 then word_Binary.j4 (k + 4) a c (sub == 17) b s else word_Binary.j4 (k + 4) a c (sub == 19) b s) = word_Binary.j4 (k + 4) a c false b s := by
    rw [if_neg (by omega), beq_eq_false_iff_ne.mpr (by omega)]
  rw [e0, if_neg hl]
  simp only [word_Binary.j4, Bool.false_eq_true, if_false]
theorem text_i32 : word_Text.f 32 true = some ⟨#[105, 51, 50]⟩ := by
  unfold word_Text.f
  rw [may_word]
  rfl
theorem usual_i32 (k : Nat) : word_Usual.f (k + 1) 32 true 32 false = some (32, false) := by
  unfold word_Usual.f
  rw [may_word, may_word]
  simp [mayb, word_Usual.j0, word_Promote.f]
theorem awake_true (k : Nat) : spokeshavelaw1_awake.f (k + 8) = some true := by
  unfold spokeshavelaw1_awake.f
  rw [bin_word, bin_word, wrap_word, text_i32, may_word, show k + 8 = (k + 7) + 1 from rfl, usual_i32]
  have e1 : Bin 32 true 1 2 3 = (5, true) := by decide
  have e2 : Bin 32 true 11 1 31 = (0, false) := by decide
  have e3 : wv 8 false 300 = 44 := by decide
  rw [e1, e2, e3]
  simp [mayb]
theorem low_eq (x n : Int) (_hx : I64 x) (hn : 0 < n ∧ n ≤ 9223372036854775807) : spokeshavelaw0_Low.f x n = some (uv x % n) := by
  unfold spokeshavelaw0_Low.f
  rw [u64w, u64w]
  have e : n % 18446744073709551616 = n := by omega
  rw [e, if_neg (by omega), Int.tmod_eq_emod_of_nonneg (by omega)]
  have h1 := Int.emod_lt_of_pos (uv x) hn.1
  have h2 := Int.emod_nonneg (uv x) (show n ≠ 0 by omega)
  unfold uv at *
  congr 1
  unfold wrap64
  omega
def ws8 : List S26 := [⟨8, true⟩, ⟨8, false⟩, ⟨16, true⟩, ⟨16, false⟩, ⟨32, true⟩, ⟨32, false⟩, ⟨64, true⟩, ⟨64, false⟩]
theorem widths_eq (k : Nat) : spokeshavelaw1_widths.f (k + 5) = some ws8 := by
  unfold spokeshavelaw1_widths.f
  simp [spokeshavelaw1_widths.l0, wrap64, ws8]
theorem and_one (n : Int) : Go.bits .and .i64 n 1 = n % 2 := by
  have h1 : (BitVec.ofInt 64 1).toNat = 2 ^ 1 - 1 := by decide
  have key : (BitVec.ofInt 64 n &&& BitVec.ofInt 64 1).toNat = (n % ((2 ^ 64 : Nat) : Int)).toNat % 2 ^ 1 := by
    rw [BitVec.toNat_and, BitVec.toNat_ofInt, h1, Nat.and_two_pow_sub_one_eq_mod]
  show IntKind.i64.wrap ((BitVec.ofInt 64 n &&& BitVec.ofInt 64 1).toNat : Nat) = n % 2
  rw [key, IntKind.wrap_i64]
  omega
theorem and_63 (n : Int) : Go.bits .and .i64 n 63 = n % 64 := by
  have h1 : (BitVec.ofInt 64 63).toNat = 2 ^ 6 - 1 := by decide
  have key : (BitVec.ofInt 64 n &&& BitVec.ofInt 64 63).toNat = (n % ((2 ^ 64 : Nat) : Int)).toNat % 2 ^ 6 := by
    rw [BitVec.toNat_and, BitVec.toNat_ofInt, h1, Nat.and_two_pow_sub_one_eq_mod]
  show IntKind.i64.wrap ((BitVec.ofInt 64 n &&& BitVec.ofInt 64 63).toNat : Nat) = n % 64
  rw [key, IntKind.wrap_i64]
  omega
/-- word's Plain -/
def PlB (sub a c : Int) : Int × Bool :=
  if sub = 4 ∨ sub = 5 ∨ sub = 16 ∨ sub = 17 then Bin 64 true sub a c
  else if sub = 11 ∨ sub = 12 then Bin 64 false sub a (c % 64)
  else if sub = 13 then Bin 64 true sub a (c % 64)
  else Bin 64 false sub a c
theorem plain_word (k : Nat) (sub a c : Int) : word_Plain.f (k + 10) sub a c = some (PlB sub a c) := by
  have e : word_Plain.f (k + 10) sub a c = word_Plain.j0 (k + 10) sub a c sub (decide (sub = 4 ∨ sub = 5 ∨ sub = 16 ∨ sub = 17)) 64 true 64 false := by
    unfold word_Plain.f
    by_cases h4 : sub = 4
    · subst h4; simp
    by_cases h5 : sub = 5
    · subst h5; simp
    by_cases h16 : sub = 16
    · subst h16; simp
    by_cases h17 : sub = 17
    · subst h17; simp
    rw [if_neg h4, if_neg h5, if_neg h16, beq_eq_false_iff_ne.mpr h17, decide_eq_false (by omega)]
  rw [e]
  unfold PlB
  by_cases h1 : sub = 4 ∨ sub = 5 ∨ sub = 16 ∨ sub = 17
  · rw [decide_eq_true h1, if_pos h1, word_Plain.j0, if_pos rfl, show k + 9 = (k + 1) + 8 from rfl, bin_word]
    rfl
  rw [decide_eq_false h1, if_neg h1, word_Plain.j0, if_neg (by decide)]
  have e2 : (if sub = 11 then word_Plain.j1 (k + 9) sub a c sub (sub == 11) 64 true 64 false else word_Plain.j1 (k + 9) sub a c sub (sub == 12) 64 true 64 false) = word_Plain.j1 (k + 9) sub a c sub (decide (sub = 11 ∨ sub = 12)) 64 true 64 false := by
    by_cases h4 : sub = 11
    · subst h4; simp
    by_cases h5 : sub = 12
    · subst h5; simp
    rw [if_neg h4, beq_eq_false_iff_ne.mpr h5, decide_eq_false (by omega)]
  rw [e2]
  by_cases h2 : sub = 11 ∨ sub = 12
  · rw [decide_eq_true h2, if_pos h2, word_Plain.j1, if_pos rfl, bin_word, and_63]
    rfl
  rw [decide_eq_false h2, if_neg h2, word_Plain.j1, if_neg (by decide), bin_word, bin_word, and_63]
  by_cases h3 : sub = 13
  · rw [if_pos h3, if_pos h3]; rfl
  · rw [if_neg h3, if_neg h3]; rfl
/-- which of the two widths -/
theorem width_of (n : Int) : (wrap64 (32 + wrap64 (32 * Go.bits .and .i64 n 1)) = 32 ∨ wrap64 (32 + wrap64 (32 * Go.bits .and .i64 n 1)) = 64) := by
  rw [and_one]
  unfold wrap64
  omega
theorem i64_wf (n : Int) (h : (Lit.int .i64 n).wf = true) : I64 n := by
  have := bounds_i64 h
  unfold I64
  omega
end Go.Proofs.YthkcdmkimnockaaDoor.PWord
