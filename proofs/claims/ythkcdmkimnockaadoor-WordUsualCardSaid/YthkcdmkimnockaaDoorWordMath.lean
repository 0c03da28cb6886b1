/- Plain laws on numbers of 64 bits: products and whether they fit. -/
import Derived.Test.YthkcdmkimnockaaDoorWMoreS
open Go Go.RowKit Go.Proofs.YthkcdmkimnockaaDoorW.PrintMore
namespace Go.Proofs.YthkcdmkimnockaaDoor.WordMath
theorem i64w (n : Int) : IntKind.i64.wrap n = wrap64 n := by rw [IntKind.wrap_i64]; unfold wrap64; rfl
theorem u64w (n : Int) : IntKind.u64.wrap n = n % 18446744073709551616 := by simp [IntKind.wrap, IntKind.bits, IntKind.signed]
theorem and_mask (x : Int) (h0 : 0 ≤ x) (h : x < 18446744073709551616) : bits .and .u64 x 4294967295 = x % 4294967296 := by
  rw [u64_and x _ h0 h (by omega) (by omega)]
  have e : (4294967295 : Int).toNat = 2 ^ 32 - 1 := rfl
  rw [e, Nat.and_two_pow_sub_one_eq_mod]
  omega
theorem mul_split (x y : Int) :
   x * y = (x / 4294967296) * (y / 4294967296) * 18446744073709551616 + ((x / 4294967296) * (y % 4294967296) + (x % 4294967296) * (y / 4294967296)) * 4294967296 + (x % 4294967296) * (y % 4294967296) := by
  have e1 : x = (x / 4294967296) * 4294967296 + x % 4294967296 := by omega
  have e2 : y = (y / 4294967296) * 4294967296 + y % 4294967296 := by omega
  generalize x / 4294967296 = a at *
  generalize x % 4294967296 = b at *
  generalize y / 4294967296 = c at *
  generalize y % 4294967296 = d at *
  subst e1 e2
  grind
theorem mul_le_of (a b m : Int) (ha : 0 ≤ a) (hb : 0 ≤ b) (ha2 : a ≤ m) (hb2 : b ≤ m) : 0 ≤ a * b ∧ a * b ≤ m * m :=
  ⟨Int.mul_nonneg ha hb, Int.mul_le_mul ha2 hb2 hb (by omega)⟩
theorem mul64 (x y : Int) (hx : 0 ≤ x) (hx2 : x < 18446744073709551616) (hy : 0 ≤ y) (hy2 : y < 18446744073709551616) :
    IntKind.u64.wrap ((IntKind.u64.wrap ((IntKind.u64.wrap ((x / 4294967296) * (y / 4294967296))) + ((IntKind.u64.wrap ((IntKind.u64.wrap ((x / 4294967296) * (Go.bits .and .u64 y 4294967295))) + ((IntKind.u64.wrap ((Go.bits .and .u64 x 4294967295) * (Go.bits .and .u64 y 4294967295))) / 4294967296))) / 4294967296))) + ((IntKind.u64.wrap ((Go.bits .and .u64 (IntKind.u64.wrap ((IntKind.u64.wrap ((x / 4294967296) * (Go.bits .and .u64 y 4294967295))) + ((IntKind.u64.wrap ((Go.bits .and .u64 x 4294967295) * (Go.bits .and .u64 y 4294967295))) / 4294967296))) 4294967295) + (IntKind.u64.wrap ((Go.bits .and .u64 x 4294967295) * (y / 4294967296))))) / 4294967296))
    = x * y / 18446744073709551616 := by
  rw [and_mask x hx hx2, and_mask y hy hy2]
  simp only [u64w]
  rw [and_mask _ (by omega) (by omega)]
  have h := mul_split x y
  have b00 := mul_le_of (x % 4294967296) (y % 4294967296) 4294967295 (by omega) (by omega) (by omega) (by omega)
  have b01 := mul_le_of (x % 4294967296) (y / 4294967296) 4294967295 (by omega) (by omega) (by omega) (by omega)
  have b10 := mul_le_of (x / 4294967296) (y % 4294967296) 4294967295 (by omega) (by omega) (by omega) (by omega)
  have b11 := mul_le_of (x / 4294967296) (y / 4294967296) 4294967295 (by omega) (by omega) (by omega) (by omega)
  generalize x / 4294967296 * (y / 4294967296) = p11 at *
  generalize x / 4294967296 * (y % 4294967296) = p10 at *
  generalize x % 4294967296 * (y / 4294967296) = p01 at *
  generalize x % 4294967296 * (y % 4294967296) = p00 at *
  generalize x * y = p at *
  clear hx hx2 hy hy2
  subst h
  omega
/-- |a| -/
def mag (a : Int) : Int := if a < 0 then -a else a
theorem mag_u (a : Int) (h0 : -9223372036854775808 ≤ a) (h1 : a ≤ 9223372036854775807) : (if a < 0 then some (IntKind.u64.wrap (-(IntKind.u64.wrap (a)))) else some (IntKind.u64.wrap (a))) = some (mag a) := by
  unfold mag; simp only [u64w]; split <;> (congr 1; omega)
theorem mag_bd (a : Int) (h0 : -9223372036854775808 ≤ a) (h1 : a ≤ 9223372036854775807) : 0 ≤ mag a ∧ mag a ≤ 9223372036854775808 := by
  unfold mag; split <;> omega
/-- |a| |b| tells whether a b fits -/
theorem mag_mul (a b : Int) : a * b = if (decide (a < 0) != decide (b < 0)) = true then -(mag a * mag b) else mag a * mag b := by
  unfold mag
  by_cases ha : a < 0 <;> by_cases hb : b < 0 <;> simp [ha, hb, Int.neg_mul, Int.mul_neg]
theorem prod_fits (a b : Int) (h0 : -9223372036854775808 ≤ a) (h1 : a ≤ 9223372036854775807) (h2 : -9223372036854775808 ≤ b) (h3 : b ≤ 9223372036854775807) :
    (if ((decide (a < 0)) != (decide (b < 0))) = true then (if mag a * mag b / 18446744073709551616 = 0 then (some (decide ((mag a * mag b) % 18446744073709551616 ≤ 9223372036854775808))) else (some false)) else (if mag a * mag b / 18446744073709551616 = 0 then (some (decide ((mag a * mag b) % 18446744073709551616 < 9223372036854775808))) else (some false)))
     = some (decide (-9223372036854775808 ≤ a * b ∧ a * b ≤ 9223372036854775807)) := by
  have h := mag_mul a b
  have b1 := mag_bd a h0 h1
  have b2 := mag_bd b h2 h3
  have hp : 0 ≤ mag a * mag b := Int.mul_nonneg b1.1 b2.1
  generalize mag a * mag b = p at *
  rw [h]
  split <;> split <;> (congr 1; simp only [decide_eq_decide, Bool.false_eq, decide_eq_false_iff_not]; omega)
theorem tmod_lt (w b : Int) (hb : b ≠ 0) : (w.tmod b).natAbs < b.natAbs := by
  rw [Int.natAbs_tmod]
  exact Nat.mod_lt _ (by omega)
/-- Go's a*b/b tells whether a b fits -/
theorem over_mul (a b : Int) (h0 : -9223372036854775808 ≤ a) (h1 : a ≤ 9223372036854775807) (h2 : -9223372036854775808 ≤ b) (h3 : b ≤ 9223372036854775807) :
    (if a = 0 then (some false) else (if b = 0 then (some false) else (if (wrap64 (Int.tdiv (wrap64 (a * b)) b)) = a then (if a = (-1) then (if b = (-9223372036854775808) then (some true) else (if b = (-1) then (some (a == (-9223372036854775808))) else (some false))) else (if b = (-1) then (some (a == (-9223372036854775808))) else (some false))) else (some true))))
     = some (!decide (-9223372036854775808 ≤ a * b ∧ a * b ≤ 9223372036854775807)) := by
  by_cases ha : a = 0
  · subst ha; simp
  by_cases hb : b = 0
  · subst hb; simp [ha]
  rw [if_neg ha, if_neg hb]
  by_cases hf : -9223372036854775808 ≤ a * b ∧ a * b ≤ 9223372036854775807
  · have e : wrap64 (a * b) = a * b := by unfold wrap64; omega
    rw [e, Int.mul_tdiv_cancel _ hb]
    have e2 : wrap64 a = a := by unfold wrap64; omega
    rw [if_pos e2]
    by_cases m1 : a = -1
    · subst m1
      have : b ≠ -9223372036854775808 := by omega
      simp [this]
      omega
    · by_cases m2 : b = -1
      · subst m2
        rw [if_neg m1, if_pos rfl, decide_eq_true hf]
        have : (a == -9223372036854775808) = false := by rw [beq_eq_false_iff_ne]; omega
        rw [this]; rfl
      · simp [m1, m2]; omega
  · have hx : (!decide (-9223372036854775808 ≤ a * b ∧ a * b ≤ 9223372036854775807)) = true := by rw [decide_eq_false hf]; rfl
    rw [hx]
    split
    · rename_i hw
      by_cases m1 : a = -1 ∧ b = -9223372036854775808
      · simp [m1]
      by_cases m2 : b = -1 ∧ a = -9223372036854775808
      · simp [m2]
      exfalso
      -- w = a b - m 2^64, m not 0
      have hw1 : ∃ m : Int, m ≠ 0 ∧ wrap64 (a * b) = a * b - m * 18446744073709551616 := by
        refine ⟨(a * b + 9223372036854775808) / 18446744073709551616, ?_, ?_⟩
        · omega
        · unfold wrap64; omega
      obtain ⟨m, hm, hm2⟩ := hw1
      have hwr : -9223372036854775808 ≤ wrap64 (a * b) ∧ wrap64 (a * b) ≤ 9223372036854775807 := by unfold wrap64; omega
      generalize wrap64 (a * b) = w at *
      have hq := Int.tmod_add_mul_tdiv w b
      have hr := tmod_lt w b hb
      have hin : -9223372036854775808 ≤ w.tdiv b ∧ w.tdiv b ≤ 9223372036854775808 := by
        have := Int.natAbs_tdiv_le_natAbs w b
        omega
      have hqa : w.tdiv b = a ∨ w.tdiv b = 9223372036854775808 := by
        unfold wrap64 at hw
        omega
      rcases hqa with hqa | hqa
      · rw [hqa] at hq
        have : b * a = a * b := Int.mul_comm _ _
        omega
      · have hab : a = -9223372036854775808 := by
          rw [hqa] at hw; unfold wrap64 at hw; omega
        have hwm : w = -9223372036854775808 := by
          have := Int.natAbs_tdiv_le_natAbs w b
          omega
        have hb1 : b = -1 := by
          rw [hqa, hwm] at hq
          rw [hwm] at hr
          omega
        exact m2 ⟨hb1, hab⟩
    · rfl
end Go.Proofs.YthkcdmkimnockaaDoor.WordMath
