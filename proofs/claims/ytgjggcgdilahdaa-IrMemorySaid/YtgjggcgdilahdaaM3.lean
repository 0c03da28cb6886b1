/- A part of the proof: M3. -/
import Derived.Test.YtgjggcgdilahdaaM2
set_option linter.unusedVariables false
set_option linter.unusedSimpArgs false
set_option linter.constructorNameAsVariable false
set_option linter.unusedVariables false
set_option maxRecDepth 100000
namespace Go.Xe
open Go.RowKit
theorem m_i64 (x : Int) : iwrap .i64 x = (x + 9223372036854775808) % 18446744073709551616 - 9223372036854775808 := by
  rw [iwrap_eq]; simp only [IntKind.wrap, IntKind.bits, IntKind.signed]; simp <;> omega
theorem m_u8 (x : Int) : iwrap .u8 x = x % 256 := by rw [iwrap_eq]; simp [IntKind.wrap, IntKind.bits, IntKind.signed]
theorem m_rng (x : Int) : 0 ≤ iwrap .u64 x ∧ iwrap .u64 x < 18446744073709551616 := by rw [iwrap_u64]; omega
theorem m_shr (x : Int) (h : 0 ≤ x) (k : Nat) (hk : k ≤ 64) : shrI .u64 x (k : Int) = x / (2 ^ k : Nat) := by
  unfold shrI
  rw [show (Nat.min ((k : Int)).toNat IntKind.u64.bits) = k from by show min (k : Int).toNat 64 = k; rw [Int.toNat_natCast]; exact Nat.min_eq_left hk]
  exact Int.fdiv_eq_ediv_of_nonneg _ (Int.natCast_nonneg _)
theorem m_shl (x : Int) (k : Nat) (hk : k ≤ 64) : shlI .u64 x (k : Int) = (x * (2 ^ k : Nat)) % 18446744073709551616 := by
  unfold shlI
  rw [show (Nat.min ((k : Int)).toNat IntKind.u64.bits) = k from by show min (k : Int).toNat 64 = k; rw [Int.toNat_natCast]; exact Nat.min_eq_left hk, ← iwrap_eq, iwrap_u64]
theorem m_shlS (x : Int) (k : Nat) (hk : k ≤ 64) : shlI .i64 x (k : Int) = iwrap .i64 (x * (2 ^ k : Nat)) := by
  unfold shlI
  rw [show (Nat.min ((k : Int)).toNat IntKind.i64.bits) = k from by show min (k : Int).toNat 64 = k; rw [Int.toNat_natCast]; exact Nat.min_eq_left hk, ← iwrap_eq]
/-- Bytes side by side. -/
theorem m_or {a q : Int} (k : Nat) (hk : k < 64) (ha : 0 ≤ a) (ha2 : a < (2 ^ k : Nat)) (hq : 0 ≤ q) (hb : (2 ^ k : Nat) * q < 18446744073709551616) : ior .u64 a ((2 ^ k : Nat) * q) = a + (2 ^ k : Nat) * q := by
  obtain ⟨a, rfl⟩ := Int.eq_ofNat_of_zero_le ha
  obtain ⟨q, rfl⟩ := Int.eq_ofNat_of_zero_le hq
  have hp : (2 ^ k : Nat) ≤ 2 ^ 63 := Nat.pow_le_pow_right (by decide) (by omega)
  have ha3 : a < 2 ^ k := Int.ofNat_lt.1 ha2
  have e1 : ((2 ^ k : Nat) : Int) * (q : Int) = ((2 ^ k * q : Nat) : Int) := (Int.natCast_mul _ _).symm
  rw [e1] at hb
  have hb3 : 2 ^ k * q < 18446744073709551616 := Int.ofNat_lt.1 (show ((2 ^ k * q : Nat) : Int) < ((18446744073709551616 : Nat) : Int) from hb)
  rw [e1]
  unfold ior
  have f : ∀ n : Nat, n < 18446744073709551616 → (BitVec.ofInt IntKind.u64.bits (n : Int)).toNat = n := fun n hn => by
    rw [BitVec.ofInt_natCast]
    show (BitVec.ofNat 64 n).toNat = n
    rw [BitVec.toNat_ofNat]
    exact Nat.mod_eq_of_lt hn
  rw [BitVec.toNat_or, f _ (by omega), f _ hb3, Nat.or_comm, ← Nat.two_pow_add_eq_or_of_lt ha3, ← iwrap_eq, iwrap_u64]
  have hsum : 2 ^ k * q + a < 18446744073709551616 := by
    have hd : 2 ^ k ∣ 18446744073709551616 := ⟨2 ^ (64 - k), by rw [← Nat.pow_add]; rw [show k + (64 - k) = 64 by omega]⟩
    obtain ⟨m, hm⟩ := hd
    have : q < m := by
      rw [hm] at hb3
      exact Nat.lt_of_mul_lt_mul_left hb3
    have : 2 ^ k * (q + 1) ≤ 2 ^ k * m := Nat.mul_le_mul_left _ this
    rw [Nat.mul_succ] at this
    omega
  omega
theorem m_byt (n : Int) (k : Nat) (hk : k ≤ 56) : byt n (k : Int) = (iwrap .u64 n / (2 ^ k : Nat)) % 256 := by
  unfold byt
  rw [m_shr _ (m_rng n).1 k (by omega), m_u8]
theorem m_orb (n acc : Int) (k : Nat) (hk : k ≤ 56) (h0 : 0 ≤ acc) (h1 : acc < (2 ^ k : Nat)) : orb acc n (k : Int) = acc + (2 ^ k : Nat) * ((iwrap .u64 n / (2 ^ k : Nat)) % 256) := by
  unfold orb
  rw [m_byt n k hk]
  generalize hq : (iwrap .u64 n / (2 ^ k : Nat)) % 256 = q
  have hq0 : 0 ≤ q ∧ q < 256 := by rw [← hq]; omega
  have hp : ((2 ^ k : Nat) : Int) ≤ 72057594037927936 := Int.ofNat_le.2 (show 2 ^ k ≤ 72057594037927936 from (show (72057594037927936 : Nat) = 2 ^ 56 by decide) ▸ Nat.pow_le_pow_right (by decide) hk)
  have hp0 : (0 : Int) ≤ ((2 ^ k : Nat) : Int) := Int.natCast_nonneg _
  have hmul : ((2 ^ k : Nat) : Int) * q ≤ 72057594037927936 * 255 := Int.mul_le_mul hp (by omega) hq0.1 (by decide)
  have hmul0 : 0 ≤ ((2 ^ k : Nat) : Int) * q := Int.mul_nonneg hp0 hq0.1
  rw [show iwrap .u64 q = q from by rw [iwrap_u64]; omega, m_shl _ k (by omega), Int.mul_comm q, Int.emod_eq_of_lt hmul0 (by omega)]
  exact m_or k (by omega) h0 h1 hq0.1 (by omega)
theorem bs1_eq (n : Int) : bs1 n = iwrap .u64 n % 256 := by
  have := m_orb n 0 0 (by decide) (by decide) (by decide)
  have h := m_rng n
  unfold bs1
  rw [show (0 : Int) = ((0 : Nat) : Int) from rfl] at this ⊢
  rw [this]
  simp
theorem m_id (u p : Int) (hp : 0 < p) : u % p + p * (u / p % 256) = u % (p * 256) := by
  have e1 := Int.mul_ediv_add_emod u p
  have e2 := Int.mul_ediv_add_emod (u / p) 256
  have r1 := Int.emod_nonneg u (show p ≠ 0 by omega)
  have r2 := Int.emod_lt_of_pos u hp
  have r3 : 0 ≤ u / p % 256 := by omega
  have r4 : u / p % 256 ≤ 255 := by omega
  have h : u = (p * 256) * (u / p / 256) + (u % p + p * (u / p % 256)) := by
    calc u = p * (u / p) + u % p := e1.symm
      _ = p * (256 * (u / p / 256) + u / p % 256) + u % p := by rw [e2]
      _ = _ := by rw [Int.mul_add, ← Int.mul_assoc]; omega
  have hm : 0 ≤ p * (u / p % 256) := Int.mul_nonneg (by omega) r3
  have hm2 : p * (u / p % 256) ≤ p * 255 := Int.mul_le_mul_of_nonneg_left r4 (by omega)
  generalize u / p % 256 = y at *
  generalize u % p = x at *
  generalize u / p / 256 = z at *
  rw [h, Int.mul_add_emod_self_left, Int.emod_eq_of_lt (by omega) (by omega)]
theorem bs_step (n acc : Int) (k : Nat) (hk : k ≤ 56) (h : acc = iwrap .u64 n % (2 ^ k : Nat)) : orb acc n (k : Int) = iwrap .u64 n % (2 ^ (k + 8) : Nat) := by
  have hp : (0 : Int) < ((2 ^ k : Nat) : Int) := Int.ofNat_lt.2 (Nat.two_pow_pos k)
  have h0 : 0 ≤ acc := by rw [h]; exact Int.emod_nonneg _ (by omega)
  have h1 : acc < (2 ^ k : Nat) := by rw [h]; exact Int.emod_lt_of_pos _ hp
  rw [m_orb n acc k hk h0 h1, h]
  have e : ((2 ^ (k + 8) : Nat) : Int) = ((2 ^ k : Nat) : Int) * 256 := by rw [Nat.pow_add, Int.natCast_mul]; rfl
  rw [e]
  exact m_id _ _ hp
theorem bs2_eq (n : Int) : bs2 n = iwrap .u64 n % 65536 := bs_step n _ 8 (by decide) (bs1_eq n)
theorem bs3_eq (n : Int) : bs3 n = iwrap .u64 n % 16777216 := bs_step n _ 16 (by decide) (bs2_eq n)
theorem bs4_eq (n : Int) : bs4 n = iwrap .u64 n % 4294967296 := bs_step n _ 24 (by decide) (bs3_eq n)
theorem bs5_eq (n : Int) : bs5 n = iwrap .u64 n % 1099511627776 := bs_step n _ 32 (by decide) (bs4_eq n)
theorem bs6_eq (n : Int) : bs6 n = iwrap .u64 n % 281474976710656 := bs_step n _ 40 (by decide) (bs5_eq n)
theorem bs7_eq (n : Int) : bs7 n = iwrap .u64 n % 72057594037927936 := bs_step n _ 48 (by decide) (bs6_eq n)
theorem bs8_eq (n : Int) : bs8 n = iwrap .u64 n % 18446744073709551616 := bs_step n _ 56 (by decide) (bs7_eq n)
theorem U_i64 (x : Int) : iwrap .u64 (iwrap .i64 x) = x % 18446744073709551616 := by rw [iwrap_u64, m_i64]; omega
theorem shlU (x y : Int) (k : Nat) (hk : k ≤ 64) (h : (x * (2 ^ k : Nat)) % 18446744073709551616 = (y * (2 ^ k : Nat)) % 18446744073709551616) : shlI .u64 x (k : Int) = shlI .u64 y (k : Int) := by rw [m_shl _ _ hk, m_shl _ _ hk, h]
theorem shlS (x y : Int) (k : Nat) (hk : k ≤ 64) (h : (x * (2 ^ k : Nat)) % 18446744073709551616 = (y * (2 ^ k : Nat)) % 18446744073709551616) : shlI .i64 x (k : Int) = shlI .i64 y (k : Int) := by
  rw [m_shlS _ _ hk, m_shlS _ _ hk, m_i64, m_i64]; omega
theorem wU1 (n : Int) : wU (iwrap .i64 (bs1 n)) 56 = wU n 56 := by
  unfold wU
  rw [bs1_eq, U_i64]
  congr 2
  refine shlU _ _ 56 (by decide) ?_
  rw [show ((2 ^ 56 : Nat) : Int) = 72057594037927936 from by decide, iwrap_u64]
  omega
theorem wS1 (n : Int) : wS (iwrap .i64 (bs1 n)) 56 = wS n 56 := by
  unfold wS
  congr 1
  rw [bs1_eq]
  refine shlS _ _ 56 (by decide) ?_
  rw [show ((2 ^ 56 : Nat) : Int) = 72057594037927936 from by decide, iwrap_u64, m_i64]
  omega
theorem wU2 (n : Int) : wU (iwrap .i64 (bs2 n)) 48 = wU n 48 := by
  unfold wU
  rw [bs2_eq, U_i64]
  congr 2
  refine shlU _ _ 48 (by decide) ?_
  rw [show ((2 ^ 48 : Nat) : Int) = 281474976710656 from by decide, iwrap_u64]
  omega
theorem wS2 (n : Int) : wS (iwrap .i64 (bs2 n)) 48 = wS n 48 := by
  unfold wS
  congr 1
  rw [bs2_eq]
  refine shlS _ _ 48 (by decide) ?_
  rw [show ((2 ^ 48 : Nat) : Int) = 281474976710656 from by decide, iwrap_u64, m_i64]
  omega
theorem wU4 (n : Int) : wU (iwrap .i64 (bs4 n)) 32 = wU n 32 := by
  unfold wU
  rw [bs4_eq, U_i64]
  congr 2
  refine shlU _ _ 32 (by decide) ?_
  rw [show ((2 ^ 32 : Nat) : Int) = 4294967296 from by decide, iwrap_u64]
  omega
theorem wS4 (n : Int) : wS (iwrap .i64 (bs4 n)) 32 = wS n 32 := by
  unfold wS
  congr 1
  rw [bs4_eq]
  refine shlS _ _ 32 (by decide) ?_
  rw [show ((2 ^ 32 : Nat) : Int) = 4294967296 from by decide, iwrap_u64, m_i64]
  omega
theorem wU8 (n : Int) : wU (iwrap .i64 (bs8 n)) 0 = wU n 0 := by
  unfold wU
  rw [bs8_eq, U_i64]
  congr 2
  refine shlU _ _ 0 (by decide) ?_
  rw [show ((2 ^ 0 : Nat) : Int) = 1 from by decide, iwrap_u64]
  omega
theorem wS8 (n : Int) : wS (iwrap .i64 (bs8 n)) 0 = wS n 0 := by
  unfold wS
  congr 1
  rw [bs8_eq]
  refine shlS _ _ 0 (by decide) ?_
  rw [show ((2 ^ 0 : Nat) : Int) = 1 from by decide, iwrap_u64, m_i64]
  omega
end Go.Xe
