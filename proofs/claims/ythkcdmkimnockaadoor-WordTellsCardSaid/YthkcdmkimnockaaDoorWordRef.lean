/- What the reference of chapter 1 answers is what word answers. -/
import Derived.Test.YthkcdmkimnockaaDoorPWordx6
import Derived.Test.YthkcdmkimnockaaDoorPWordx8
import Derived.Test.YthkcdmkimnockaaDoorWordSpec
open Go Go.RowKit Go.Proofs.YthkcdmkimnockaaDoorW.PrintMore Go.Proofs.YthkcdmkimnockaaDoorW.PrintWords
open Go.Proofs.YthkcdmkimnockaaDoor.WordMath
namespace Go.Proofs.YthkcdmkimnockaaDoor.PWord
theorem may_ref (b : Int) (s : Bool) : spokeshaveref1_May.f b s = some (mayb b) := may_word b s
theorem wrap_ref (b : Int) (s : Bool) (n : Int) : spokeshaveref1_Wrap.f b s n = some (wv b s n) := wrap_word b s n
theorem over1 (a c : Int) (ha : I64 a) (hc : I64 c) : spokeshaveref1_over.f 1 a c = some (!decide (I64 (a + c))) := by
  unfold spokeshaveref1_over.f
  simp only [if_true]
  have e : wrap64 (a + c) = if a + c > 9223372036854775807 then a + c - 18446744073709551616 else if a + c < -9223372036854775808 then a + c + 18446744073709551616 else a + c := by
    unfold wrap64; repeat' split
    all_goals omega
  rw [e]
  by_cases hi : a + c > 9223372036854775807
  · have : ¬ I64 (a + c) := by unfold I64; omega
    rw [decide_eq_false this, if_pos hi, if_pos (show a > 0 by omega), if_pos (show c > 0 by omega), if_pos (by omega)]
    rfl
  rw [if_neg hi]
  by_cases lo : a + c < -9223372036854775808
  · have : ¬ I64 (a + c) := by unfold I64; omega
    rw [decide_eq_false this, if_pos lo, if_neg (show ¬ a > 0 by omega), if_pos (show a < 0 by omega), if_pos (show c < 0 by omega), decide_eq_true (by omega)]
    rfl
  · have : I64 (a + c) := by unfold I64; omega
    rw [decide_eq_true this, if_neg lo]
    repeat' split
    all_goals first | rfl | (exfalso; omega) | (rw [decide_eq_false (by omega)]; rfl)
theorem over2 (a c : Int) (ha : I64 a) (hc : I64 c) : spokeshaveref1_over.f 2 a c = some (!decide (I64 (a - c))) := by
  unfold spokeshaveref1_over.f
  rw [if_neg (by decide), if_pos rfl]
  have e : wrap64 (a - c) = if a - c > 9223372036854775807 then a - c - 18446744073709551616 else if a - c < -9223372036854775808 then a - c + 18446744073709551616 else a - c := by
    unfold wrap64; repeat' split
    all_goals omega
  rw [e]
  by_cases hi : a - c > 9223372036854775807
  · have : ¬ I64 (a - c) := by unfold I64; omega
    rw [decide_eq_false this, if_pos hi, if_pos (show a ≥ 0 by omega), if_pos (show c < 0 by omega), if_pos (by omega)]
    rfl
  rw [if_neg hi]
  by_cases lo : a - c < -9223372036854775808
  · have : ¬ I64 (a - c) := by unfold I64; omega
    rw [decide_eq_false this, if_pos lo, if_neg (show ¬ a ≥ 0 by omega), if_pos (show a < 0 by omega), if_pos (show c > 0 by omega), decide_eq_true (by omega)]
    rfl
  · have : I64 (a - c) := by unfold I64; omega
    rw [decide_eq_true this, if_neg lo]
    repeat' split
    all_goals first | rfl | (exfalso; omega) | (rw [decide_eq_false (by omega)]; rfl)
theorem over3 (a c : Int) (ha : I64 a) (hc : I64 c) : spokeshaveref1_over.f 3 a c = some (!decide (I64 (a * c))) := by
  unfold spokeshaveref1_over.f
  rw [if_neg (by decide), if_neg (by decide), if_pos rfl]
  exact over_mul a c ha.1 ha.2 hc.1 hc.2
theorem over_none (sub a c : Int) (h1 : sub ≠ 1) (h2 : sub ≠ 2) (h3 : sub ≠ 3) : spokeshaveref1_over.f sub a c = some false := by
  unfold spokeshaveref1_over.f
  rw [if_neg h1, if_neg h2, if_neg h3]
/-- what the middle language reckons -/
def Pl (sub a c : Int) : Int × Bool :=
  if sub = 1 then (wrap64 (a + c), true) else if sub = 2 then (wrap64 (a - c), true) else if sub = 3 then (wrap64 (a * c), true)
  else if sub = 4 then (if c = 0 ∨ a = -9223372036854775808 ∧ c = -1 then (0, false) else (wrap64 (a.tdiv c), true))
  else if sub = 5 then (if c = 0 ∨ a = -9223372036854775808 ∧ c = -1 then (0, false) else (a.tmod c, true))
  else if sub = 6 then (if c = 0 then (0, false) else (wrap64 (uv a / uv c), true))
  else if sub = 7 then (if c = 0 then (0, false) else (wrap64 (uv a % uv c), true))
  else if sub = 8 then (Go.bits .and .i64 a c, true) else if sub = 9 then (Go.bits .or .i64 a c, true) else if sub = 10 then (Go.bits .xor .i64 a c, true)
  else if sub = 11 then (wrap64 (a * 2 ^ (c % 64).toNat), true)
  else if sub = 12 then (wrap64 (uv a / 2 ^ (c % 64).toNat), true)
  else if sub = 13 then (a / 2 ^ (c % 64).toNat, true)
  else if sub = 14 then (tr (a == c), true) else if sub = 15 then (tr (a != c), true)
  else if sub = 16 then (tr (decide (a < c)), true) else if sub = 17 then (tr (decide (a ≤ c)), true)
  else if sub = 18 then (tr (decide (uv a < uv c)), true) else if sub = 19 then (tr (decide (uv a ≤ uv c)), true)
  else (0, false)
theorem truth_ref (p : Bool) : spokeshaveref1_truth.f p = some (tr p) := by cases p <;> rfl
theorem udiv_lt (a c : Int) : 0 ≤ uv a / uv c ∧ uv a / uv c < 18446744073709551616 := by
  unfold uv
  have h1 := Int.ediv_le_self (a := a % 18446744073709551616) (c % 18446744073709551616) (by omega)
  have h2 := Int.ediv_nonneg (a := a % 18446744073709551616) (b := c % 18446744073709551616) (by omega) (by omega)
  omega
theorem plain_ref (k : Nat) (sub a c : Int) (_ha : I64 a) (hc : I64 c) : spokeshaveref1_Plain.f (k + 1) sub a c = some (Pl sub a c) := by
  unfold spokeshaveref1_Plain.f
  have e : (if a = -9223372036854775808 then spokeshaveref1_Plain.j0 (k + 1) sub a c (IntKind.u64.wrap a) (IntKind.u64.wrap c) (Int.tmod (IntKind.u64.wrap c) 64) (c == -1) else spokeshaveref1_Plain.j0 (k + 1) sub a c (IntKind.u64.wrap a) (IntKind.u64.wrap c) (Int.tmod (IntKind.u64.wrap c) 64) false)
      = spokeshaveref1_Plain.j0 (k + 1) sub a c (uv a) (uv c) (c % 64) (decide (a = -9223372036854775808 ∧ c = -1)) := by
    rw [u64w, u64w, Int.tmod_eq_emod_of_nonneg (by omega), show c % 18446744073709551616 % 64 = c % 64 by omega]
    unfold uv
    by_cases h : a = -9223372036854775808
    · rw [if_pos h]
      by_cases h2 : c = -1
      · rw [decide_eq_true ⟨h, h2⟩, beq_iff_eq.mpr h2]
      · rw [decide_eq_false fun hh => h2 hh.2, beq_eq_false_iff_ne.mpr h2]
    · rw [if_neg h, decide_eq_false fun hh => h hh.1]
  rw [e]
  clear e
  have hu : c ≠ 0 → ¬ uv c = 0 := fun h h2 => h ((uv_zero c hc).1 h2)
  have hn : 0 ≤ c % 64 := by omega
  have hn2 : c % 64 < 64 := by omega
  have hu0 : 0 ≤ uv a ∧ 0 ≤ uv c := by unfold uv; omega
  simp only [spokeshaveref1_Plain.j0, truth_ref, Option.bind_some, if_pos hn]
  unfold Pl
  by_cases h4 : sub = 4
  · subst h4
    by_cases h0 : c = 0
    · simp [h0]
    · by_cases hm : a = -9223372036854775808 ∧ c = -1 <;> simp [h0, hm]
  by_cases h5 : sub = 5
  · subst h5
    by_cases h0 : c = 0
    · simp [h0]
    · by_cases hm : a = -9223372036854775808 ∧ c = -1 <;> simp [h0, hm]
  by_cases h6 : sub = 6
  · subst h6
    by_cases h0 : c = 0
    · simp [h0]
    · have := udiv_lt a c
      simp only [h0, hu h0]
      rw [Int.tdiv_eq_ediv_of_nonneg hu0.1, u64w, Int.emod_eq_of_lt this.1 this.2]
      simp
  by_cases h7 : sub = 7
  · subst h7
    by_cases h0 : c = 0
    · simp [h0]
    · simp only [h0, hu h0]
      rw [Int.tmod_eq_emod_of_nonneg hu0.1]
      simp
  by_cases h11 : sub = 11
  · subst h11
    simp only [shl_i _ _ hn2]
    simp
  by_cases h12 : sub = 12
  · subst h12
    simp only [shr_i _ (.inr rfl) _ _ hn2]
    simp
  by_cases h13 : sub = 13
  · subst h13
    simp only [shr_i _ (.inl rfl) _ _ hn2]
    simp
  simp only [if_neg h4, if_neg h5, if_neg h6, if_neg h7, if_neg h11, if_neg h12, if_neg h13]
  by_cases i1 : sub = 1 <;> by_cases i2 : sub = 2 <;> by_cases i3 : sub = 3 <;> simp only [i1, i2, i3, if_true, if_false]
  all_goals try rfl
  all_goals try (exfalso; omega)
  by_cases i8 : sub = 8
  · simp only [if_pos i8]
  by_cases i9 : sub = 9
  · simp only [if_neg i8, if_pos i9]
  by_cases i10 : sub = 10
  · simp only [if_neg i8, if_neg i9, if_pos i10]
  simp only [if_neg i8, if_neg i9, if_neg i10]
  by_cases i14 : sub = 14
  · simp only [if_pos i14]
  by_cases i15 : sub = 15
  · simp only [if_neg i14, if_pos i15]
  by_cases i16 : sub = 16
  · simp only [if_neg i14, if_neg i15, if_pos i16]
  by_cases i17 : sub = 17
  · simp only [if_neg i14, if_neg i15, if_neg i16, if_pos i17]
  simp only [if_neg i14, if_neg i15, if_neg i16, if_neg i17]
  by_cases i18 : sub = 18
  · simp only [if_pos i18]
  by_cases i19 : sub = 19
  · simp only [if_neg i18, if_pos i19]
  simp only [if_neg i18, if_neg i19]
/-! bits of numbers of 32 bits are numbers of 32 bits -/
theorem i64_wrap_toNat (b : BitVec 64) : IntKind.i64.wrap (b.toNat : Int) = b.toInt := by
  rw [i64w]
  unfold wrap64
  rw [BitVec.toInt_eq_toNat_cond]
  have := b.isLt
  split <;> omega
theorem bits_toInt (op : BinOp) (a c : Int) : Go.bits op .i64 a c = BitVec.toInt (match op with
    | .and => BitVec.ofInt 64 a &&& BitVec.ofInt 64 c
    | .or => BitVec.ofInt 64 a ||| BitVec.ofInt 64 c
    | .xor => BitVec.ofInt 64 a ^^^ BitVec.ofInt 64 c
    | _ => BitVec.ofInt 64 a &&& ~~~ BitVec.ofInt 64 c) := by
  unfold Go.bits
  exact i64_wrap_toNat _
theorem ofInt_sign (a : Int) (h : -2147483648 ≤ a ∧ a ≤ 2147483647) : BitVec.ofInt 64 a = BitVec.signExtend 64 (BitVec.ofInt 32 a) := by
  apply BitVec.eq_of_toInt_eq
  rw [BitVec.toInt_signExtend_of_le (by decide), BitVec.toInt_ofInt, BitVec.toInt_ofInt, Int.bmod_eq_of_le (by omega) (by omega), Int.bmod_eq_of_le (by omega) (by omega)]
theorem sign_range (x : BitVec 32) : -2147483648 ≤ (BitVec.signExtend 64 x).toInt ∧ (BitVec.signExtend 64 x).toInt ≤ 2147483647 := by
  rw [BitVec.toInt_signExtend_of_le (by decide)]
  have h1 := BitVec.le_toInt x
  have h2 := BitVec.toInt_lt (x := x)
  omega
theorem bits_32s (op : BinOp) (hop : op = .and ∨ op = .or ∨ op = .xor) (a c : Int) (ha : -2147483648 ≤ a ∧ a ≤ 2147483647) (hc : -2147483648 ≤ c ∧ c ≤ 2147483647) :
    -2147483648 ≤ Go.bits op .i64 a c ∧ Go.bits op .i64 a c ≤ 2147483647 := by
  rw [bits_toInt, ofInt_sign a ha, ofInt_sign c hc]
  rcases hop with rfl | rfl | rfl
  · show _ ≤ (_ &&& _ : BitVec 64).toInt ∧ _
    rw [← BitVec.signExtend_and]
    exact sign_range _
  · show _ ≤ (_ ||| _ : BitVec 64).toInt ∧ _
    rw [← BitVec.signExtend_or]
    exact sign_range _
  · show _ ≤ (_ ^^^ _ : BitVec 64).toInt ∧ _
    rw [← BitVec.signExtend_xor]
    exact sign_range _
theorem ofInt_nat (a : Int) (h : 0 ≤ a ∧ a < 4294967296) : BitVec.ofInt 64 a = BitVec.ofNat 64 a.toNat := by
  apply BitVec.eq_of_toNat_eq
  rw [BitVec.toNat_ofInt, BitVec.toNat_ofNat]
  omega
theorem bits_32u (op : BinOp) (hop : op = .and ∨ op = .or ∨ op = .xor) (a c : Int) (ha : 0 ≤ a ∧ a < 4294967296) (hc : 0 ≤ c ∧ c < 4294967296) :
    0 ≤ Go.bits op .i64 a c ∧ Go.bits op .i64 a c < 4294967296 := by
  have hx : ∀ x : BitVec 64, x.toNat < 2 ^ 32 → 0 ≤ x.toInt ∧ x.toInt < 4294967296 := fun x h => by
    rw [BitVec.toInt_eq_toNat_cond]
    split <;> omega
  have e1 : a.toNat % 2 ^ 64 = a.toNat := Nat.mod_eq_of_lt (by omega)
  have e2 : c.toNat % 2 ^ 64 = c.toNat := Nat.mod_eq_of_lt (by omega)
  rw [bits_toInt, ofInt_nat a ha, ofInt_nat c hc]
  rcases hop with rfl | rfl | rfl
  · refine hx _ ?_
    rw [BitVec.toNat_and, BitVec.toNat_ofNat, BitVec.toNat_ofNat, e1, e2]
    exact Nat.and_lt_two_pow _ (by omega)
  · refine hx _ ?_
    rw [BitVec.toNat_or, BitVec.toNat_ofNat, BitVec.toNat_ofNat, e1, e2]
    exact Nat.or_lt_two_pow (by omega) (by omega)
  · refine hx _ ?_
    rw [BitVec.toNat_xor, BitVec.toNat_ofNat, BitVec.toNat_ofNat, e1, e2]
    exact Nat.xor_lt_two_pow (by omega) (by omega)
/-- the number is one of the width -/
def Rg (b : Int) (s : Bool) (n : Int) : Prop := I64 n ∧ (b = 32 → if s = true then -2147483648 ≤ n ∧ n ≤ 2147483647 else 0 ≤ n ∧ n < 4294967296)
theorem rg_wv (b : Int) (hb : b = 32 ∨ b = 64) (s : Bool) (n : Int) : Rg b s (wv b s n) := by
  refine ⟨wv_range b s n, ?_⟩
  rintro rfl
  cases s
  · simp only [Bool.false_eq_true, if_false]; rw [wv_32u]; omega
  · simp only [if_true]; rw [wv_32s]; omega
theorem wv_of_rg (b : Int) (hb : b = 32 ∨ b = 64) (s : Bool) (n : Int) (h : Rg b s n) : wv b s n = n := by
  obtain ⟨h1, h2⟩ := h
  rcases hb with rfl | rfl
  · have := h2 rfl
    cases s
    · simp only [Bool.false_eq_true, if_false] at this; rw [wv_32u]; omega
    · simp only [if_true] at this; rw [wv_32s]; omega
  · rw [wv_64]; unfold wrap64; omega
theorem rg_bits (b : Int) (s : Bool) (op : BinOp) (hop : op = .and ∨ op = .or ∨ op = .xor) (a c : Int) (ha : Rg b s a) (hc : Rg b s c) : Rg b s (Go.bits op .i64 a c) := by
  refine ⟨?_, ?_⟩
  · rw [bits_toInt]
    generalize (match op with | .and => BitVec.ofInt 64 a &&& BitVec.ofInt 64 c | .or => BitVec.ofInt 64 a ||| BitVec.ofInt 64 c | .xor => BitVec.ofInt 64 a ^^^ BitVec.ofInt 64 c | _ => BitVec.ofInt 64 a &&& ~~~ BitVec.ofInt 64 c) = x
    have h1 := BitVec.le_toInt x
    have h2 := BitVec.toInt_lt (x := x)
    exact ⟨by omega, by omega⟩
  · rintro rfl
    have h1 := ha.2 rfl
    have h2 := hc.2 rfl
    cases s
    · simp only [Bool.false_eq_true, if_false] at *
      exact bits_32u op hop a c h1 h2
    · simp only [if_true] at *
      exact bits_32s op hop a c h1 h2
theorem shift_ref (k : Nat) (b : Int) (hb : b = 32 ∨ b = 64) (s : Bool) (sub a y : Int) (ha : Rg b s a) :
    spokeshaveref1_shift.f (k + 1) b s (sub == 11) a y = some (if sub = 11 then (if 0 ≤ y ∧ y < b then (if s = true then (if 0 ≤ a then ar b s (a * 2 ^ y.toNat) else (0, false)) else (wv b s (a * 2 ^ y.toNat), true)) else (0, false))
    else (if 0 ≤ y ∧ y < b then (if s = true then (a / 2 ^ y.toNat, true) else (wrap64 (uv a / 2 ^ y.toNat), true)) else (0, false))) := by
  unfold spokeshaveref1_shift.f
  by_cases hy : 0 ≤ y ∧ y < b
  · have h64 : y < 64 := by rcases hb with rfl | rfl <;> omega
    have hu : IntKind.u64.wrap y = y := by rw [u64w]; omega
    rw [if_neg (by omega), show decide (y ≥ b) = false from decide_eq_false (by omega)]
    simp only [spokeshaveref1_shift.j0, Bool.false_eq_true, if_false, if_pos hy, hu, if_pos hy.1]
    by_cases h11 : sub = 11
    · subst h11
      simp only [beq_self_eq_true, if_true]
      rw [shl_i _ _ h64, wrap_ref, wv_wrap]
      cases s with
      | false => simp only [Bool.false_eq_true, if_false, Option.bind_some]
      | true =>
        simp only [if_true, Option.bind_some]
        by_cases h0 : 0 ≤ a
        · rw [if_neg (show ¬ a < 0 by omega), if_pos h0, shr_i _ (.inl rfl) _ _ h64]
          have hp := pow_pos' y
          generalize (2 : Int) ^ y.toNat = P at *
          have hq : 0 ≤ a * P := Int.mul_nonneg h0 (Int.le_of_lt hp)
          unfold ar
          simp only [if_true]
          by_cases hf : wv b true (a * P) = a * P
          · rw [hf, if_neg (by omega), if_pos (Int.mul_ediv_cancel a (Int.ne_of_gt hp)), if_pos rfl]
          · rw [if_neg hf]
            split
            · rfl
            · rename_i hx
              rw [if_neg]
              intro hd
              apply hf
              have h3 : a * P ≤ wv b true (a * P) := by
                have := Int.ediv_mul_le (wv b true (a * P)) (Int.ne_of_gt hp)
                rw [hd] at this
                exact this
              have hw := wv_range b true (a * P)
              rcases hb with rfl | rfl
              · rw [wv_32s] at *
                omega
              · rw [wv_64] at *
                unfold wrap64 at *
                omega
        · rw [if_pos (show a < 0 by omega), if_neg h0]
    · rw [beq_eq_false_iff_ne.mpr h11]
      simp only [Bool.false_eq_true, if_false, if_neg h11]
      cases s with
      | false =>
        simp only [Bool.false_eq_true, if_false]
        rw [shr_i _ (.inr rfl) _ _ h64, u64w]
        rfl
      | true =>
        simp only [if_true]
        rw [shr_i _ (.inl rfl) _ _ h64]
  · have e : (if y < 0 then spokeshaveref1_shift.j0 (k + 1) (sub == 11) a y true b s else spokeshaveref1_shift.j0 (k + 1) (sub == 11) a y (decide (y ≥ b)) b s) = spokeshaveref1_shift.j0 (k + 1) (sub == 11) a y true b s := by
      by_cases h0 : y < 0
      · rw [if_pos h0]
      · rw [if_neg h0, show decide (y ≥ b) = true from decide_eq_true (by omega)]
    rw [e]
    simp only [spokeshaveref1_shift.j0, if_true, if_neg hy, ite_self]
/-- the end of the reference's: what Plain told is held against the width -/
def fin (b : Int) (s : Bool) (p : Int × Bool) : Int × Bool := if p.2 = true then (if s = true then (if wv b s p.1 = p.1 then (wv b s p.1, true) else (0, false)) else (wv b s p.1, true)) else (0, false)
theorem j7_ref (k : Nat) (b : Int) (s : Bool) (sub a c : Int) (bad : Bool) (ha : I64 a) (hc : I64 c) :
    spokeshaveref1_Binary.j7 (k + 2) sub a c bad b s = some (if bad = true then (0, false) else fin b s (Pl sub a c)) := by
  cases bad with
  | true => simp only [spokeshaveref1_Binary.j7, if_true]
  | false =>
    simp only [spokeshaveref1_Binary.j7, Bool.false_eq_true, if_false, plain_ref _ _ _ _ ha hc, Option.bind_some, wrap_ref]
    unfold fin
    cases s <;> simp only [Bool.false_eq_true, if_false, if_true]
    split <;> rfl
    split
    · split <;> rfl
    · rfl
def modbad (b : Int) (sub a c : Int) : Bool := decide (sub = 5 ∧ c = -1 ∧ wv b true (-a) = a ∧ a ≠ 0)
theorem j6_ref (k : Nat) (b : Int) (s : Bool) (sub a c : Int) (ha : I64 a) (hc : I64 c) (hs5 : s = false → sub ≠ 5) (o : Bool) (ho : spokeshaveref1_over.f sub a c = some o) :
    spokeshaveref1_Binary.j6 (k + 3) sub a c b s = some (if (s && o || modbad b sub a c) = true then (0, false) else fin b s (Pl sub a c)) := by
  simp only [spokeshaveref1_Binary.j6, ho, Option.bind_some, wrap_ref, wv_wrap]
  have e : ∀ s', s' = s → (if sub = 5 then (if c = -1 then (if wv b s' (-a) = a then spokeshaveref1_Binary.j7 (k + 2) sub a c (a != 0) b s' else spokeshaveref1_Binary.j7 (k + 2) sub a c false b s') else spokeshaveref1_Binary.j7 (k + 2) sub a c false b s') else spokeshaveref1_Binary.j7 (k + 2) sub a c false b s') = spokeshaveref1_Binary.j7 (k + 2) sub a c (modbad b sub a c) b s' := by
    rintro s' rfl
    unfold modbad
    by_cases h5 : sub = 5
    · cases s' with
      | false => exact absurd h5 (hs5 rfl)
      | true =>
        rw [if_pos h5]
        by_cases h1 : c = -1
        · rw [if_pos h1]
          by_cases hw : wv b true (-a) = a
          · rw [if_pos hw]
            by_cases h0 : a = 0
            · rw [bne_eq_false_iff_eq.mpr h0, decide_eq_false (fun h => h.2.2.2 h0)]
            · rw [bne_iff_ne.mpr h0, decide_eq_true ⟨h5, h1, hw, h0⟩]
          · rw [if_neg hw, decide_eq_false (fun h => hw h.2.2.1)]
        · rw [if_neg h1, decide_eq_false (fun h => h1 h.2.1)]
    · rw [if_neg h5, decide_eq_false (fun h => h5 h.1)]
  cases s with
  | true =>
    simp only [if_true, Bool.true_and]
    cases o with
    | true => simp only [if_true, Bool.true_or, j7_ref k b true sub a c true ha hc]
    | false =>
      simp only [Bool.false_eq_true, if_false, Bool.false_or]
      rw [e true rfl, j7_ref _ _ _ _ _ _ _ ha hc]
  | false =>
    simp only [Bool.false_eq_true, if_false, Bool.false_and, Bool.false_or]
    rw [e false rfl, j7_ref _ _ _ _ _ _ _ ha hc]
theorem rg_uv (n : Int) (h : 0 ≤ n ∧ n < 4294967296) : uv n = n := by unfold uv; omega
theorem ar_rg (b : Int) (hb : b = 32 ∨ b = 64) (s : Bool) (n : Int) (h : Rg b s n) : ar b s n = (n, true) := by
  unfold ar
  rw [wv_of_rg b hb s n h]
  cases s <;> simp
theorem fin_ar (b : Int) (s : Bool) (n : Int) (h : s = true → I64 n) : fin b s (wrap64 n, true) = ar b s n := by
  unfold fin ar
  simp only [if_true, wv_wrap]
  cases s with
  | false => simp only [Bool.false_eq_true, if_false]
  | true =>
    have e : wrap64 n = n := by have := h rfl; unfold wrap64; omega
    simp only [if_true, e]
    split
    · rename_i hh; rw [hh]
    · rfl
theorem fin_rg (b : Int) (hb : b = 32 ∨ b = 64) (s : Bool) (n : Int) (h : Rg b s n) : fin b s (n, true) = (n, true) := by
  unfold fin
  simp only [if_true, wv_of_rg b hb s n h, ite_self]
theorem rg_small (b : Int) (s : Bool) (n : Int) (h : 0 ≤ n ∧ n ≤ 1) : Rg b s n := ⟨by unfold I64; omega, fun _ => by cases s <;> simp <;> omega⟩
theorem tr_small (p : Bool) : 0 ≤ tr p ∧ tr p ≤ 1 := by unfold tr; split <;> omega
theorem ar_out (b : Int) (n : Int) (h : ¬ I64 n) : ar b true n = (0, false) := by
  unfold ar
  have e : ¬ wv b true n = n := fun e => h (by rw [← e]; exact wv_range b true n)
  rw [if_pos rfl, if_neg e]
theorem decide_le (a c : Int) : decide (a ≤ c) = !decide (c < a) := by
  by_cases h : a ≤ c
  · rw [decide_eq_true h, decide_eq_false (by omega)]; rfl
  · rw [decide_eq_false h, decide_eq_true (by omega)]; rfl
/-- the core: a number of the width each, no shift -/
def Core (b : Int) (s : Bool) (sub a c : Int) : Int × Bool :=
    if sub = 1 then ar b s (a + c)
    else if sub = 2 then ar b s (a - c)
    else if sub = 3 then ar b s (a * c)
    else if sub = 4 ∨ sub = 6 then (if c = 0 then (0, false) else if s = true then ar b s (a.tdiv c) else (wrap64 (uv a / uv c), true))
    else if sub = 5 ∨ sub = 7 then (if c = 0 then (0, false) else if s = true then (if c = -1 ∧ a = least b then (0, false) else (a.tmod c, true)) else (wrap64 (uv a % uv c), true))
    else if sub = 8 then (Go.bits .and .i64 a c, true)
    else if sub = 9 then (Go.bits .or .i64 a c, true)
    else if sub = 10 then (Go.bits .xor .i64 a c, true)
    else if sub = 14 then (tr (a == c), true)
    else if sub = 15 then (tr (a != c), true)
    else if sub = 16 ∨ sub = 18 then (tr (lessB s a c), true)
    else if sub = 17 ∨ sub = 19 then (tr (!lessB s c a), true)
    else (0, false)
theorem bin_core (b : Int) (hb : b = 32 ∨ b = 64) (s : Bool) (sub x y : Int) (h : ¬ (sub = 11 ∨ sub = 12 ∨ sub = 13)) : Bin b s sub x y = Core b s sub (wv b s x) (wv b s y) := by
  unfold Bin Core
  rw [if_pos hb, if_neg (by omega), if_neg (by omega)]
/-- the sub that the reference reckons with -/
def sbs (s : Bool) (sub : Int) : Int :=
  if sub = 4 ∨ sub = 6 then (if s = true then 4 else 6) else if sub = 5 ∨ sub = 7 then (if s = true then 5 else 7)
  else if sub = 16 ∨ sub = 18 then (if s = true then 16 else 18) else if sub = 17 ∨ sub = 19 then (if s = true then 17 else 19) else sub
theorem core_sbs (b : Int) (s : Bool) (sub a c : Int) : Core b s (sbs s sub) a c = Core b s sub a c := by
  unfold sbs
  by_cases h1 : sub = 4 ∨ sub = 6
  · rw [if_pos h1]; rcases h1 with rfl | rfl <;> cases s <;> simp [Core]
  rw [if_neg h1]
  by_cases h2 : sub = 5 ∨ sub = 7
  · rw [if_pos h2]; rcases h2 with rfl | rfl <;> cases s <;> simp [Core]
  rw [if_neg h2]
  by_cases h3 : sub = 16 ∨ sub = 18
  · rw [if_pos h3]; rcases h3 with rfl | rfl <;> cases s <;> simp [Core]
  rw [if_neg h3]
  by_cases h4 : sub = 17 ∨ sub = 19
  · rw [if_pos h4]; rcases h4 with rfl | rfl <;> cases s <;> simp [Core]
  rw [if_neg h4]
theorem over_ok (sub a c : Int) (ha : I64 a) (hc : I64 c) : ∃ o, spokeshaveref1_over.f sub a c = some o ∧ (sub = 1 → o = !decide (I64 (a + c))) ∧ (sub = 2 → o = !decide (I64 (a - c))) ∧ (sub = 3 → o = !decide (I64 (a * c))) ∧ (sub ≠ 1 → sub ≠ 2 → sub ≠ 3 → o = false) := by
  by_cases h1 : sub = 1
  · subst h1; exact ⟨_, over1 a c ha hc, fun _ => rfl, (fun h => absurd h (by decide)), (fun h => absurd h (by decide)), (fun h => absurd rfl h)⟩
  by_cases h2 : sub = 2
  · subst h2; exact ⟨_, over2 a c ha hc, (fun h => absurd h (by decide)), fun _ => rfl, (fun h => absurd h (by decide)), (fun _ h => absurd rfl h)⟩
  by_cases h3 : sub = 3
  · subst h3; exact ⟨_, over3 a c ha hc, (fun h => absurd h (by decide)), (fun h => absurd h (by decide)), fun _ => rfl, (fun _ _ h => absurd rfl h)⟩
  exact ⟨_, over_none sub a c h1 h2 h3, fun h => absurd h h1, fun h => absurd h h2, fun h => absurd h h3, fun _ _ _ => rfl⟩
theorem tdiv_fits (b : Int) (hb : b = 32 ∨ b = 64) (a c : Int) (ha : Rg b true a) (h0 : c ≠ 0) (h1 : ¬ (c = -1 ∧ a = least b)) : Rg b true (a.tdiv c) := by
  have hr : (if b = 32 then -2147483648 ≤ a ∧ a ≤ 2147483647 else I64 a) := by
    obtain ⟨h1, h2⟩ := ha
    split
    · rename_i h; simpa using h2 h
    · exact h1
  have g1 := Int.natAbs_tdiv_le_natAbs a c
  have g2 : c = -1 → a.tdiv c = -a := fun h => by subst h; rw [Int.tdiv_neg, Int.tdiv_one]
  have g3 : c ≠ -1 → a = least b → a.tdiv c ≠ - least b := fun hc1 hal => tdiv_no a c _ (by rcases hb with rfl | rfl <;> simp [least]) h0 hc1 (by omega)
  rcases hb with rfl | rfl
  · simp only [least, if_true] at *
    refine ⟨by unfold I64; omega, fun _ => ?_⟩
    simp only [if_true]
    omega
  · simp only [least, show ¬ ((64 : Int) = 32) by decide, if_false] at *
    refine ⟨by unfold I64; omega, fun h => absurd h (by decide)⟩
theorem tmod_rg (b : Int) (a c : Int) (_ha : Rg b true a) (hc : Rg b true c) (h0 : c ≠ 0) : Rg b true (a.tmod c) := by
  have h5 := tmod_lt a c h0
  refine ⟨?_, fun hb => ?_⟩
  · have := hc.1
    unfold I64 at *
    omega
  · have := hc.2 hb
    simp only [if_true] at *
    omega
theorem neg_least (b : Int) (hb : b = 32 ∨ b = 64) (a : Int) (ha : Rg b true a) : (wv b true (-a) = a ∧ a ≠ 0) ↔ a = least b := by
  obtain ⟨h1, h2⟩ := ha
  rcases hb with rfl | rfl
  · have := h2 rfl
    simp only [if_true] at this
    simp only [least, if_true]
    rw [wv_32s]
    omega
  · simp only [least, show ¬ ((64 : Int) = 32) by decide, if_false]
    rw [wv_64]
    unfold wrap64
    unfold I64 at h1
    omega
theorem fin_pl (b : Int) (hb : b = 32 ∨ b = 64) (s : Bool) (sub a c : Int) (ha : Rg b s a) (hc : Rg b s c) (hsub : 1 ≤ sub ∧ sub < 20) (hns : ¬ (sub = 11 ∨ sub = 12 ∨ sub = 13))
    (hs : if s = true then sub ≠ 6 ∧ sub ≠ 7 ∧ sub ≠ 18 ∧ sub ≠ 19 else sub ≠ 4 ∧ sub ≠ 5 ∧ sub ≠ 16 ∧ sub ≠ 17)
    (o : Bool) (ho : (sub = 1 → o = !decide (I64 (a + c))) ∧ (sub = 2 → o = !decide (I64 (a - c))) ∧ (sub = 3 → o = !decide (I64 (a * c))) ∧ (sub ≠ 1 → sub ≠ 2 → sub ≠ 3 → o = false)) :
    (if (s && o || modbad b sub a c) = true then (0, false) else fin b s (Pl sub a c)) = Core b s sub a c := by
  have hmod : sub ≠ 5 → modbad b sub a c = false := fun h => decide_eq_false fun hh => h hh.1
  have arith : ∀ n, o = !decide (I64 n) → sub ≠ 5 → (if (s && o || modbad b sub a c) = true then (0, false) else fin b s (wrap64 n, true)) = ar b s n := fun n hn h5 => by
    rw [hmod h5, hn]
    cases s with
    | false => simp only [Bool.false_and, Bool.or_false, Bool.false_eq_true, if_false]; exact fin_ar b false n (fun h => by cases h)
    | true =>
      by_cases hf : I64 n
      · rw [decide_eq_true hf]; exact fin_ar b true n fun _ => hf
      · rw [decide_eq_false hf, ar_out b n hf]; rfl
  by_cases h1 : sub = 1
  · subst h1; exact arith _ (ho.1 rfl) (by decide)
  by_cases h2 : sub = 2
  · subst h2; exact arith _ (ho.2.1 rfl) (by decide)
  by_cases h3 : sub = 3
  · subst h3; exact arith _ (ho.2.2.1 rfl) (by decide)
  rw [ho.2.2.2 h1 h2 h3]
  have good : ∀ n, sub ≠ 5 → Rg b s n → (if (s && false || modbad b sub a c) = true then (0, false) else fin b s (n, true)) = (n, true) := fun n h5 hn => by
    rw [hmod h5, Bool.and_false]
    exact fin_rg b hb s n hn
  by_cases h4 : sub = 4
  · subst h4
    cases s with
    | false => exact absurd rfl hs.1
    | true =>
      rw [hmod (by decide)]
      simp only [Bool.and_false, Bool.or_false, Bool.false_eq_true, if_false]
      unfold Pl Core
      simp only [show ¬ ((4 : Int) = 1) by decide, show ¬ ((4 : Int) = 2) by decide, show ¬ ((4 : Int) = 3) by decide, if_false, if_true, true_or]
      by_cases h0 : c = 0
      · simp only [h0, true_or, if_true]; rfl
      · simp only [h0, false_or, if_false]
        by_cases hm : c = -1 ∧ a = least b
        · have hd : a.tdiv c = - least b := by obtain ⟨e1, e2⟩ := hm; rw [e1, Int.tdiv_neg, Int.tdiv_one, e2]
          have hl : ar b true (- least b) = (0, false) := by rcases hb with rfl | rfl <;> simp [ar, wv, least, wrap64]
          rw [hd, hl]
          split
          · rfl
          · rcases hb with rfl | rfl
            · simp [fin, wv, least, wrap64]
            · rename_i hx
              exact absurd ⟨hm.2, hm.1⟩ hx
        · have hr := tdiv_fits b hb a c ha h0 hm
          have hx : ¬ (a = -9223372036854775808 ∧ c = -1) := fun hh => hm ⟨hh.2, by
            have := ha.2
            rcases hb with rfl | rfl
            · have := this rfl; simp only [if_true] at this; omega
            · simp only [least, show ¬ ((64 : Int) = 32) by decide, if_false]; exact hh.1⟩
          rw [if_neg hx, fin_ar b true _ fun _ => hr.1]
  by_cases h5 : sub = 5
  · subst h5
    cases s with
    | false => exact absurd rfl hs.2.1
    | true =>
      simp only [Bool.and_false, Bool.false_or]
      unfold Pl Core
      simp only [show ¬ ((5 : Int) = 1) by decide, show ¬ ((5 : Int) = 2) by decide, show ¬ ((5 : Int) = 3) by decide, show ¬ ((5 : Int) = 4) by decide, show ¬ ((5 : Int) = 6) by decide, if_false, if_true, true_or, or_self]
      by_cases h0 : c = 0
      · have : modbad b 5 a c = false := decide_eq_false fun hh => by have := hh.2.1; omega
        rw [this]
        simp only [h0, true_or, if_true]; rfl
      · simp only [h0, false_or, if_false]
        by_cases hm : c = -1 ∧ a = least b
        · have : modbad b 5 a c = true := decide_eq_true ⟨rfl, hm.1, (neg_least b hb a ha).2 hm.2⟩
          rw [this, if_pos rfl, if_pos hm]
        · have : modbad b 5 a c = false := decide_eq_false fun hh => hm ⟨hh.2.1, (neg_least b hb a ha).1 hh.2.2⟩
          have hx : ¬ (a = -9223372036854775808 ∧ c = -1) := fun hh => hm ⟨hh.2, by
            have := ha.2
            rcases hb with rfl | rfl
            · have := this rfl; simp only [if_true] at this; omega
            · simp only [least, show ¬ ((64 : Int) = 32) by decide, if_false]; exact hh.1⟩
          rw [this, if_neg hx, if_neg hm]
          exact fin_rg b hb true _ (tmod_rg b a c ha hc h0)
  have huse : s = false → (sub = 6 ∨ sub = 7) → b = 32 → 0 ≤ a ∧ a < 4294967296 ∧ 0 ≤ c ∧ c < 4294967296 := fun e _ e2 => by
    subst e
    have g1 := ha.2 e2
    have g2 := hc.2 e2
    simp only [Bool.false_eq_true, if_false] at g1 g2
    omega
  by_cases h6 : sub = 6
  · subst h6
    cases s with
    | true => exact absurd rfl hs.1
    | false =>
      rw [hmod (by decide)]
      simp only [Bool.false_and, Bool.or_false, Bool.false_eq_true, if_false]
      unfold Pl Core
      simp only [show ¬ ((6 : Int) = 1) by decide, show ¬ ((6 : Int) = 2) by decide, show ¬ ((6 : Int) = 3) by decide, show ¬ ((6 : Int) = 4) by decide, show ¬ ((6 : Int) = 5) by decide, if_false, if_true, or_true, Bool.false_eq_true]
      by_cases h0 : c = 0
      · simp only [h0, if_true]; rfl
      · simp only [h0, if_false]
        refine fin_rg b hb false _ ?_
        have hd := udiv_lt a c
        refine ⟨by unfold wrap64 I64; omega, fun e2 => ?_⟩
        have := huse rfl (.inl rfl) e2
        simp only [Bool.false_eq_true, if_false]
        rw [rg_uv a (by omega), rg_uv c (by omega)]
        have h1 := Int.ediv_le_self (a := a) c (by omega)
        have h2 := Int.ediv_nonneg (a := a) (b := c) (by omega) (by omega)
        unfold wrap64
        omega
  by_cases h7 : sub = 7
  · subst h7
    cases s with
    | true => exact absurd rfl hs.2.1
    | false =>
      rw [hmod (by decide)]
      simp only [Bool.false_and, Bool.or_false, Bool.false_eq_true, if_false]
      unfold Pl Core
      simp only [show ¬ ((7 : Int) = 1) by decide, show ¬ ((7 : Int) = 2) by decide, show ¬ ((7 : Int) = 3) by decide, show ¬ ((7 : Int) = 4) by decide, show ¬ ((7 : Int) = 5) by decide, show ¬ ((7 : Int) = 6) by decide, if_false, if_true, or_true, or_self, Bool.false_eq_true]
      by_cases h0 : c = 0
      · simp only [h0, if_true]; rfl
      · simp only [h0, if_false]
        refine fin_rg b hb false _ ?_
        refine ⟨by unfold wrap64 I64; omega, fun e2 => ?_⟩
        have := huse rfl (.inr rfl) e2
        simp only [Bool.false_eq_true, if_false]
        rw [rg_uv a (by omega), rg_uv c (by omega)]
        have h1 := Int.emod_lt_of_pos a (show 0 < c by omega)
        have h2 := Int.emod_nonneg a (show c ≠ 0 by omega)
        unfold wrap64
        omega
  unfold Pl Core
  simp only [if_neg h1, if_neg h2, if_neg h3, if_neg h4, if_neg h5, if_neg h6, if_neg h7, show ¬ (sub = 4 ∨ sub = 6) from by omega, show ¬ (sub = 5 ∨ sub = 7) from by omega, if_false]
  by_cases h8 : sub = 8
  · simp only [if_pos h8]; exact good _ h5 (rg_bits b s _ (.inl rfl) a c ha hc)
  by_cases h9 : sub = 9
  · simp only [if_neg h8, if_pos h9]; exact good _ h5 (rg_bits b s _ (.inr (.inl rfl)) a c ha hc)
  by_cases h10 : sub = 10
  · simp only [if_neg h8, if_neg h9, if_pos h10]; exact good _ h5 (rg_bits b s _ (.inr (.inr rfl)) a c ha hc)
  simp only [if_neg h8, if_neg h9, if_neg h10, show ¬ sub = 11 from by omega, show ¬ sub = 12 from by omega, show ¬ sub = 13 from by omega, if_false]
  by_cases h14 : sub = 14
  · simp only [if_pos h14]; exact good _ h5 (rg_small _ _ _ (tr_small _))
  by_cases h15 : sub = 15
  · simp only [if_neg h14, if_pos h15]; exact good _ h5 (rg_small _ _ _ (tr_small _))
  simp only [if_neg h14, if_neg h15]
  by_cases h16 : sub = 16
  · subst h16
    cases s with
    | false => exact absurd rfl hs.2.2.1
    | true => simp only [if_true, true_or, lessB]; exact good _ h5 (rg_small _ _ _ (tr_small _))
  by_cases h17 : sub = 17
  · subst h17
    cases s with
    | false => exact absurd rfl hs.2.2.2
    | true =>
      simp only [if_true, true_or, lessB, show ¬ ((17 : Int) = 16) by decide, show ¬ ((17 : Int) = 18) by decide, or_self, if_false, decide_le a c]
      exact good _ h5 (rg_small _ _ _ (tr_small _))
  by_cases h18 : sub = 18
  · subst h18
    cases s with
    | true => exact absurd rfl hs.2.2.1
    | false => simp only [if_true, or_true, lessB, show ¬ ((18 : Int) = 16) by decide, show ¬ ((18 : Int) = 17) by decide, if_false, Bool.false_eq_true]; exact good _ h5 (rg_small _ _ _ (tr_small _))
  have h19 : sub = 19 := by omega
  subst h19
  cases s with
  | true => exact absurd rfl hs.2.2.2
  | false =>
    simp only [if_true, or_true, lessB, show ¬ ((19 : Int) = 16) by decide, show ¬ ((19 : Int) = 17) by decide, show ¬ ((19 : Int) = 18) by decide, or_self, if_false, Bool.false_eq_true, decide_le (uv a) (uv c)]
    exact good _ h5 (rg_small _ _ _ (tr_small _))
theorem j6_core (k : Nat) (b : Int) (hb : b = 32 ∨ b = 64) (s : Bool) (sub a c : Int) (ha : Rg b s a) (hc : Rg b s c) (hsub : 1 ≤ sub ∧ sub < 20) (hns : ¬ (sub = 11 ∨ sub = 12 ∨ sub = 13))
    (hs : if s = true then sub ≠ 6 ∧ sub ≠ 7 ∧ sub ≠ 18 ∧ sub ≠ 19 else sub ≠ 4 ∧ sub ≠ 5 ∧ sub ≠ 16 ∧ sub ≠ 17) :
    spokeshaveref1_Binary.j6 (k + 3) sub a c b s = some (Core b s sub a c) := by
  obtain ⟨o, ho, hoo⟩ := over_ok sub a c ha.1 hc.1
  rw [j6_ref k b s sub a c ha.1 hc.1 (fun e => by subst e; simp only [Bool.false_eq_true, if_false] at hs; exact hs.2.1) o ho, fin_pl b hb s sub a c ha hc hsub hns hs o hoo]
theorem j2_core (k : Nat) (b : Int) (hb : b = 32 ∨ b = 64) (s : Bool) (sub a c : Int) (ha : Rg b s a) (hc : Rg b s c) (hsub : 1 ≤ sub ∧ sub < 20) (hns : ¬ (sub = 11 ∨ sub = 12 ∨ sub = 13)) (t : Bool) (ht : t = decide (sub = 4 ∨ sub = 6)) :
    spokeshaveref1_Binary.j2 (k + 7) sub a c sub t b s = some (Core b s sub a c) := by
  have core := fun (k : Nat) (sub' : Int) (h1 : 1 ≤ sub' ∧ sub' < 20) (h2 : ¬ (sub' = 11 ∨ sub' = 12 ∨ sub' = 13)) hs => j6_core k b hb s sub' a c ha hc h1 h2 hs
  subst ht
  by_cases h4 : sub = 4 ∨ sub = 6
  · rw [decide_eq_true h4, ← core_sbs]
    have e : sbs s sub = if s = true then 4 else 6 := by unfold sbs; rw [if_pos h4]
    rw [e]
    cases s with
    | true => simp only [spokeshaveref1_Binary.j2, if_true]; exact core (k + 3) 4 (by decide) (by decide) (by decide)
    | false => simp only [spokeshaveref1_Binary.j2, if_true, Bool.false_eq_true, if_false]; exact core (k + 3) 6 (by decide) (by decide) (by decide)
  rw [decide_eq_false h4]
  have e3 : spokeshaveref1_Binary.j2 (k + 7) sub a c sub false b s = spokeshaveref1_Binary.j3 (k + 6) sub a c sub (decide (sub = 5 ∨ sub = 7)) b s := by
    simp only [spokeshaveref1_Binary.j2, Bool.false_eq_true, if_false]
    by_cases h5 : sub = 5
    · subst h5; simp
    · rw [if_neg h5]
      by_cases h7 : sub = 7
      · subst h7; simp
      · rw [beq_eq_false_iff_ne.mpr h7, decide_eq_false (by omega)]
  rw [e3]
  by_cases h5 : sub = 5 ∨ sub = 7
  · rw [decide_eq_true h5, ← core_sbs]
    have e : sbs s sub = if s = true then 5 else 7 := by unfold sbs; rw [if_neg h4, if_pos h5]
    rw [e]
    cases s with
    | true => simp only [spokeshaveref1_Binary.j3, if_true]; exact core (k + 2) 5 (by decide) (by decide) (by decide)
    | false => simp only [spokeshaveref1_Binary.j3, if_true, Bool.false_eq_true, if_false]; exact core (k + 2) 7 (by decide) (by decide) (by decide)
  rw [decide_eq_false h5]
  have e4 : spokeshaveref1_Binary.j3 (k + 6) sub a c sub false b s = spokeshaveref1_Binary.j4 (k + 5) sub a c sub (decide (sub = 16 ∨ sub = 18)) b s := by
    simp only [spokeshaveref1_Binary.j3, Bool.false_eq_true, if_false]
    by_cases h5 : sub = 16
    · subst h5; simp
    · rw [if_neg h5]
      by_cases h7 : sub = 18
      · subst h7; simp
      · rw [beq_eq_false_iff_ne.mpr h7, decide_eq_false (by omega)]
  rw [e4]
  by_cases h16 : sub = 16 ∨ sub = 18
  · rw [decide_eq_true h16, ← core_sbs]
    have e : sbs s sub = if s = true then 16 else 18 := by unfold sbs; rw [if_neg h4, if_neg h5, if_pos h16]
    rw [e]
    cases s with
    | true => simp only [spokeshaveref1_Binary.j4, if_true]; exact core (k + 1) 16 (by decide) (by decide) (by decide)
    | false => simp only [spokeshaveref1_Binary.j4, if_true, Bool.false_eq_true, if_false]; exact core (k + 1) 18 (by decide) (by decide) (by decide)
  rw [decide_eq_false h16]
  have e5 : spokeshaveref1_Binary.j4 (k + 5) sub a c sub false b s = spokeshaveref1_Binary.j5 (k + 4) sub a c (decide (sub = 17 ∨ sub = 19)) b s := by
    simp only [spokeshaveref1_Binary.j4, Bool.false_eq_true, if_false]
    by_cases h5 : sub = 17
    · subst h5; simp
    · rw [if_neg h5]
      by_cases h7 : sub = 19
      · subst h7; simp
      · rw [beq_eq_false_iff_ne.mpr h7, decide_eq_false (by omega)]
  rw [e5]
  by_cases h17 : sub = 17 ∨ sub = 19
  · rw [decide_eq_true h17, ← core_sbs]
    have e : sbs s sub = if s = true then 17 else 19 := by unfold sbs; rw [if_neg h4, if_neg h5, if_neg h16, if_pos h17]
    rw [e]
    cases s with
    | true => simp only [spokeshaveref1_Binary.j5, if_true]; exact core k 17 (by decide) (by decide) (by decide)
    | false => simp only [spokeshaveref1_Binary.j5, if_true, Bool.false_eq_true, if_false]; exact core k 19 (by decide) (by decide) (by decide)
  rw [decide_eq_false h17]
  simp only [spokeshaveref1_Binary.j5, Bool.false_eq_true, if_false]
  exact core k sub hsub hns (by cases s <;> simp <;> omega)
theorem bin_out (b : Int) (s : Bool) (sub x y : Int) (h : ¬ (1 ≤ sub ∧ sub < 20)) : Bin b s sub x y = (0, false) := by
  by_cases hb : b = 32 ∨ b = 64
  · rw [bin_core b hb s sub x y (by omega)]
    unfold Core
    simp only [show ¬ sub = 1 by omega, show ¬ sub = 2 by omega, show ¬ sub = 3 by omega, show ¬ (sub = 4 ∨ sub = 6) by omega, show ¬ (sub = 5 ∨ sub = 7) by omega, show ¬ sub = 8 by omega, show ¬ sub = 9 by omega, show ¬ sub = 10 by omega, show ¬ sub = 14 by omega, show ¬ sub = 15 by omega, show ¬ (sub = 16 ∨ sub = 18) by omega, show ¬ (sub = 17 ∨ sub = 19) by omega, if_false]
  · unfold Bin; rw [if_neg hb]
theorem bin_ref (k : Nat) (b : Int) (s : Bool) (sub x y : Int) : spokeshaveref1_Binary.f (k + 9) b s sub x y = some (Bin b s sub x y) := by
  have e : spokeshaveref1_Binary.f (k + 9) b s sub x y = spokeshaveref1_Binary.j0 (k + 9) sub x y (!decide ((b = 32 ∨ b = 64) ∧ 1 ≤ sub ∧ sub < 20)) b s := by
    unfold spokeshaveref1_Binary.f
    by_cases h32 : b = 32
    · rw [if_pos h32]
      by_cases h1 : sub < 1
      · rw [if_pos h1, decide_eq_false (by omega)]; rfl
      · rw [if_neg h1]
        by_cases h2 : sub ≥ 20
        · rw [decide_eq_true h2, decide_eq_false (by omega)]; rfl
        · rw [decide_eq_false h2, decide_eq_true (by omega)]; rfl
    · rw [if_neg h32]
      by_cases h64 : b = 64
      · rw [if_pos h64]
        by_cases h1 : sub < 1
        · rw [if_pos h1, decide_eq_false (by omega)]; rfl
        · rw [if_neg h1]
          by_cases h2 : sub ≥ 20
          · rw [decide_eq_true h2, decide_eq_false (by omega)]; rfl
          · rw [decide_eq_false h2, decide_eq_true (by omega)]; rfl
      · rw [if_neg h64, decide_eq_false (by omega)]; rfl
  rw [e]
  by_cases hb : ¬ (b = 32 ∨ b = 64)
  · rw [decide_eq_false fun h => hb h.1]
    simp only [spokeshaveref1_Binary.j0, Bool.not_false, if_true]
    unfold Bin
    rw [if_neg hb]
  replace hb := Decidable.not_not.1 hb
  by_cases hsub : ¬ (1 ≤ sub ∧ sub < 20)
  · rw [decide_eq_false fun h => hsub h.2, bin_out b s sub x y hsub]
    simp only [spokeshaveref1_Binary.j0, Bool.not_false, if_true]
  replace hsub := Decidable.not_not.1 hsub
  rw [decide_eq_true ⟨hb, hsub⟩]
  simp only [spokeshaveref1_Binary.j0, Bool.not_true, Bool.false_eq_true, if_false, wrap_ref, Option.bind_some]
  by_cases hs : sub = 11 ∨ sub = 12 ∨ sub = 13
  · have e2 : (if sub = 11 then spokeshaveref1_Binary.j1 (k + 8) sub (wv b s x) y true b s else if sub = 12 then spokeshaveref1_Binary.j1 (k + 8) sub (wv b s x) y true b s else spokeshaveref1_Binary.j1 (k + 8) sub (wv b s x) y (sub == 13) b s) = spokeshaveref1_Binary.j1 (k + 8) sub (wv b s x) y true b s := by
      rcases hs with rfl | rfl | rfl <;> simp
    rw [e2]
    simp only [spokeshaveref1_Binary.j1, if_true]
    rw [show k + 7 = (k + 6) + 1 from rfl, shift_ref _ b hb s sub _ y (rg_wv b hb s x)]
    unfold Bin
    rw [if_pos hb]
    rcases hs with rfl | hs
    · simp only [Option.bind_some, if_true]
    · have h11 : ¬ sub = 11 := by omega
      simp only [Option.bind_some, if_neg h11, if_pos hs]
  · have e2 : (if sub = 11 then spokeshaveref1_Binary.j1 (k + 8) sub (wv b s x) y true b s else if sub = 12 then spokeshaveref1_Binary.j1 (k + 8) sub (wv b s x) y true b s else spokeshaveref1_Binary.j1 (k + 8) sub (wv b s x) y (sub == 13) b s) = spokeshaveref1_Binary.j1 (k + 8) sub (wv b s x) y false b s := by
      rw [if_neg (by omega), if_neg (by omega), beq_eq_false_iff_ne.mpr (by omega)]
    rw [e2]
    simp only [spokeshaveref1_Binary.j1, Bool.false_eq_true, if_false, wrap_ref, Option.bind_some]
    have e3 : (if sub = 4 then spokeshaveref1_Binary.j2 (k + 7) sub (wv b s x) (wv b s y) sub (sub == 4) b s else spokeshaveref1_Binary.j2 (k + 7) sub (wv b s x) (wv b s y) sub (sub == 6) b s) = spokeshaveref1_Binary.j2 (k + 7) sub (wv b s x) (wv b s y) sub (decide (sub = 4 ∨ sub = 6)) b s := by
      by_cases h5 : sub = 4
      · subst h5; simp
      · rw [if_neg h5]
        by_cases h7 : sub = 6
        · subst h7; simp
        · rw [beq_eq_false_iff_ne.mpr h7, decide_eq_false (by omega)]
    rw [e3, j2_core k b hb s sub _ _ (rg_wv b hb s x) (rg_wv b hb s y) hsub hs _ rfl, bin_core b hb s sub x y hs]
end Go.Proofs.YthkcdmkimnockaaDoor.PWord
