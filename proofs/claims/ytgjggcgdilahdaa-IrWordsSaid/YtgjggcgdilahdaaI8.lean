/- A part of the proof: I8. -/
import Derived.Test.YtgjggcgdilahdaaI7
set_option linter.unusedVariables false
set_option linter.unusedSimpArgs false
set_option linter.constructorNameAsVariable false
set_option linter.unusedVariables false
set_option maxRecDepth 100000
namespace Go.Xe
open Go.RowKit
theorem i64_eq (x : Int) : iwrap .i64 x = (x + 9223372036854775808) % 18446744073709551616 - 9223372036854775808 := by
  rw [iwrap_eq]; simp only [IntKind.wrap, IntKind.bits, IntKind.signed]; simp <;> omega
theorem u8_eq (x : Int) : iwrap .u8 x = x % 256 := by rw [iwrap_eq]; simp [IntKind.wrap, IntKind.bits, IntKind.signed]
theorem in_i64 (x : Int) : In64 (iwrap .i64 x) := by unfold In64; rw [i64_eq]; omega
theorem shr_eq (x : Int) (h : 0 ≤ x) (k : Nat) (hk : k ≤ 64) : shrI .u64 x (k : Int) = x / (2 ^ k : Nat) := by
  unfold shrI
  rw [show (Nat.min ((k : Int)).toNat IntKind.u64.bits) = k from by show min (k : Int).toNat 64 = k; rw [Int.toNat_natCast]; exact Nat.min_eq_left hk]
  exact Int.fdiv_eq_ediv_of_nonneg _ (Int.natCast_nonneg _)
theorem u64_rng (x : Int) : 0 ≤ iwrap .u64 x ∧ iwrap .u64 x < 18446744073709551616 := by rw [iwrap_u64]; omega
theorem shr8_eq (x : Int) : shr8 x = iwrap .i64 (iwrap .u64 x / 256) := by
  unfold shr8
  rw [show (8 : Int) = ((8 : Nat) : Int) from rfl, shr_eq _ (u64_rng x).1 8 (by decide)]; rfl
theorem U_shr8 (x : Int) : iwrap .u64 (shr8 x) = iwrap .u64 x / 256 := by
  have h := u64_rng x
  rw [shr8_eq, iwrap_u64, i64_eq]
  omega
theorem shrs_in (x : Int) (hx : In64 x) : ∀ k, In64 (shrs k x)
  | 0 => hx
  | k + 1 => shrs_in (shr8 x) (in_i64 _) k
theorem shrs_shr (x : Int) : ∀ k, shr8 (shrs k x) = shrs (k + 1) x
  | 0 => rfl
  | k + 1 => shrs_shr (shr8 x) k
theorem U_shrs (x : Int) : ∀ k, iwrap .u64 (shrs k x) = iwrap .u64 x / (256 ^ k : Nat)
  | 0 => by show iwrap .u64 x = _; simp
  | k + 1 => by
    rw [← shrs_shr, U_shr8, U_shrs x k, Int.ediv_ediv_of_nonneg (by exact Int.natCast_nonneg _)]
    rw [Nat.pow_succ]; push_cast; rfl
theorem byte_eq (v : Int) (k : Nat) (hk : k < 8) : iwrap .u8 (shrs k v) = iwrap .u8 (shrI .u64 (iwrap .u64 v) ((8 * k : Nat) : Int)) := by
  rw [shr_eq _ (u64_rng v).1 _ (by omega), show (2 ^ (8 * k) : Nat) = 256 ^ k from by rw [Nat.pow_mul], ← U_shrs, u8_eq, u8_eq, iwrap_u64]
  omega
theorem last_eq (v : Int) : iand .i64 (shrs 8 v) 255 = 0 := by
  have h0 : shrs 8 v = 0 := by
    rw [← shrs_shr, shr8_eq, U_shrs]
    have := u64_rng v
    have h1 : iwrap .u64 v / (256 ^ 7 : Nat) / 256 = 0 := by
      have e : ((256 ^ 7 : Nat) : Int) = 72057594037927936 := by decide
      rw [e]; omega
    rw [h1]; exact iw64 (by decide) (by decide)
  rw [h0]; exact (by kernel_rfl : iand IntKind.i64 0 255 = 0)
theorem good (v : Int) : goodR v := by
  refine ⟨⟨rfl, last_eq v, ?_, [_, _, _, _, _, _, _, _], rfl, rfl⟩, rfl⟩
  have e0 := byte_eq v 0 (by decide)
  have e1 := byte_eq v 1 (by decide)
  have e2 := byte_eq v 2 (by decide)
  have e3 := byte_eq v 3 (by decide)
  have e4 := byte_eq v 4 (by decide)
  have e5 := byte_eq v 5 (by decide)
  have e6 := byte_eq v 6 (by decide)
  have e7 := byte_eq v 7 (by decide)
  unfold bytesA bytesB byteB
  rw [show iwrap .u8 v = iwrap .u8 (shrs 0 v) from rfl, e0, e1, e2, e3, e4, e5, e6, e7]
  rfl
theorem sem12 (x : Int) (hx : In64 x) : Sem 12 x 8 (shr8 x) true := Sem.of fun K hk => plain12 .nil hx hk
theorem sems_ok {s a b v : Int} (hv : In64 v) (h : Sem s a b v true) : sems s a b v (goodR v) := by
  have f : ∀ k, Sem 12 (shrs k v) 8 (shrs (k + 1) v) true := fun k => by rw [← shrs_shr]; exact sem12 _ (shrs_in v hv k)
  exact ⟨h, f 0, f 1, f 2, f 3, f 4, f 5, f 6, f 7, good v⟩
theorem J9_of {a b n s s0 v0 : Int} {ok0 c : Bool} {p : Prop} (hp : p) (h : F5_9 (IrE s0 v0 ok0 (0+1000)) (J5 (IrE s0 v0 ok0 (0+1000)) (0+1000)) a b c n s S0 isT = p) : JS5 9 [nm a, nm b, .one (.s (.bool c)), nm n, nm s] S0 isT := by
  rw [← h] at hp
  exact ⟨ltB_ok (by kernel_rfl), A5_9_ok (IrE_ok s0 v0 ok0 (0+1000)) (J5_ok (IrE_ok s0 v0 ok0 (0+1000)) (0+1000)) (vals := [nm a, nm b, .one (.s (.bool c)), nm n, nm s]) hp⟩
theorem tmod_in {a b : Int} (ha : In64 a) : In64 (Int.tmod a b) := by
  unfold In64 at *
  by_cases h : 0 ≤ a
  · have h1 := Int.tmod_nonneg b h
    have h2 : (Int.tmod a b).natAbs ≤ a.natAbs := by rw [Int.natAbs_tmod]; exact Nat.mod_le _ _
    omega
  · have h1 : 0 ≤ Int.tmod (-a) b := Int.tmod_nonneg b (by omega)
    have h2 : (Int.tmod a b).natAbs ≤ a.natAbs := by rw [Int.natAbs_tmod]; exact Nat.mod_le _ _
    rw [Int.neg_tmod] at h1
    omega
theorem u_ne {b : Int} (hb : In64 b) (h : b ≠ 0) : iwrap .u64 b ≠ 0 := by unfold In64 at hb; rw [iwrap_u64]; omega
theorem u_zero : iwrap .u64 0 = 0 := by rw [iwrap_u64]; rfl
theorem iwrap_i8 {a b : Int} : iwrap .i64 (iand .i64 a b) = iand .i64 a b := by
  unfold iand; rw [← iwrap_eq]; have := in_i64 ((BitVec.ofInt IntKind.i64.bits a &&& BitVec.ofInt IntKind.i64.bits b).toNat : Int); exact iw64 this.1 this.2
theorem iwrap_i9 {a b : Int} : iwrap .i64 (ior .i64 a b) = ior .i64 a b := by
  unfold ior; rw [← iwrap_eq]; have := in_i64 ((BitVec.ofInt IntKind.i64.bits a ||| BitVec.ofInt IntKind.i64.bits b).toNat : Int); exact iw64 this.1 this.2
theorem iwrap_i10 {a b : Int} : iwrap .i64 (ixor .i64 a b) = ixor .i64 a b := by
  unfold ixor; rw [← iwrap_eq]; have := in_i64 ((BitVec.ofInt IntKind.i64.bits a ^^^ BitVec.ofInt IntKind.i64.bits b).toNat : Int); exact iw64 this.1 this.2
theorem words_law {a b x2 : Int} (ha : In64 a) (hb : In64 b) : CallE IrP IrG 5 [nm a, nm b, nm x2] S0 isT := by
  refine S5 (JS_ok _ _ _ _) ?_
  unfold F5_0
  repeat (first | ((with_reducible refine letK_i ?_)))
  refine .e (S21 (JS_ok _ _ _ _) ?_)
  unfold F21_0
  refine letK_i (letK_i ?_)
  refine req_i (by rw [ieq_f (by rw [iwrap_u64]; decide)]; rfl) ?_
  refine letK_i (letK_i ?_)
  obtain ⟨r, hr, h0, h1⟩ : ∃ r : Int, iwrap .i64 (Int.tmod (iwrap .u64 x2) (iwrap .u64 10)) = r ∧ 0 ≤ r ∧ r < 10 := by
    refine ⟨_, rfl, ?_⟩
    have e : iwrap .u64 10 = 10 := by rw [iwrap_u64]; rfl
    rw [e]
    have h1 := Int.tmod_nonneg 10 (u64_rng x2).1
    have h2 : Int.tmod (iwrap .u64 x2) 10 < 10 := Int.tmod_lt_of_pos _ (by decide)
    rw [iw64 (by omega) (by omega)]
    exact ⟨h1, h2⟩
  rw [hr]
  repeat (first | ((with_reducible refine letK_i ?_)) | ((with_reducible apply cI_e); exact rfl) | ((with_reducible apply scK_e); exact rfl) | ((with_reducible refine G5_q24 ?_); unfold F5_q24))
  have e : ∀ z : Int, 0 ≤ z → z < 10 → iwrap .i64 (1 + z) = 1 + z := fun z h0 h1 => iw64 (by omega) (by omega)
  rw [e r h0 h1]
  have hcs : r = 0 ∨ r = 1 ∨ r = 2 ∨ r = 3 ∨ r = 4 ∨ r = 5 ∨ r = 6 ∨ r = 7 ∨ r = 8 ∨ r = 9 := by omega
  rcases hcs with rfl | rfl | rfl | rfl | rfl | rfl | rfl | rfl | rfl | rfl
  · refine ifK_t rfl ?_
    repeat (first | ((with_reducible refine letK_i ?_)))
    refine J9_of (sems_ok (in_i64 _) (Sem.of fun K hk => plain1 .nil ha hb hk)) (run1 0 a b _)
  · refine ifK_f rfl ?_
    repeat (first | ((with_reducible refine letK_i ?_)) | ((with_reducible refine G5_q23 ?_); unfold F5_q23))
    refine ifK_t rfl ?_
    repeat (first | ((with_reducible refine letK_i ?_)))
    refine J9_of (sems_ok (in_i64 _) (Sem.of fun K hk => plain2 .nil ha hb hk)) (run2 0 a b _)
  · refine ifK_f rfl ?_
    repeat (first | ((with_reducible refine letK_i ?_)) | ((with_reducible refine G5_q23 ?_); unfold F5_q23))
    refine ifK_f rfl ?_
    repeat (first | ((with_reducible refine letK_i ?_)))
    refine ifK_t rfl ?_
    repeat (first | ((with_reducible refine letK_i ?_)))
    refine J9_of (sems_ok (in_i64 _) (Sem.of fun K hk => plain3 .nil ha hb hk)) (run3 0 a b _)
  · refine ifK_f rfl ?_
    repeat (first | ((with_reducible refine letK_i ?_)) | ((with_reducible refine G5_q23 ?_); unfold F5_q23))
    refine ifK_f rfl ?_
    repeat (first | ((with_reducible refine letK_i ?_)))
    refine ifK_f rfl ?_
    repeat (first | ((with_reducible refine letK_i ?_)) | ((with_reducible refine G5_q22 ?_); unfold F5_q22))
    refine ifK_t rfl ?_
    skip
    refine S5_33 ?_
    unfold F5_33
    refine ifK_t rfl ?_
    repeat (first | ((with_reducible refine letK_i ?_)))
    by_cases hz : b = 0
    · subst hz
      rw [ieq_t rfl]
      skip
      refine S5_35 ?_
      unfold F5_35
      repeat (first | ((with_reducible refine ifK_f ?_ ?_); (with_reducible exact rfl)) | ((with_reducible refine G5_q36 ?_); unfold F5_q36))
      refine S5_36 ?_
      unfold F5_36
      repeat (first | ((with_reducible refine ifK_f ?_ ?_); (with_reducible exact rfl)) | ((with_reducible refine G5_q40 ?_); unfold F5_q40))
      exact J9_of ⟨Sem.of fun K hk => plain4z .nil ha hk, rfl⟩ (run4z 0 a 0)
    · rw [ieq_f hz]
      refine ifK_t rfl ?_
      repeat (first | ((with_reducible refine letK_i ?_)) | ((with_reducible refine G5_q26 ?_); unfold F5_q26))
      have body : (ieq b (-1) && ieq a (-9223372036854775808)) = false → JS5 35 [nm a, nm b, .one (.s (.bool true)), nm 0, nm (1 + 3)] S0 isT := by
        intro hm
        refine S5_35 ?_
        unfold F5_35
        repeat (first | ((with_reducible refine letK_i ?_)) | ((with_reducible refine G5_q36 ?_); unfold F5_q36))
        refine S5_36 ?_
        unfold F5_36
        refine ifK_t rfl ?_
        skip
        refine req_i (by rw [ieq_f hz]; rfl) ?_
        repeat (first | ((with_reducible refine letK_i ?_)))
        exact J9_of (sems_ok (in_i64 _) (Sem.of fun K hk => plain4 .nil ha hb hz hm hk)) (run4 0 a b _)
      rw [show Int.negSucc 9223372036854775807 = -9223372036854775808 from rfl]
      cases h1 : ieq a (-9223372036854775808) with
      | false =>
        repeat (first | ((with_reducible refine ifK_f ?_ ?_); (with_reducible exact rfl)))
        exact body (by rw [h1, Bool.and_false])
      | true =>
        repeat (first | ((with_reducible refine letK_i ?_)))
        rw [show Int.negSucc 0 = -1 from rfl]
        cases h2 : ieq b (-1) with
        | false => exact body (by rw [h2]; rfl)
        | true =>
          refine S5_35 ?_
          unfold F5_35
          repeat (first | ((with_reducible refine G5_q36 ?_); unfold F5_q36))
          refine ifK_f rfl ?_
          refine S5_36 ?_
          unfold F5_36
          repeat (first | ((with_reducible refine ifK_f ?_ ?_); (with_reducible exact rfl)) | ((with_reducible refine G5_q40 ?_); unfold F5_q40))
          exact J9_of ⟨Sem.of fun K hk => plain4m .nil ha hb hz (by rw [h1, h2]; rfl) hk, rfl⟩ (run4z 0 a b)
  · refine ifK_f rfl ?_
    repeat (first | ((with_reducible refine letK_i ?_)) | ((with_reducible refine G5_q23 ?_); unfold F5_q23))
    refine ifK_f rfl ?_
    repeat (first | ((with_reducible refine letK_i ?_)))
    refine ifK_f rfl ?_
    repeat (first | ((with_reducible refine letK_i ?_)) | ((with_reducible refine G5_q22 ?_); unfold F5_q22))
    refine ifK_f rfl ?_
    repeat (first | ((with_reducible refine letK_i ?_)) | ((with_reducible refine G5_q21 ?_); unfold F5_q21))
    skip
    refine S5_33 ?_
    unfold F5_33
    refine ifK_t rfl ?_
    repeat (first | ((with_reducible refine letK_i ?_)))
    by_cases hz : b = 0
    · subst hz
      rw [ieq_t rfl]
      skip
      refine S5_35 ?_
      unfold F5_35
      repeat (first | ((with_reducible refine ifK_f ?_ ?_); (with_reducible exact rfl)) | ((with_reducible refine G5_q36 ?_); unfold F5_q36))
      refine S5_36 ?_
      unfold F5_36
      repeat (first | ((with_reducible refine ifK_f ?_ ?_); (with_reducible exact rfl)) | ((with_reducible refine G5_q40 ?_); unfold F5_q40))
      exact J9_of ⟨Sem.of fun K hk => plain5z .nil ha hk, rfl⟩ (run5z 0 a 0)
    · rw [ieq_f hz]
      refine ifK_t rfl ?_
      repeat (first | ((with_reducible refine letK_i ?_)) | ((with_reducible refine G5_q26 ?_); unfold F5_q26))
      have body : (ieq b (-1) && ieq a (-9223372036854775808)) = false → JS5 35 [nm a, nm b, .one (.s (.bool true)), nm 0, nm (1 + 4)] S0 isT := by
        intro hm
        refine S5_35 ?_
        unfold F5_35
        repeat (first | ((with_reducible refine letK_i ?_)) | ((with_reducible refine G5_q36 ?_); unfold F5_q36))
        refine S5_36 ?_
        unfold F5_36
        refine ifK_f rfl ?_
        repeat (first | ((with_reducible refine ifK_t ?_ ?_); (with_reducible exact rfl)) | ((with_reducible refine G5_q40 ?_); unfold F5_q40))
        skip
        refine req_i (by rw [ieq_f hz]; rfl) ?_
        repeat (first | ((with_reducible refine letK_i ?_)))
        exact J9_of (sems_ok (tmod_in ha) (Sem.of fun K hk => plain5 .nil ha hb hz hm hk)) (run5 0 a b _)
      rw [show Int.negSucc 9223372036854775807 = -9223372036854775808 from rfl]
      cases h1 : ieq a (-9223372036854775808) with
      | false =>
        repeat (first | ((with_reducible refine ifK_f ?_ ?_); (with_reducible exact rfl)))
        exact body (by rw [h1, Bool.and_false])
      | true =>
        repeat (first | ((with_reducible refine letK_i ?_)))
        rw [show Int.negSucc 0 = -1 from rfl]
        cases h2 : ieq b (-1) with
        | false => exact body (by rw [h2]; rfl)
        | true =>
          refine S5_35 ?_
          unfold F5_35
          repeat (first | ((with_reducible refine G5_q36 ?_); unfold F5_q36))
          refine ifK_f rfl ?_
          refine S5_36 ?_
          unfold F5_36
          repeat (first | ((with_reducible refine ifK_f ?_ ?_); (with_reducible exact rfl)) | ((with_reducible refine G5_q40 ?_); unfold F5_q40))
          exact J9_of ⟨Sem.of fun K hk => plain5m .nil ha hb hz (by rw [h1, h2]; rfl) hk, rfl⟩ (run5z 0 a b)
  · refine ifK_f rfl ?_
    repeat (first | ((with_reducible refine letK_i ?_)) | ((with_reducible refine G5_q23 ?_); unfold F5_q23))
    refine ifK_f rfl ?_
    repeat (first | ((with_reducible refine letK_i ?_)))
    refine ifK_f rfl ?_
    repeat (first | ((with_reducible refine letK_i ?_)) | ((with_reducible refine G5_q22 ?_); unfold F5_q22))
    refine ifK_f rfl ?_
    repeat (first | ((with_reducible refine letK_i ?_)) | ((with_reducible refine G5_q21 ?_); unfold F5_q21))
    refine S5_33 ?_
    unfold F5_33
    refine ifK_f rfl ?_
    repeat (first | ((with_reducible refine letK_i ?_)) | ((with_reducible refine G5_q27 ?_); unfold F5_q27))
    refine ifK_t rfl ?_
    refine S5_43 ?_
    unfold F5_43
    refine ifK_t rfl ?_
    repeat (first | ((with_reducible refine letK_i ?_)) | ((with_reducible refine G5_q37 ?_); unfold F5_q37))
    by_cases hz : b = 0
    · subst hz
      rw [u_zero, ieq_t rfl]
      refine ifK_f rfl ?_
      refine S5_46 ?_
      unfold F5_46
      repeat (first | ((with_reducible refine ifK_f ?_ ?_); (with_reducible exact rfl)) | ((with_reducible refine G5_q41 ?_); unfold F5_q41))
      exact J9_of ⟨Sem.of fun K hk => plain6z .nil ha hk, rfl⟩ (run6z 0 a 0)
    · have hu := u_ne hb hz
      rw [ieq_f hu]
      refine ifK_t rfl ?_
      repeat (first | ((with_reducible refine letK_i ?_)))
      refine S5_46 ?_
      unfold F5_46
      refine ifK_t rfl ?_
      skip
      refine req_i (by rw [ieq_f hu]; rfl) ?_
      repeat (first | ((with_reducible refine letK_i ?_)))
      exact J9_of (sems_ok (in_i64 _) (Sem.of fun K hk => plain6 .nil ha hb hz hu hk)) (run6 0 a b _)
  · refine ifK_f rfl ?_
    repeat (first | ((with_reducible refine letK_i ?_)) | ((with_reducible refine G5_q23 ?_); unfold F5_q23))
    refine ifK_f rfl ?_
    repeat (first | ((with_reducible refine letK_i ?_)))
    refine ifK_f rfl ?_
    repeat (first | ((with_reducible refine letK_i ?_)) | ((with_reducible refine G5_q22 ?_); unfold F5_q22))
    refine ifK_f rfl ?_
    repeat (first | ((with_reducible refine letK_i ?_)) | ((with_reducible refine G5_q21 ?_); unfold F5_q21))
    refine S5_33 ?_
    unfold F5_33
    refine ifK_f rfl ?_
    repeat (first | ((with_reducible refine letK_i ?_)) | ((with_reducible refine G5_q27 ?_); unfold F5_q27))
    refine ifK_f rfl ?_
    repeat (first | ((with_reducible refine letK_i ?_)))
    refine S5_43 ?_
    unfold F5_43
    refine ifK_t rfl ?_
    repeat (first | ((with_reducible refine letK_i ?_)) | ((with_reducible refine G5_q37 ?_); unfold F5_q37))
    by_cases hz : b = 0
    · subst hz
      rw [u_zero, ieq_t rfl]
      refine ifK_f rfl ?_
      refine S5_46 ?_
      unfold F5_46
      repeat (first | ((with_reducible refine ifK_f ?_ ?_); (with_reducible exact rfl)) | ((with_reducible refine G5_q41 ?_); unfold F5_q41))
      exact J9_of ⟨Sem.of fun K hk => plain7z .nil ha hk, rfl⟩ (run7z 0 a 0)
    · have hu := u_ne hb hz
      rw [ieq_f hu]
      refine ifK_t rfl ?_
      repeat (first | ((with_reducible refine letK_i ?_)))
      refine S5_46 ?_
      unfold F5_46
      refine ifK_f rfl ?_
      repeat (first | ((with_reducible refine G5_q41 ?_); unfold F5_q41))
      skip
      refine req_i (by rw [ieq_f hu]; rfl) ?_
      repeat (first | ((with_reducible refine letK_i ?_)))
      exact J9_of (sems_ok (in_i64 _) (Sem.of fun K hk => plain7 .nil ha hb hz hu hk)) (run7 0 a b _)
  · refine ifK_f rfl ?_
    repeat (first | ((with_reducible refine letK_i ?_)) | ((with_reducible refine G5_q23 ?_); unfold F5_q23))
    refine ifK_f rfl ?_
    repeat (first | ((with_reducible refine letK_i ?_)))
    refine ifK_f rfl ?_
    repeat (first | ((with_reducible refine letK_i ?_)) | ((with_reducible refine G5_q22 ?_); unfold F5_q22))
    refine ifK_f rfl ?_
    repeat (first | ((with_reducible refine letK_i ?_)) | ((with_reducible refine G5_q21 ?_); unfold F5_q21))
    refine S5_33 ?_
    unfold F5_33
    refine ifK_f rfl ?_
    repeat (first | ((with_reducible refine letK_i ?_)) | ((with_reducible refine G5_q27 ?_); unfold F5_q27))
    refine ifK_f rfl ?_
    repeat (first | ((with_reducible refine letK_i ?_)))
    refine S5_43 ?_
    unfold F5_43
    refine ifK_f rfl ?_
    repeat (first | ((with_reducible refine letK_i ?_)) | ((with_reducible refine G5_q39 ?_); unfold F5_q39))
    refine ifK_t rfl ?_
    repeat (first | ((with_reducible refine letK_i ?_)))
    exact J9_of (sems_ok (by rw [← iwrap_i8]; exact in_i64 _) (Sem.of fun K hk => plain8 .nil ha hb hk)) (run8 0 a b _)
  · refine ifK_f rfl ?_
    repeat (first | ((with_reducible refine letK_i ?_)) | ((with_reducible refine G5_q23 ?_); unfold F5_q23))
    refine ifK_f rfl ?_
    repeat (first | ((with_reducible refine letK_i ?_)))
    refine ifK_f rfl ?_
    repeat (first | ((with_reducible refine letK_i ?_)) | ((with_reducible refine G5_q22 ?_); unfold F5_q22))
    refine ifK_f rfl ?_
    repeat (first | ((with_reducible refine letK_i ?_)) | ((with_reducible refine G5_q21 ?_); unfold F5_q21))
    refine S5_33 ?_
    unfold F5_33
    refine ifK_f rfl ?_
    repeat (first | ((with_reducible refine letK_i ?_)) | ((with_reducible refine G5_q27 ?_); unfold F5_q27))
    refine ifK_f rfl ?_
    repeat (first | ((with_reducible refine letK_i ?_)))
    refine S5_43 ?_
    unfold F5_43
    refine ifK_f rfl ?_
    repeat (first | ((with_reducible refine letK_i ?_)) | ((with_reducible refine G5_q39 ?_); unfold F5_q39))
    refine ifK_f rfl ?_
    repeat (first | ((with_reducible refine letK_i ?_)))
    refine ifK_t rfl ?_
    repeat (first | ((with_reducible refine letK_i ?_)))
    exact J9_of (sems_ok (by rw [← iwrap_i9]; exact in_i64 _) (Sem.of fun K hk => plain9 .nil ha hb hk)) (run9 0 a b _)
  · refine ifK_f rfl ?_
    repeat (first | ((with_reducible refine letK_i ?_)) | ((with_reducible refine G5_q23 ?_); unfold F5_q23))
    refine ifK_f rfl ?_
    repeat (first | ((with_reducible refine letK_i ?_)))
    refine ifK_f rfl ?_
    repeat (first | ((with_reducible refine letK_i ?_)) | ((with_reducible refine G5_q22 ?_); unfold F5_q22))
    refine ifK_f rfl ?_
    repeat (first | ((with_reducible refine letK_i ?_)) | ((with_reducible refine G5_q21 ?_); unfold F5_q21))
    refine S5_33 ?_
    unfold F5_33
    refine ifK_f rfl ?_
    repeat (first | ((with_reducible refine letK_i ?_)) | ((with_reducible refine G5_q27 ?_); unfold F5_q27))
    refine ifK_f rfl ?_
    repeat (first | ((with_reducible refine letK_i ?_)))
    refine S5_43 ?_
    unfold F5_43
    refine ifK_f rfl ?_
    repeat (first | ((with_reducible refine letK_i ?_)) | ((with_reducible refine G5_q39 ?_); unfold F5_q39))
    refine ifK_f rfl ?_
    repeat (first | ((with_reducible refine letK_i ?_)))
    refine ifK_f rfl ?_
    repeat (first | ((with_reducible refine letK_i ?_)) | ((with_reducible refine G5_q38 ?_); unfold F5_q38))
    refine ifK_t rfl ?_
    repeat (first | ((with_reducible refine letK_i ?_)))
    exact J9_of (sems_ok (by rw [← iwrap_i10]; exact in_i64 _) (Sem.of fun K hk => plain10 .nil ha hb hk)) (run10 0 a b _)
theorem words_walk (a b x2 : Int) (ha : In64 a) (hb : In64 b) (W : World) :
    Calls IrP 5 #[.int .i64 a, .int .i64 b, .int .i64 x2] W fun e W' => e = .returned (.bool true) ∧ Below W.heap.size W W' := by
  refine (words_law ha hb (x2 := x2)).runs W (vs := [.int .i64 a, .int .i64 b, .int .i64 x2]) (.cons rfl (.cons rfl (.cons rfl .nil))) ?_
  rintro v S' cv ρ' W' rfl hv hbel
  have e : cv = .bool true := hv
  exact ⟨by rw [e], hbel⟩
end Go.Xe
