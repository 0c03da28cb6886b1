import Derived.Test.YticjocbgadgjpaaMovQ
namespace Go.Xe
set_option maxRecDepth 100000
set_option linter.unusedSimpArgs false
theorem i64_id {x : Int} (h : -9223372036854775808 ≤ x) (h2 : x ≤ 9223372036854775807) : iwrap .i64 x = x := by
  rw [iwrap_eq]; exact wrap_id .i64 x h h2
theorem u64_id {x : Int} (h : 0 ≤ x) (h2 : x ≤ 9223372036854775807) : iwrap .u64 x = x := by
  rw [iwrap_eq]; exact wrap_id .u64 x h (Int.le_trans h2 (by decide))
theorem u64_pos (x : Int) : 0 ≤ iwrap .u64 x := by
  rw [iwrap_eq]; simp [IntKind.wrap, IntKind.bits, IntKind.signed, IntKind.min, IntKind.max]; omega
theorem low_ok (k : Nat) {S K x y} (hy : 0 < y) (hy2 : y ≤ 1000) (hk : ∀ r, 0 ≤ r → r < y → K (nm r) S) : MemD (k + 1) 5 [nm x, nm y] S K := by
  rw [MemD_5]
  unfold F5_0
  have e1 : iwrap .u64 y = y := u64_id (by omega) (by omega)
  have p1 := u64_pos x
  dsimp only
  rw [e1]
  have hne : y ≠ 0 := by omega
  refine req_i (by rw [ieq_eq]; simp [hne]) ?_
  have h1 : 0 ≤ (iwrap .u64 x).tmod y := Int.tmod_nonneg y p1
  have h2 : (iwrap .u64 x).tmod y < y := Int.tmod_lt_of_pos _ hy
  rw [i64_id (by omega) (by omega)]
  exact hk _ h1 h2

theorem add_ok (k : Nat) {S K z} (h : Rep S [some (.map [] 0), some (.map [] 0), some (.cells [.int .i64 0, .map (.mk (.new 0)), .map (.mk (.new 1))] false)]) (hz : 1 ≤ z)
    (hk : ∀ S' l, Rep S' l → MS l 2 z → K (nm 1) S') : MemD (k + 2) 8 [mp 2, nm z, .one (.s (.sl .nil))] S K := by
  rw [MemD_8]
  unfold F8_0
  refine optK_i (y := false) rfl (ifK_f rfl (pvcs_i ?_))
  refine h.at (b := 2) rfl (uncK_i (cI_i ?_))
  intro x311
  have e : x311 = 1 := by show iwrap .i64 (0 + 1) = 1; rfl
  clear_value x311
  subst e
  refine pvcs_i (h.wr (b := 2) rfl rfl fun S1 h1 => ?_)
  have h2 := h1.add (.cells [.int .i64 0, .sl .nil] false)
  intro x316 S317
  change Rep S317 _ at h2
  clear_value S317
  have e : x316 = z := by show imax z 1 = z; unfold imax; rw [ilt_eq]; have : ¬ z < 1 := by omega
                          simp [this]
  clear_value x316
  subst e
  rw [h1.next]
  refine h2.wr (b := 3) rfl rfl fun S2 h3 => ?_
  show J8 _ (k + 1) 8 [mp 2, mp 3, .one (.s (.sl .nil)), nm 0, nm 0] S2 K
  rw [J8_8]
  unfold F8_8
  refine ifK_f rfl (pvcs_i (h3.at (b := 2) rfl (uncK_i (cM_i ?_))))
  refine pvcs_i (h3.at (b := 2) rfl (uncK_i (cI_i ?_)))
  refine pvcs_i (h3.at (b := 3) rfl (uncK_i (cI_i (uncK_i (cL_i ?_)))))
  refine h3.mputNew (b := 0) rfl rfl fun S3 h4 => ?_
  refine pvcs_i (h4.at (b := 2) rfl (uncK_i (cI_i ?_)))
  exact hk _ _ h4 ⟨0, _, _, _, _, rfl, rfl⟩
theorem ineg_i {x : Int} (h : -1000 ≤ x) (h2 : x ≤ 1000) : ineg .i64 x = -x := by
  unfold ineg; rw [i64_id (by omega) (by omega)]; omega

theorem wrap2 (x : Int) (h : -18446744073709551616 ≤ x) (h2 : x < 18446744073709551616) : iwrap .i64 x = x ∨ (9223372036854775808 ≤ x ∧ iwrap .i64 x = x - 18446744073709551616) ∨ (x < -9223372036854775808 ∧ iwrap .i64 x = x + 18446744073709551616) := by
  rw [iwrap_eq]; simp [IntKind.wrap, IntKind.bits, IntKind.signed, IntKind.min, IntKind.max]; omega
theorem moves_eq {n r b : Int} (hn : 1 ≤ n) (hn2 : n ≤ 60) (hr : 0 ≤ r) (hr2 : r ≤ n) (hb : -9223372036854775808 ≤ b) (hb2 : b ≤ 9223372036854775807) : moves n r b = (decide (-r ≤ b) && decide (b ≤ n - r)) := by
  unfold moves inn
  have := wrap2 (r + b) (by omega) (by omega)
  rcases this with e | ⟨h1, e⟩ | ⟨h1, e⟩
  · rw [e, Bool.eq_iff_iff]
    simp only [Bool.and_eq_true, beq_iff_eq, decide_eq_true_eq]
    constructor
    · rintro ⟨h1, h2, h3⟩; omega
    · rintro ⟨h1, h2⟩
      refine ⟨?_, by omega, by omega⟩
      rw [Bool.eq_iff_iff]; simp only [decide_eq_true_eq]; omega
  · rw [e, Bool.eq_iff_iff]
    simp only [Bool.and_eq_true, beq_iff_eq, decide_eq_true_eq]
    constructor
    · rintro ⟨h2, h3, h4⟩; omega
    · rintro ⟨h2, h3⟩; omega
  · omega

theorem MemE_5 (k) (a S K) : MemE k 5 a S K = MemD k 5 a S K := rfl
theorem MemE_7 (k) (a S K) : MemE k 7 a S K = MemD k 7 a S K := rfl
theorem MemE_8 (k) (a S K) : MemE k 8 a S K = MemD k 8 a S K := rfl
theorem MemE_13 (k) (a S K) : MemE k 13 a S K = MemD k 13 a S K := rfl
theorem MemE_14 (k) (a S K) : MemE k 14 a S K = MemD k 14 a S K := rfl
theorem MemE_15 (k) (a S K) : MemE k 15 a S K = MemD k 15 a S K := rfl
theorem MemE_16 (k) (a S K) : MemE k 16 a S K = MemD k 16 a S K := rfl
theorem awake_i {k S} {K : AV → St → Prop} (h : K (.one (.s (.bool true))) S) : MemE k 6 [] S K := h
set_option maxHeartbeats 800000 in
theorem piece15 (k : Nat) {S l n r b p q Q} (h : Rep S l) (hm : MS l 2 n) (hn : 1 ≤ n) (hn2 : n ≤ 60) (hr : 0 ≤ r) (hr2 : r ≤ n) (hb : -9223372036854775808 ≤ b) (hb2 : b ≤ 9223372036854775807)
    (hp : l[p]? = some (some (.cells (ptS r) false))) (hq : l[q]? = some (some (.cells Q false))) (hQ : Q = bif moves n r b then ptS (iwrap .i64 (r + b)) else ze4) (jk : Nat) :
    J4 (MemE (k + 5)) (jk + 1) 15 [nm b, mp 2, nm 1, mp p, mp q, .one (.s (.bool (moves n r b))), .one (.s (.bool false))] S (fun v _ => v = .one (.s (.bool true))) := by
  rw [J4_15]
  unfold F4_15
  refine ifK_f rfl ?_
  cases hmv : moves n r b with
  | false =>
    rw [hmv] at hQ
    simp only [cond_false] at hQ
    subst hQ
    refine ifK_t rfl (pvcs_i (h.at hq (uncK_i (cI_i (uncK_i (cI_i (uncK_i (cI_i (uncK_i (cI_i ?_))))))))))
    refine ifK_t rfl ?_
    exact awake_i (scK_i (cB_i rfl))
  | true =>
    have hme := moves_eq hn hn2 hr hr2 hb hb2
    rw [hmv] at hQ hme
    simp only [cond_true] at hQ
    have hme' : -r ≤ b ∧ b ≤ n - r := by simpa using hme.symm
    rw [i64_id (by omega) (by omega)] at hQ
    subst hQ
    refine ifK_f rfl (pvcs_i (h.at hq (uncK_i (cI_i (uncK_i (cI_i (uncK_i (cI_i (uncK_i (cI_i ?_))))))))))
    intro x390
    have e : x390 = -b := by show ineg .i64 b = _; exact ineg_i (by omega) (by omega)
    clear_value x390
    subst e
    have hn0 : 0 < n := by omega
    have hin : inn n (r + b) = true := by unfold inn; simp; omega
    have hinr : inn n r = true := by unfold inn; simp; omega
    rw [MemE_13]
    refine move_ok (k + 1) h hm hn0 hin fun S1 m1 h1 => ?_
    have hmv2 : moves n (r + b) (-b) = true := by
      rw [moves_eq hn hn2 (by omega) (by omega) (by omega) (by omega)]; simp; omega
    have e2 : iwrap .i64 (r + b + -b) = r := by rw [i64_id (by omega) (by omega)]; omega
    unfold movV
    rw [hmv2, e2]
    refine avT_i (uncV_i (v1A_i (req_i rfl (uncK_i (cI_i (uncK_i (cI_i (uncK_i (cI_i (uncK_i (cI_i (uncV_i (v1S_i (cB_i (endL_i ?_)))))))))))))))
    have hp1 := ext m1 hp
    have hq1 := ext m1 hq
    have hm1 := hm.ext m1
    have h2 := h1.add (.cells ze4 false)
    intro S429
    change Rep S429 _ at h2
    clear_value S429
    rw [h1.next]
    generalize l ++ m1 = l1 at *
    have e0 := at0 l1 (some (.cells ze4 false)) [] []
    rw [List.append_nil] at e0
    refine h2.wr e0 rfl fun S2 h3 => ?_
    rw [List.set_append_right _ _ (by omega)] at h3
    simp only [Nat.sub_self, List.set_cons_zero] at h3
    have ek := at0 l1 (some (.cells (ptS r) false)) [] []
    rw [List.append_nil] at ek
    have hp3 := ext [some (.cells (ptS r) false)] hp1
    have hq3 := ext [some (.cells (ptS r) false)] hq1
    have hm3 := hm1.ext [some (.cells (ptS r) false)]
    have h3' : Rep S2 (l1 ++ [some (.cells (ptS r) false)]) := h3
    clear h3
    generalize l1 ++ [some (AO.cells (ptS r) false)] = l3 at *
    refine pvcs_i (h3'.at hq3 (uncK_i (cI_i (uncK_i (cI_i (uncK_i (cI_i (uncK_i (cI_i ?_)))))))))
    refine pvcs_i (h3'.at hp3 (uncK_i (cI_i (uncK_i (cI_i (uncK_i (cI_i (uncK_i (cI_i ?_)))))))))
    rw [MemE_14]
    refine dist_ok (k + 1) h3' hm3 hn0 hin hinr fun S4 m4 h4 => ?_
    have e4 : iwrap .i64 (r + b - r) = b := by rw [i64_id (by omega) (by omega)]; omega
    rw [e4]
    refine avT_i (uncV_i (v1S_i (cI_i (uncV_i (v1S_i (cB_i (endL_i ?_)))))))
    have hp4 := ext m4 hp3
    have hq4 := ext m4 hq3
    have hm4 := hm3.ext m4
    have ek4 := ext m4 ek
    generalize l3 ++ m4 = l4 at *
    refine pvcs_i (h4.at hp4 (uncK_i (cI_i (uncK_i (cI_i (uncK_i (cI_i (uncK_i (cI_i ?_)))))))))
    refine pvcs_i (h4.at hq4 (uncK_i (cI_i (uncK_i (cI_i (uncK_i (cI_i (uncK_i (cI_i ?_)))))))))
    rw [MemE_15]
    refine less_ok (k + 1) h4 hm4 hn0 hinr hin fun S5 m5 h5 => ?_
    refine avT_i (uncV_i (v1S_i (cB_i (uncV_i (v1S_i (cB_i (endL_i ?_)))))))
    have hp5 := ext m5 hp4
    have hq5 := ext m5 hq4
    have ek5 := ext m5 ek4
    generalize l4 ++ m5 = l5 at *
    refine pvcs_i (h5.at hp5 (uncK_i (cI_i (uncK_i (cI_i (uncK_i (cI_i (uncK_i (cI_i ?_)))))))))
    refine pvcs_i (h5.at hq5 (uncK_i (cI_i (uncK_i (cI_i (uncK_i (cI_i (uncK_i (cI_i ?_)))))))))
    rw [MemE_16]
    refine equal_ok (k + 2) h5 fun S6 m6 h6 => ?_
    refine avT_i (uncV_i (v1S_i (cB_i (uncV_i (v1S_i (cB_i (endL_i ?_)))))))
    have hp6 := ext m6 hp5
    have hq6 := ext m6 hq5
    have ek6 := ext m6 ek5
    generalize l5 ++ m6 = l6 at *
    refine ifK_t rfl (ifK_t rfl (ifK_t rfl (ifK_t rfl ?_)))
    refine h6.at ek6 (uncK_i (cI_i (uncK_i (cI_i (uncK_i (cI_i (uncK_i (cI_i ?_))))))))
    refine pvcs_i (h6.at hp6 (uncK_i (cI_i (uncK_i (cI_i (uncK_i (cI_i (uncK_i (cI_i ?_)))))))))
    refine ifK_t (by simp [ieq_eq]) (ifK_t (by simp [ieq_eq]) ?_)
    refine ifK_t (by rw [ilt_eq, beq_iff_eq, Bool.eq_iff_iff, decide_eq_true_eq, decide_eq_true_eq]; omega) ?_
    refine ifK_t (by rw [ieq_eq, ieq_eq, beq_iff_eq, Bool.eq_iff_iff, beq_iff_eq, beq_iff_eq]; omega) ?_
    refine pvcs_i (h6.at hq6 (uncK_i (cI_i (ifK_t rfl ?_))))
    exact awake_i (scK_i (cB_i rfl))
end Go.Xe
