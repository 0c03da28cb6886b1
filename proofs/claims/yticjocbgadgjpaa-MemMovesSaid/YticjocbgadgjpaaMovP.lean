import Derived.Test.YticjocbgadgjpaaXF
import Derived.Test.YticjocbgadgjpaaX24
namespace Go.Xe
set_option maxRecDepth 100000
noncomputable def MemE (k : Nat) : Disp := Disp.add 6 (fun args S K => endL args (K (.one (.s (.bool true))) S)) (MemD k)

theorem new_ok (k : Nat) {S l K} (h : Rep S l) (hk : ∀ S', Rep S' (l ++ [some (.map [] 0), some (.map [] 0), some (.cells [.int .i64 0, .map (.mk (.new l.length)), .map (.mk (.new (l.length + 1)))] false)]) → K (.one (.s (.ptr (.mk (.new (l.length + 2)) 0)))) S') : MemD (k + 1) 7 [] S K := by
  rw [MemD_7]
  unfold F7_0
  have h1 := h.add (.map [] 0)
  have h2 := h1.add (.map [] 0)
  have e1 := h.next
  have e2 := h1.next
  have e3 := h2.next
  simp only [List.length_append, List.length_cons, List.length_nil] at e2 e3
  rw [e1] 
  dsimp only
  rw [e2]
  have h3 := h2.add (.cells [.int .i64 0, .map (.mk (.new l.length)), .map (.mk (.new (l.length + 1)))] false)
  refine hk _ ?_
  simpa using h3

/-- The memory with one block of so many bytes. -/
def MS (l : List (Option AO)) (b : Nat) (n : Int) : Prop := ∃ y z clk st op, l[b]? = some (some (.cells [.int .i64 1, .map (.mk (.new y)), z] op)) ∧ l[y]? = some (some (.map [(.s (.int .i64 1), .agg [.int .i64 n, .sl .nil], st)] clk))
theorem ext {l : List (Option AO)} (m : List (Option AO)) {b : Nat} {x} (e : l[b]? = some x) : (l ++ m)[b]? = some x := by
  rw [List.getElem?_append_left (Rep.len e), e]
theorem MS.ext {l b n} (h : MS l b n) (m) : MS (l ++ m) b n := by
  obtain ⟨y, z, clk, st, op, h1, h2⟩ := h
  exact ⟨y, z, clk, st, op, Xe.ext m h1, Xe.ext m h2⟩
abbrev mp (b : Nat) : AV := .one (.s (.ptr (.mk (.new b) 0)))
abbrev nm (x : Int) : AV := .one (.s (.int .i64 x))
abbrev pt (x : Int) : AV := .one (.agg [.int .i64 2, .int .i64 0, .int .i64 1, .int .i64 x])
abbrev ptS (x : Int) : List SV := [.int .i64 2, .int .i64 0, .int .i64 1, .int .i64 x]

theorem size_ok (k : Nat) {S l K b n} (h : Rep S l) (hm : MS l b n) (hk : K (nm n) S) : MemD (k + 1) 12 [mp b, nm 1] S K := by
  obtain ⟨y, z, clk, st, op, e, e2⟩ := hm
  rw [MemD_12]
  unfold F12_0
  refine optK_i (y := false) rfl (ifK_f rfl ?_)
  refine pvcs_i ?_
  refine h.at e ?_
  refine uncK_i (cM_i ?_)
  refine h.lookup e2 (r := some (0, .agg [.int .i64 n, .sl .nil])) rfl ?_
  exact hk

theorem within_ok (k : Nat) {S l K b n x} (h : Rep S l) (hm : MS l b n) (hn : 0 < n) (hk : ∀ S' m, Rep S' (l ++ m) → K (.one (.s (.bool (decide (0 ≤ x) && decide (x ≤ n))))) S') : MemD (k + 2) 18 [mp b, pt x] S K := by
  rw [MemD_18]
  unfold F18_0
  have hS := h.add (.cells (ptS x) false)
  have hb : (l ++ [some (AO.cells (ptS x) false)])[l.length]? = some (some (.cells (ptS x) false)) := by simp
  have hm' := hm.ext [some (AO.cells (ptS x) false)]
  intro S300
  change Rep S300 _ at hS
  clear_value S300
  rw [h.next]
  refine optK_i (y := false) rfl (ifK_t rfl ?_)
  refine hS.at hb (uncK_i (cI_i (ifK_t rfl ?_)))
  refine hS.at hb (uncK_i (cI_i ?_))
  refine size_ok k hS hm' (scK_i (cI_i (ifK_t ?_ ?_)))
  · rw [ilt_eq]; simpa using hn
  refine hS.at hb (uncK_i (cI_i ?_))
  have hf := hk _ _ hS
  refine ifK_i (fun hc => ?_) (fun hc => ?_)
  · refine hS.at hb (uncK_i (cI_i ?_))
    refine hS.at hb (uncK_i (cI_i ?_))
    refine size_ok k hS hm' (scK_i (cI_i ?_))
    refine hS.at hb (uncK_i (cI_i (req_i ?_ ?_)))
    · simp [sameAV, sameV1, sameSV, ieq_eq]
    · rw [ile_eq] at hc ⊢
      simp only [hc, Bool.true_and] at hf
      exact hf
  · rw [ile_eq] at hc
    simp only [hc, Bool.false_and] at hf
    exact hf
def inn (n x : Int) : Bool := decide (0 ≤ x) && decide (x ≤ n)
/-- The boxes of two values, behind what there is. -/
theorem two {S l} (h : Rep S l) (x y : List SV) : Rep ((S.add (.cells x false)).add (.cells y false)) (l ++ [some (.cells x false), some (.cells y false)]) := by
  have := (h.add (.cells x false)).add (.cells y false)
  simpa using this
theorem at0 (l : List (Option AO)) (x : Option AO) (r m) : (l ++ x :: r ++ m)[l.length]? = some x := by simp
theorem at1 (l : List (Option AO)) (x y : Option AO) (r m) : (l ++ x :: y :: r ++ m)[l.length + 1]? = some y := by simp
theorem at2 (l : List (Option AO)) (x y z : Option AO) (r m) : (l ++ x :: y :: z :: r ++ m)[l.length + 2]? = some z := by simp
theorem nx (l : List (Option AO)) {S} (h : Rep S l) (ao) : (S.add ao).next = l.length + 1 := by show Nat.succ S.next = _; rw [h.next]

theorem beside_ok (k : Nat) {S l K b n x y} (h : Rep S l) (hm : MS l b n) (hn : 0 < n) (hk : ∀ S' m, Rep S' (l ++ m) → K (.one (.s (.bool (inn n x && inn n y)))) S') : MemD (k + 3) 19 [mp b, pt x, pt y] S K := by
  rw [MemD_19]
  unfold F19_0
  have hS := two h (ptS x) (ptS y)
  have hm' := hm.ext [some (.cells (ptS x) false), some (.cells (ptS y) false)]
  have n1 := nx l h (.cells (ptS x) false)
  intro S300 S301
  change Rep S301 _ at hS
  change S300.next = _ at n1
  clear_value S301 S300
  rw [h.next, n1]
  have hS' := hS
  rw [← List.append_nil (l ++ [some (AO.cells (ptS x) false), some (AO.cells (ptS y) false)])] at hS'
  refine hS'.at (at0 _ _ _ _) (uncK_i (cI_i (uncK_i (cI_i (uncK_i (cI_i (uncK_i (cI_i ?_))))))))
  refine within_ok k hS hm' hn fun S1 m1 h1 => scK_i (cB_i ?_)
  refine ifK_i (fun hc => ?_) (fun hc => ?_)
  · refine h1.at (at1 _ _ _ _ _) (uncK_i (cI_i (uncK_i (cI_i (uncK_i (cI_i (uncK_i (cI_i ?_))))))))
    refine within_ok k h1 (hm'.ext m1) hn fun S2 m2 h2 => scK_i (cB_i ?_)
    have h3 := h2
    rw [List.append_assoc, List.append_assoc] at h3
    have hf := hk _ _ h3
    unfold inn at hf
    rw [hc, Bool.true_and] at hf
    rw [List.append_assoc] at h2
    refine ifK_i (fun hd => ?_) (fun hd => ?_)
    · refine h2.at (at0 _ _ _ _) (uncK_i (cI_i ?_))
      refine h2.at (at1 _ _ _ _ _) (uncK_i (cI_i ?_))
      rw [hd] at hf
      exact hf
    · rw [hd] at hf; exact hf
  · have h3 := h1
    rw [List.append_assoc] at h3
    have hf := hk _ _ h3
    unfold inn at hf
    rw [hc, Bool.false_and] at hf
    exact hf

theorem less_ok (k : Nat) {S l K b n x y} (h : Rep S l) (hm : MS l b n) (hn : 0 < n) (hi : inn n x = true) (hj : inn n y = true) (hk : ∀ S' m, Rep S' (l ++ m) → K (.tup [.s (.bool (decide (x < y))), .s (.bool true)]) S') : MemD (k + 4) 15 [mp b, pt x, pt y] S K := by
  rw [MemD_15]
  unfold F15_0
  have hS := two h (ptS x) (ptS y)
  have hm' := hm.ext [some (.cells (ptS x) false), some (.cells (ptS y) false)]
  have n1 := nx l h (.cells (ptS x) false)
  intro S300 S301
  change Rep S301 _ at hS
  change S300.next = _ at n1
  clear_value S301 S300
  rw [h.next, n1]
  have hS' := hS
  rw [← List.append_nil (l ++ [some (AO.cells (ptS x) false), some (AO.cells (ptS y) false)])] at hS'
  refine hS'.at (at0 _ _ _ _) (uncK_i (cI_i (uncK_i (cI_i (uncK_i (cI_i (uncK_i (cI_i ?_))))))))
  refine hS'.at (at1 _ _ _ _ _) (uncK_i (cI_i (uncK_i (cI_i (uncK_i (cI_i (uncK_i (cI_i ?_))))))))
  refine beside_ok k hS hm' hn fun S1 m1 h1 => scK_i (cB_i ?_)
  rw [hi, hj]
  refine ifK_t rfl ?_
  refine h1.at (at0 _ _ _ _) (uncK_i (cI_i ?_))
  refine h1.at (at1 _ _ _ _ _) (uncK_i (cI_i ?_))
  rw [List.append_assoc] at h1
  have hf := hk _ _ h1
  rw [← ilt_eq] at hf
  exact hf
theorem dist_ok (k : Nat) {S l K b n x y} (h : Rep S l) (hm : MS l b n) (hn : 0 < n) (hi : inn n x = true) (hj : inn n y = true) (hk : ∀ S' m, Rep S' (l ++ m) → K (.tup [.s (.int .i64 (iwrap .i64 (x - y))), .s (.bool true)]) S') : MemD (k + 4) 14 [mp b, pt x, pt y] S K := by
  rw [MemD_14]
  unfold F14_0
  have hS := two h (ptS x) (ptS y)
  have hm' := hm.ext [some (.cells (ptS x) false), some (.cells (ptS y) false)]
  have n1 := nx l h (.cells (ptS x) false)
  intro S300 S301
  change Rep S301 _ at hS
  change S300.next = _ at n1
  clear_value S301 S300
  rw [h.next, n1]
  have hS' := hS
  rw [← List.append_nil (l ++ [some (AO.cells (ptS x) false), some (AO.cells (ptS y) false)])] at hS'
  refine hS'.at (at0 _ _ _ _) (uncK_i (cI_i (uncK_i (cI_i (uncK_i (cI_i (uncK_i (cI_i ?_))))))))
  refine hS'.at (at1 _ _ _ _ _) (uncK_i (cI_i (uncK_i (cI_i (uncK_i (cI_i (uncK_i (cI_i ?_))))))))
  refine beside_ok k hS hm' hn fun S1 m1 h1 => scK_i (cB_i ?_)
  rw [hi, hj]
  refine ifK_f rfl ?_
  refine h1.at (at0 _ _ _ _) (uncK_i (cI_i ?_))
  refine h1.at (at1 _ _ _ _ _) (uncK_i (cI_i ?_))
  rw [List.append_assoc] at h1
  exact hk _ _ h1
theorem none_no (k : Nat) {S l K x} (h : Rep S l) (hk : ∀ S' m, Rep S' (l ++ m) → K (.one (.s (.bool false))) S') : MemD (k + 1) 20 [pt x] S K := by
  rw [MemD_20]
  unfold F20_0
  have hS := h.add (.cells (ptS x) false)
  have hb : (l ++ [some (AO.cells (ptS x) false)])[l.length]? = some (some (.cells (ptS x) false)) := by simp
  intro S300
  change Rep S300 _ at hS
  clear_value S300
  rw [h.next]
  refine hS.at hb (uncK_i (cI_i (ifK_t rfl ?_)))
  refine hS.at hb (uncK_i (cI_i (ifK_f rfl ?_)))
  exact hk _ _ hS
end Go.Xe
