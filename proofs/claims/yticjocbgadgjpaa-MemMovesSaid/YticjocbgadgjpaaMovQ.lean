import Derived.Test.YticjocbgadgjpaaMovP
namespace Go.Xe
set_option maxRecDepth 100000
theorem equal_ok (k : Nat) {S l K b x y} (h : Rep S l) (hk : ∀ S' m, Rep S' (l ++ m) → K (.tup [.s (.bool (ieq x y)), .s (.bool true)]) S') : MemD (k + 3) 16 [mp b, pt x, pt y] S K := by
  rw [MemD_16]
  unfold F16_0
  have hS := two h (ptS x) (ptS y)
  have n1 := nx l h (.cells (ptS x) false)
  intro S300 S301
  change Rep S301 _ at hS
  change S300.next = _ at n1
  clear_value S301 S300
  rw [h.next, n1]
  have hS' := hS
  rw [← List.append_nil (l ++ [some (AO.cells (ptS x) false), some (AO.cells (ptS y) false)])] at hS'
  refine optK_i (y := false) rfl (ifK_f rfl ?_)
  refine hS'.at (at0 _ _ _ _) (uncK_i (cI_i (uncK_i (cI_i (uncK_i (cI_i (uncK_i (cI_i ?_))))))))
  refine none_no (k + 1) hS fun S1 m1 h1 => scK_i (cB_i (ifK_f rfl ?_))
  refine h1.at (at1 _ _ _ _ _) (uncK_i (cI_i (uncK_i (cI_i (uncK_i (cI_i (uncK_i (cI_i ?_))))))))
  refine none_no (k + 1) h1 fun S2 m2 h2 => scK_i (cB_i (ifK_f rfl ?_))
  rw [List.append_assoc _ m1 m2] at h2
  rw [J16_6]
  unfold F16_6
  refine ifK_f rfl (pvcs_i (h2.at (at0 _ _ _ _) (uncK_i (cI_i (pvcs_i (h2.at (at1 _ _ _ _ _) (uncK_i (cI_i ?_))))))))
  refine ifK_f rfl (pvcs_i (h2.at (at0 _ _ _ _) (uncK_i (cI_i (ifK_f rfl (pvcs_i (h2.at (at0 _ _ _ _) (uncK_i (cI_i ?_)))))))))
  rw [J16_9]
  unfold F16_9
  refine ifK_f rfl (pvcs_i (h2.at (at0 _ _ _ _) (uncK_i (cI_i (ifK_f rfl ?_)))))
  refine pvcs_i (h2.at (at0 _ _ _ _) (uncK_i (cI_i (pvcs_i (h2.at (at1 _ _ _ _ _) (uncK_i (cI_i (ifK_t rfl ?_))))))))
  refine pvcs_i (h2.at (at0 _ _ _ _) (uncK_i (cI_i (pvcs_i (h2.at (at1 _ _ _ _ _) (uncK_i (cI_i ?_)))))))
  rw [List.append_assoc] at h2
  exact hk _ _ h2

theorem set2 (l : List (Option AO)) (x y z w : Option AO) (m) : (l ++ x :: y :: z :: m).set (l.length + 2) w = l ++ x :: y :: w :: m := by
  rw [List.set_append_right _ _ (by omega)]; simp
theorem set1 (l : List (Option AO)) (x y w : Option AO) (m) : (l ++ x :: y :: m).set (l.length + 1) w = l ++ x :: w :: m := by
  rw [List.set_append_right _ _ (by omega)]; simp
abbrev ze4 : List SV := [.int .i64 0, .int .i64 0, .int .i64 0, .int .i64 0]
def moves (n x by_ : Int) : Bool := (decide (iwrap .i64 (x + by_) < x) == decide (by_ < 0)) && inn n (iwrap .i64 (x + by_))
abbrev movV (n x by_ : Int) : AV := bif moves n x by_ then .tup [.agg (ptS (iwrap .i64 (x + by_))), .s (.bool true)] else .tup [.agg ze4, .s (.bool false)]

theorem piece3 (D : Disp) (k : Nat) {S l K x y t m} (c : Bool) (h : Rep S (l ++ some (.cells x false) :: some (.cells y false) :: some (.cells (ptS t) false) :: m)) (hy : y = ze4)
    (hk : ∀ S' m, Rep S' (l ++ m) → K (bif c then .tup [.agg ze4, .s (.bool false)] else .tup [.agg (ptS t), .s (.bool true)]) S') : J13 D (k + 1) 3 [mp (l.length + 1), mp (l.length + 2), .one (.s (.bool c))] S K := by
  subst hy
  rw [J13_3]
  unfold F13_3
  cases c with
  | true =>
    refine ifK_t rfl (pvcs_i ?_)
    have e1 := at1 l (some (.cells x false)) (some (.cells ze4 false)) (some (.cells (ptS t) false) :: m) []
    rw [List.append_nil] at e1
    refine h.wr e1 rfl fun S1 h1 => ?_
    rw [set1] at h1
    have e2 := at1 l (some (.cells x false)) (some (.cells ze4 false)) (some (.cells (ptS t) false) :: m) []
    rw [List.append_nil] at e2
    refine pvcs_i (h1.at e2 (uncK_i (cI_i (uncK_i (cI_i (uncK_i (cI_i (uncK_i (cI_i ?_)))))))))
    exact hk _ _ h1
  | false =>
    refine ifK_f rfl (pvcs_i ?_)
    have e1 := at1 l (some (.cells x false)) (some (.cells ze4 false)) (some (.cells (ptS t) false) :: m) []
    have e3 := at2 l (some (.cells x false)) (some (.cells ze4 false)) (some (.cells (ptS t) false)) m []
    rw [List.append_nil] at e1 e3
    refine h.at e3 (uncK_i (cI_i (uncK_i (cI_i (uncK_i (cI_i (uncK_i (cI_i ?_))))))))
    refine pvcs_i ?_
    refine h.wr e1 rfl fun S1 h1 => ?_
    rw [set1] at h1
    have e2 := at1 l (some (.cells x false)) (some (.cells (ptS t) false)) (some (.cells (ptS t) false) :: m) []
    rw [List.append_nil] at e2
    refine pvcs_i (h1.at e2 (uncK_i (cI_i (uncK_i (cI_i (uncK_i (cI_i (uncK_i (cI_i ?_)))))))))
    exact hk _ _ h1

theorem three {S l} (h : Rep S l) (x y z : List SV) : Rep (((S.add (.cells x false)).add (.cells y false)).add (.cells z false)) (l ++ [some (.cells x false), some (.cells y false), some (.cells z false)]) := by
  have := ((h.add (.cells x false)).add (.cells y false)).add (.cells z false)
  simpa using this
theorem move_ok (k : Nat) {S l K b n x by_} (h : Rep S l) (hm : MS l b n) (hn : 0 < n) (hi : inn n x = true) (hk : ∀ S' m, Rep S' (l ++ m) → K (movV n x by_) S') : MemD (k + 4) 13 [mp b, pt x, nm by_] S K := by
  rw [MemD_13]
  unfold F13_0
  have hS2 := two h (ptS x) ze4
  have n1 := nx l h (.cells (ptS x) false)
  have n2 : ((S.add (.cells (ptS x) false)).add (.cells ze4 false)).next = l.length + 2 := by rw [hS2.next]; simp
  have hS3 := three h (ptS x) ze4 ze4
  intro S300 S301
  have e0 := at0 l (some (.cells (ptS x) false)) [some (.cells ze4 false)] []
  rw [List.append_nil] at e0
  rw [h.next]
  refine hS2.at e0 (uncK_i (cI_i (hS2.at e0 (uncK_i (cI_i ?_)))))
  intro x316 S317
  have e2 := at2 l (some (.cells (ptS x) false)) (some (.cells ze4 false)) (some (.cells ze4 false)) [] []
  rw [List.append_nil] at e2
  change S300.next = _ at n1
  change S301.next = _ at n2
  rw [n1, n2]
  refine hS3.wr e2 rfl fun S318 h318 => ?_
  rw [set2] at h318
  clear_value S317 S301 S300
  have e0' := at0 l (some (.cells (ptS x) false)) [some (.cells ze4 false), some (.cells (ptS x316) false)] []
  rw [List.append_nil] at e0'
  have hm3 := hm.ext [some (.cells (ptS x) false), some (.cells ze4 false), some (.cells (ptS x316) false)]
  refine h318.at e0' (uncK_i (cI_i (uncK_i (cI_i (uncK_i (cI_i (uncK_i (cI_i ?_))))))))
  refine within_ok (k + 1) h318 hm3 hn fun S1 m1 h1 => scK_i (cB_i ?_)
  rw [show (decide (0 ≤ x) && decide (x ≤ n)) = true from hi]
  refine ifK_f rfl ?_
  refine h1.at (at2 _ _ _ _ _ _) (uncK_i (cI_i (h1.at (at0 _ _ _ _) (uncK_i (cI_i ?_)))))
  have hx : x316 = iwrap .i64 (x + by_) := rfl
  clear_value x316
  have hk' : ∀ S' m, Rep S' (l ++ m) → K (bif !moves n x by_ then .tup [.agg ze4, .s (.bool false)] else .tup [.agg (ptS x316), .s (.bool true)]) S' := by
    intro S' m hh
    have := hk S' m hh
    unfold movV at this
    rw [hx]
    cases hmv : moves n x by_ <;> simpa [hmv] using this
  unfold moves at hk'
  rw [← hx, ← ilt_eq, ← ilt_eq] at hk'
  have h1' := h1
  rw [List.append_assoc] at h1'
  refine ifK_i (fun hc => ?_) (fun hc => ?_)
  · refine piece3 _ (k + 2) true h1' rfl fun S' m hh => ?_
    have := hk' S' m hh
    have hc' : (ilt x316 x == ilt by_ 0) = false := by simpa using hc
    rw [hc'] at this
    exact this
  · have hc' : (ilt x316 x == ilt by_ 0) = true := by simpa using hc
    rw [hc'] at hk'
    refine h1.at (at2 _ _ _ _ _ _) (uncK_i (cI_i (uncK_i (cI_i (uncK_i (cI_i (uncK_i (cI_i ?_))))))))
    refine within_ok (k + 1) h1 (hm3.ext m1) hn fun S2 m2 h2 => scK_i (cB_i ?_)
    rw [List.append_assoc, List.append_assoc] at h2
    exact piece3 _ (k + 2) _ h2 rfl hk'
end Go.Xe
