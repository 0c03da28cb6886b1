/- The plain statement of the law MovesOrder. -/
import Derived.Test.YtodnbclphjgofaaMovDone
namespace Go.Proofs.Ytodnbclphjgofaa.PMov
open Go Go.RowKit Go.Proofs.YtodnbclphjgofaaW.PrintWords Go.Proofs.YtodnbclphjgofaaW.PrintMore
set_option linter.unusedVariables false
set_option linter.unusedSimpArgs false
theorem awake_ev : Ev (fun k => spokeshavelaw21_awake.f k) true := ⟨10, awake_ge⟩
theorem mayL_true : ∀ (l : List S32) (s : List Int), mayL l s = true → (∀ m ∈ l, 0 ≤ m.f0 ∧ 0 ≤ m.f1 ∧ m.f0 ∉ s) ∧ (l.map S32.f0).Nodup
 | [], _, _ => ⟨by simp, List.nodup_nil⟩
 | m :: r, s, h => by
  rw [mayL] at h
  split at h
  · cases h
  split at h
  · cases h
  split at h
  · cases h
  rename_i h0 h1 h2
  obtain ⟨a, b⟩ := mayL_true r _ h
  refine ⟨fun z hz => ?_, ?_⟩
  · rcases List.mem_cons.1 hz with rfl | hz'
    · exact ⟨by omega, by omega, by simpa using h2⟩
    · obtain ⟨x, y, w⟩ := a z hz'
      exact ⟨x, y, fun hm => w (List.mem_cons_of_mem _ hm)⟩
  · rw [List.map_cons, List.nodup_cons]
    refine ⟨fun hm => ?_, b⟩
    obtain ⟨z, hz, e⟩ := List.mem_map.1 hm
    exact (a z hz).2.2 (by rw [e]; exact List.mem_cons_self ..)
section
variable (l : List S32) (sp : Int) (hl : l.length ≤ 80)
include hl
/-! the loops of the law, from behind -/
theorem l4_ev (H : List S36) (hH : H.length < 1000) (i : Nat) (hi : i < H.length) (r : Bool) (hnext : Ev (fun k => spokeshavelaw21_MovesOrder.l3 k sp (l.map cv) H ((i + 1 : Nat) : Int)) r) :
  ∀ e (j : Nat) (b : Bool), l.length - j = e → j ≤ l.length → (b = true ∨ ∃ m ∈ l.drop j, m.f0 = H[i].f0) → Ev (fun k => spokeshavelaw21_MovesOrder.l4 k sp (l.map cv) H (i : Int) b (j : Int)) r := by
 have hln : (l.map cv).length = l.length := List.length_map ..
 have hrd : ∀ (i : Nat) (h : i < l.length), rd_T36 (l.map cv) (i : Int) = cv l[i] := fun i h => by rw [rd36 _ i (by omega), List.getElem_map]
 have wi := w1 i (by omega)
 intro e
 induction e with
 | zero =>
  intro j b he hj hb
  obtain rfl : j = l.length := by omega
  have hb' : b = true := by
   rcases hb with h | ⟨m, hm, _⟩
   · exact h
   · simp at hm
  refine Ev.step ?_
  simp only [spokeshavelaw21_MovesOrder.l4, hln, if_neg (Int.lt_irrefl _), if_pos hb', wi]
  exact hnext
 | succ e ih =>
  intro j b he hj hb
  have hjl : j < l.length := by omega
  have wj := w1 j (by omega)
  refine Ev.step ?_
  by_cases c : b = true
  · simp only [spokeshavelaw21_MovesOrder.l4, hln, if_pos (show (j : Int) < (l.length : Int) by omega), if_pos c, wj]
    exact ih (j + 1) true (by omega) (by omega) (.inl rfl)
  · simp only [spokeshavelaw21_MovesOrder.l4, hln, if_pos (show (j : Int) < (l.length : Int) by omega), if_neg c, wj, if_pos (show (0 : Int) ≤ (j : Int) by omega), if_pos (show (0 : Int) ≤ (i : Int) by omega), if_pos (show (i : Int) < (H.length : Int) by omega), rd36 H i hi, hrd j hjl]
    refine ih (j + 1) _ (by omega) (by omega) ?_
    rcases hb with h | ⟨m, hm, e⟩
    · exact absurd h c
    · rw [List.drop_eq_getElem_cons hjl] at hm
      rcases List.mem_cons.1 hm with rfl | hm'
      · exact .inl (by simpa [cv] using e)
      · exact .inr ⟨m, hm', e⟩
theorem l3_ev (H : List S36) (hH : H.length < 1000) (hk : ∀ h ∈ H, h.f0 = sp ∨ ∃ m ∈ l, m.f0 = h.f0) :
  ∀ e (i : Nat), H.length - i = e → i ≤ H.length → Ev (fun k => spokeshavelaw21_MovesOrder.l3 k sp (l.map cv) H (i : Int)) true := by
 intro e
 induction e with
 | zero =>
  intro i he hi
  obtain rfl : i = H.length := by omega
  refine Ev.step ?_
  simp only [spokeshavelaw21_MovesOrder.l3, if_neg (Int.lt_irrefl _)]
  exact Ev.bind awake_ev (Ev.ret _)
 | succ e ih =>
  intro i he hi
  have hil : i < H.length := by omega
  have hnx := ih (i + 1) (by omega) (by omega)
  refine Ev.step ?_
  simp only [spokeshavelaw21_MovesOrder.l3, if_pos (show (i : Int) < (H.length : Int) by omega), if_pos (show (0 : Int) ≤ (i : Int) by omega), rd36 H i hil]
  by_cases c : H[i].f0 = sp
  · simp only [if_pos c]
    refine Ev.step ?_
    simp only [spokeshavelaw21_MovesOrder.j6]
    exact l4_ev l sp hl H hH i hil true hnx l.length 0 true (by omega) (by omega) (.inl rfl)
  · simp only [if_neg c]
    refine Ev.step ?_
    simp only [spokeshavelaw21_MovesOrder.j6]
    refine l4_ev l sp hl H hH i hil true hnx l.length 0 _ (by omega) (by omega) (.inr ?_)
    rw [List.drop_zero]
    rcases hk H[i] (List.getElem_mem hil) with h | h
    · exact absurd h c
    · exact h
theorem l2_ev (H : List S36) (hH : H.length < 1000) (hk : ∀ h ∈ H, h.f0 = sp ∨ ∃ m ∈ l, m.f0 = h.f0) (hr : ∀ m ∈ l, hasL H m.f0 = m.f1) :
  ∀ e (i : Nat), l.length - i = e → i ≤ l.length → Ev (fun k => spokeshavelaw21_MovesOrder.l2 k sp (l.map cv) H (i : Int)) true := by
 have hln : (l.map cv).length = l.length := List.length_map ..
 have hrd : ∀ (i : Nat) (h : i < l.length), rd_T36 (l.map cv) (i : Int) = cv l[i] := fun i h => by rw [rd36 _ i (by omega), List.getElem_map]
 intro e
 induction e with
 | zero =>
  intro i he hi
  obtain rfl : i = l.length := by omega
  refine Ev.step ?_
  simp only [spokeshavelaw21_MovesOrder.l2, hln, if_neg (Int.lt_irrefl _)]
  exact l3_ev l sp hl H hH hk H.length 0 (by omega) (by omega)
 | succ e ih =>
  intro i he hi
  have hil : i < l.length := by omega
  refine Ev.step ?_
  simp only [spokeshavelaw21_MovesOrder.l2, hln, if_pos (show (i : Int) < (l.length : Int) by omega), if_pos (show (0 : Int) ≤ (i : Int) by omega), hrd i hil, w1 i (by omega)]
  refine Ev.bind (has_ev H _ (by omega)) ?_
  simp only [if_pos (show hasL H (cv l[i]).f0 = (cv l[i]).f1 from hr l[i] (List.getElem_mem hil))]
  exact ih (i + 1) (by omega) (by omega)
theorem l1_ev (out : List S32) (ho : out.length < 1000) (hne : ∀ m ∈ out, m.f0 ≠ m.f1) (hk : ∀ h ∈ doneL (out.map cv) [], h.f0 = sp ∨ ∃ m ∈ l, m.f0 = h.f0) (hr : ∀ m ∈ l, hasL (doneL (out.map cv) []) m.f0 = m.f1) :
  ∀ e (i : Nat), out.length - i = e → i ≤ out.length → Ev (fun k => spokeshavelaw21_MovesOrder.l1 k sp out (l.map cv) (i : Int)) true := by
 have hH : (doneL (out.map cv) []).length < 1000 := by
  have := doneL_len (out.map cv) []
  rw [List.length_map] at this
  simp only [List.length_nil] at this
  omega
 intro e
 induction e with
 | zero =>
  intro i he hi
  obtain rfl : i = out.length := by omega
  refine Ev.step ?_
  simp only [spokeshavelaw21_MovesOrder.l1, if_neg (Int.lt_irrefl _)]
  refine Ev.bind (of_ev out (by omega)) (Ev.bind (done_ev (out.map cv) (by rw [List.length_map]; omega)) ?_)
  exact l2_ev l sp hl _ hH hk hr l.length 0 (by omega) (by omega)
 | succ e ih =>
  intro i he hi
  have hil : i < out.length := by omega
  refine Ev.step ?_
  simp only [spokeshavelaw21_MovesOrder.l1, if_pos (show (i : Int) < (out.length : Int) by omega), if_pos (show (0 : Int) ≤ (i : Int) by omega), rd32 out i hil, w1 i (by omega), if_neg (hne out[i] (List.getElem_mem hil))]
  exact ih (i + 1) (by omega) (by omega)
/-- What was handed in is as it was; then what stands behind. -/
theorem l0_ev (out : List S32) (ok : Bool) (hn : Ev (fun k => spokeshavelaw21_MovesOrder.l0 k l sp l out ok (l.map cv) (l.length : Int)) true) :
  ∀ e (i : Nat), l.length - i = e → i ≤ l.length → Ev (fun k => spokeshavelaw21_MovesOrder.l0 k l sp l out ok (l.map cv) (i : Int)) true := by
 intro e
 induction e with
 | zero =>
  intro i he hi
  obtain rfl : i = l.length := by omega
  exact hn
 | succ e ih =>
  intro i he hi
  have hil : i < l.length := by omega
  refine Ev.step ?_
  have : (!((rd_T32 l (i : Int)).f0 == (rd_T32 l (i : Int)).f0) || !((rd_T32 l (i : Int)).f1 == (rd_T32 l (i : Int)).f1)) = false := by simp
  simp only [spokeshavelaw21_MovesOrder.l0, if_pos (show (i : Int) < (l.length : Int) by omega), if_pos (show (0 : Int) ≤ (i : Int) by omega), this, w1 i (by omega), Bool.false_eq_true, if_false]
  exact ih (i + 1) (by omega) (by omega)
end
theorem order_ev (l : List S32) (sp : Int) (hin : (l.all fun m => inI m.f0) = true) : ∃ k, spokeshavelaw21_MovesOrder.f k l sp = some true := by
 suffices h : Ev (fun k => spokeshavelaw21_MovesOrder.f k l sp) true from h.elim fun K h => ⟨K, h K (Nat.le_refl _)⟩
 unfold spokeshavelaw21_MovesOrder.f
 by_cases h80 : (l.length : Int) > 80
 · simp only [if_pos h80]
   exact Ev.bind awake_ev (Ev.ret _)
 have hl : l.length ≤ 80 := by omega
 have hb : ([] : List S32).length + l.length < 8796093022208 := by simp; omega
 simp only [if_neg h80, if_pos hb, Option.bind_some, List.nil_append]
 have hmay : ∀ k, Mov.moves_May.f k l = some (mayL l [] && decide (l.length ≤ 64)) := fun k => by
  unfold Mov.moves_May.f
  rw [if_pos]
  simp only [Bool.and_eq_true, decide_eq_true_eq]
  exact ⟨by omega, hin⟩
 generalize hB : (mayL l [] && decide (l.length ≤ 64)) = B at hmay
 have hmev : Ev (fun k => spokeshaveref21_May.f k (l.map cv)) B := hB ▸ may_ev l (by omega)
 have hfev := free_ev l sp (by omega)
 -- where there is no order
 have bad : Ev (fun k => spokeshavelaw21_MovesOrder.j0 k l sp l [] false (l.map cv) false) true := by
  refine Ev.step ?_
  simp only [spokeshavelaw21_MovesOrder.j0, Bool.false_eq_true, if_false]
  refine l0_ev l sp hl [] false ?_ l.length 0 (by omega) (by omega)
  refine Ev.step ?_
  simp only [spokeshavelaw21_MovesOrder.l0, if_neg (Int.lt_irrefl _), Bool.false_eq_true, if_false, List.length_nil, Int.natCast_zero, if_true]
  exact Ev.bind awake_ev (Ev.ret _)
 by_cases hBt : B = false
 · refine Ev.bind (a := ([], false)) ⟨0, fun k _ => ?_⟩ ?_
   · show Mov.moves_Order.f k l sp = _
     unfold Mov.moves_Order.f
     rw [hmay, Option.bind_some, if_pos hBt]
   refine Ev.bind (of_ev l (by omega)) (Ev.bind hmev ?_)
   simp only [hmay, Option.bind_some, bne_self_eq_false, Bool.false_eq_true, if_false, hBt]
   exact bad
 have hBt' : B = true := by simpa using hBt
 have hF : (!(l.any (hits sp)) && decide (0 ≤ sp)) = false → Ev (fun k => Mov.moves_Order.f k l sp) ([], false) := fun hf => by
  refine ⟨0, fun k _ => ?_⟩
  show Mov.moves_Order.f k l sp = _
  unfold Mov.moves_Order.f
  rw [hmay, Option.bind_some, if_neg hBt]
  by_cases h0 : sp < 0
  · rw [if_pos h0]
  · rw [if_neg h0]
    unfold orderTail
    have hh : l.any (hits sp) = true := by
     simp only [Bool.and_eq_false_iff, Bool.not_eq_false', decide_eq_false_iff_not] at hf
     rcases hf with h | h
     · exact h
     · exact absurd (by omega) h
    rw [if_pos hh]
 by_cases hfr : (!(l.any (hits sp)) && decide (0 ≤ sp)) = false
 · refine Ev.bind (hF hfr) (Ev.bind (of_ev l (by omega)) (Ev.bind hmev ?_))
   simp only [hmay, Option.bind_some, bne_self_eq_false, Bool.false_eq_true, if_false, hBt', if_true]
   refine Ev.bind hfev ?_
   simp only [hfr, bne_self_eq_false]
   exact bad
 have hfr' : (!(l.any (hits sp)) && decide (0 ≤ sp)) = true := by simpa using hfr
 have hff := hfr'
 rw [Bool.and_eq_true] at hff
 have hno : l.any (hits sp) = false := by simpa using hff.1
 have hsp : 0 ≤ sp := by simpa using hff.2
 rw [hBt', Bool.and_eq_true] at hB
 obtain ⟨hel, hnd⟩ := mayL_true _ _ hB.1
 have h64 : l.length ≤ 64 := by simpa using hB.2
 have hok : Okay (l.filter moving) sp := by
  refine ⟨List.Nodup.sublist (List.filter_sublist.map _) hnd, fun m hm => ?_, hsp⟩
  obtain ⟨hm1, hm2⟩ := List.mem_filter.1 hm
  rw [List.any_eq_false] at hno
  have := hno m hm1
  unfold hits at this
  unfold moving at hm2
  simp only [Bool.or_eq_true, beq_iff_eq, not_or] at this
  exact ⟨(hel m hm1).1, (hel m hm1).2.1, by simpa using hm2, this.1⟩
 have hfl : (l.filter moving).length ≤ l.length := List.length_filter_le ..
 have hrg : rings (l.filter moving) ≤ (l.filter moving).length := List.countP_le_length
 obtain ⟨out, ho1, ho2, ho3, ho4, ho5⟩ := orderL_spec sp ((l.filter moving).length + rings (l.filter moving)) (l.filter moving) [] hok (Nat.le_refl _) (by simp only [List.length_nil]; omega)
 have hord : Ev (fun k => Mov.moves_Order.f k l sp) (out, true) := by
  refine ⟨(l.filter moving).length + rings (l.filter moving) + 1, fun k hk => ?_⟩
  show Mov.moves_Order.f k l sp = _
  unfold Mov.moves_Order.f
  rw [hmay, Option.bind_some, if_neg hBt, if_neg (by omega)]
  unfold orderTail
  rw [if_neg (by rw [hno]; decide), ho1 k (by omega)]
  rfl
 obtain ⟨n, hn1, hn2⟩ := least_ev l hl (fun m hm => (hel m hm).1) hnd
 refine Ev.bind hord (Ev.bind (of_ev l (by omega)) (Ev.bind hmev ?_))
 simp only [hmay, Option.bind_some, bne_self_eq_false, Bool.false_eq_true, if_false, hBt', if_true]
 refine Ev.bind hfev ?_
 simp only [hfr', bne_self_eq_false]
 refine Ev.step ?_
 simp only [spokeshavelaw21_MovesOrder.j0, Bool.false_eq_true, if_false]
 refine l0_ev l sp hl out true ?_ l.length 0 (by omega) (by omega)
 refine Ev.step ?_
 simp only [spokeshavelaw21_MovesOrder.l0, if_neg (Int.lt_irrefl _), if_true, if_neg (show ¬ (out.length : Int) > 200 by omega)]
 refine Ev.bind hn1 ?_
 have hdec : decide ((out.length : Int) > (n : Int)) = false := decide_eq_false (by omega)
 simp only [hdec]
 refine Ev.step ?_
 simp only [spokeshavelaw21_MovesOrder.j2, Bool.false_eq_true, if_false]
 have hrun : ∀ q, hasL (doneL (out.map cv) []) q = run (fun q => q) out q := fun q => by rw [doneL_run]; rfl
 refine l1_ev l sp hl out (by omega) ho3 ?_ ?_ out.length 0 (by omega) (by omega)
 · intro h hh
   rcases doneL_f0 out [] hh with ⟨m, hm, e⟩ | ⟨z, hz, _⟩
   · rcases ho4 m hm with e2 | ⟨z, hz, e2⟩
     · exact .inl (by rw [← e, e2])
     · exact .inr ⟨z, (List.mem_filter.1 hz).1, by rw [e2, e]⟩
   · simp at hz
 · intro m hm
   rw [hrun]
   by_cases c : m.f0 = m.f1
   · rw [run_other]
     · exact c
     · intro z hz e
       rcases ho4 z hz with e2 | ⟨y, hy, e2⟩
       · rw [List.any_eq_false] at hno
         have := hno m hm
         unfold hits at this
         rw [← e, e2] at this
         simp at this
       · have hy' := List.mem_filter.1 hy
         have := nodup_map_inj hnd hy'.1 hm (by rw [e2, e])
         rw [this] at hy'
         have h2 := hy'.2
         unfold moving at h2
         simp [c] at h2
   · exact ho5 _ m (List.mem_filter.2 ⟨hm, by simp [moving, c]⟩)
end Go.Proofs.Ytodnbclphjgofaa.PMov
