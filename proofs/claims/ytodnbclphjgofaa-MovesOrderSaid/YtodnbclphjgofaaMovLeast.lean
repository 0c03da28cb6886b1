/- the document's Least: at least as many as moves and rings. -/
import Derived.Test.YtodnbclphjgofaaMovRefA
namespace Go.Proofs.Ytodnbclphjgofaa.PMov
open Go Go.RowKit Go.Proofs.YtodnbclphjgofaaW.PrintWords Go.Proofs.YtodnbclphjgofaaW.PrintMore
set_option linter.unusedVariables false
set_option linter.unusedSimpArgs false
/-! ### from, Least -/
theorem w2 (i : Nat) (h : i < 1000) : wrap64 (((i + 1 : Nat) : Int) + 1) = ((i + 2 : Nat) : Int) := by
 obtain ⟨j, rfl⟩ : ∃ j, j = i + 1 := ⟨_, rfl⟩
 exact w1 (i + 1) (by omega)
theorem fr_moving (l : List S32) (p : Int) : fr (l.filter moving) p = fr l p := by
 unfold fr
 rw [List.find?_filter]
 have : (fun m : S32 => decide (moving m = true ∧ (m.f0 == p && m.f1 != p) = true)) = fun m => m.f0 == p && m.f1 != p := by
  funext m
  rw [Bool.eq_iff_iff]
  simp only [decide_eq_true_eq, Bool.and_eq_true, beq_iff_eq, bne_iff_ne, moving]
  constructor
  · exact fun h => h.2
  · exact fun h => ⟨by rw [h.1]; exact Ne.symm h.2, h⟩
 rw [this]
theorem from_ev (l : List S32) (p : Int) (hl : l.length < 8796093022208) : Ev (fun k => spokeshaveref21_from.f k (l.map cv) p) (fr l p) := by
 have hln : (l.map cv).length = l.length := List.length_map ..
 have hrd : ∀ (i : Nat) (h : i < l.length), rd_T36 (l.map cv) (i : Int) = cv l[i] := fun i h => by rw [rd36 _ i (by omega), List.getElem_map]
 have main : ∀ d i, l.length - i = d → i ≤ l.length → Ev (fun k => spokeshaveref21_from.l0 k (l.map cv) p (i : Int)) (fr (l.drop i) p) := by
  intro d
  induction d with
  | zero =>
   intro i hd hi
   refine Ev.step ?_
   have : i = l.length := by omega
   subst this
   simp only [spokeshaveref21_from.l0, hln, if_neg (Int.lt_irrefl _), List.drop_length]
   exact Ev.ret _
  | succ d ih =>
   intro i hd hi
   have hlt : i < l.length := by omega
   refine Ev.step ?_
   rw [List.drop_eq_getElem_cons hlt]
   simp only [spokeshaveref21_from.l0, hln, if_pos (show (i : Int) < (l.length : Int) by omega), if_pos (show (0 : Int) ≤ (i : Int) by omega), hrd i hlt, w1 i (by omega)]
   have hrec := ih (i + 1) (by omega) (by omega)
   by_cases c0 : l[i].f0 = p
   · simp only [if_pos (show (cv l[i]).f0 = p from c0)]
     by_cases c1 : l[i].f1 = p
     · simp only [if_pos (show (cv l[i]).f1 = p from c1)]
       have : fr (l[i] :: l.drop (i + 1)) p = fr (l.drop (i + 1)) p := by unfold fr; rw [List.find?_cons_of_neg (by simp [c0, c1])]
       rw [this]; exact hrec
     · simp only [if_neg (show ¬ (cv l[i]).f1 = p from c1)]
       have : fr (l[i] :: l.drop (i + 1)) p = l[i].f1 := by unfold fr; rw [List.find?_cons_of_pos (by simp [c0, c1])]
       rw [this]; exact Ev.ret _
   · simp only [if_neg (show ¬ (cv l[i]).f0 = p from c0)]
     have : fr (l[i] :: l.drop (i + 1)) p = fr (l.drop (i + 1)) p := by unfold fr; rw [List.find?_cons_of_neg (by simp [c0])]
     rw [this]; exact hrec
 have := main l.length 0 (by omega) (by omega)
 unfold spokeshaveref21_from.f
 simpa using this
/-- A ring comes back within as many rounds as there are moves. -/
theorem ring_short {left : List S32} (h : ∀ m ∈ left, 0 ≤ m.f0) {x : Int} (hx : 0 ≤ x) (hr : Ring left x) : ∃ j, 1 ≤ j ∧ j ≤ left.length ∧ itr left j x = x ∧ ∀ t, x ≤ itr left t x := by
 obtain ⟨j0, hj0, he0, hle⟩ := hr
 have : ∀ n, 1 ≤ n → itr left n x = x → ∃ j, 1 ≤ j ∧ itr left j x = x ∧ ∀ t, 1 ≤ t → t < j → itr left t x ≠ x := by
  intro n
  induction n using Nat.strongRecOn with
  | _ n ih =>
   intro h1 he
   by_cases hc : ∃ t, 1 ≤ t ∧ t < n ∧ itr left t x = x
   · obtain ⟨t, a, b, c⟩ := hc; exact ih t b a c
   · exact ⟨n, h1, he, fun t a b c => hc ⟨t, a, b, c⟩⟩
 obtain ⟨j, hj, he, hmin⟩ := this j0 hj0 he0
 refine ⟨j, hj, ?_, he, hle⟩
 have hnd : ((List.range j).map fun t => itr left t x).Nodup := by
  rw [List.nodup_iff_pairwise_ne, List.pairwise_map]
  refine List.Pairwise.imp_of_mem ?_ (List.pairwise_lt_range (n := j))
  intro a b ha hb hab e
  rw [List.mem_range] at ha hb
  have h2 : itr left (j - b + a) x = x := by
   rw [itr_add, e, ← itr_add, show j - b + b = j by omega]; exact he
  exact hmin (j - b + a) (by omega) (by omega) h2
 have := nodup_sub_len _ (left.map S32.f0) hnd (fun y hy => by
  obtain ⟨t, _, rfl⟩ := List.mem_map.1 hy
  obtain ⟨m, hm, e⟩ := ring_in h hx hj he t
  exact List.mem_map.2 ⟨m, hm, e⟩)
 simpa using this
/-- As many moves as there must be, at least. -/
theorem least_ev (l : List S32) (hl : l.length ≤ 80) (hnn : ∀ m ∈ l, 0 ≤ m.f0) (hnd0 : (l.map S32.f0).Nodup) : ∃ n : Nat, Ev (fun k => spokeshaveref21_Least.f k (l.map cv)) (n : Int) ∧ (l.filter moving).length + rings (l.filter moving) ≤ n := by
 have hln : (l.map cv).length = l.length := List.length_map ..
 have hrd : ∀ (i : Nat) (h : i < l.length), rd_T36 (l.map cv) (i : Int) = cv l[i] := fun i h => by rw [rd36 _ i (by omega), List.getElem_map]
 generalize hL : l.filter moving = L
 have hfr : ∀ p, fr l p = fr L p := fun p => by rw [← hL, fr_moving]
 have hLn : ∀ m ∈ L, 0 ≤ m.f0 := fun m hm => hnn m (by rw [← hL] at hm; exact (List.mem_filter.1 hm).1)
 have hnd : (L.map S32.f0).Nodup := by rw [← hL]; exact List.Nodup.sublist (List.filter_sublist.map _) hnd0
 have hLl : L.length ≤ l.length := by rw [← hL]; exact List.length_filter_le ..
 have main : ∀ d i (a : Nat), l.length - i = d → i ≤ l.length → a ≤ 2 * i → ∃ n : Nat, Ev (fun k => spokeshaveref21_Least.l0 k (l.map cv) (a : Int) (i : Int)) (n : Int) ∧ a + ((l.drop i).filter moving).length + ((l.drop i).filter moving).countP (ringB L) ≤ n := by
  intro d
  induction d with
  | zero =>
   intro i a hd hi ha
   refine ⟨a, Ev.step ?_, ?_⟩
   · have : i = l.length := by omega
     subst this
     simp only [spokeshaveref21_Least.l0, hln, if_neg (Int.lt_irrefl _)]
     exact Ev.ret _
   · rw [List.drop_eq_nil_of_le (by omega)]; simp
  | succ d ih =>
   intro i a hd hi ha
   have hlt : i < l.length := by omega
   have ha1 : a < 1000 := by omega
   have wa1 : wrap64 ((a : Int) + 1) = ((a + 1 : Nat) : Int) := w1 a (Nat.lt_trans ha1 (by decide))
   have wa2 : wrap64 (((a + 1 : Nat) : Int) + 1) = ((a + 2 : Nat) : Int) := w2 a ha1
   rw [List.drop_eq_getElem_cons hlt]
   by_cases hm : l[i].f0 = l[i].f1
   · obtain ⟨n, h1, h2⟩ := ih (i + 1) a (by omega) (by omega) (by omega)
     refine ⟨n, Ev.step ?_, ?_⟩
     · simp only [spokeshaveref21_Least.l0, hln, if_pos (show (i : Int) < (l.length : Int) by omega), if_pos (show (0 : Int) ≤ (i : Int) by omega), hrd i hlt, w1 i (by omega), if_pos (show (cv l[i]).f0 = (cv l[i]).f1 from hm)]
       exact h1
     · rw [List.filter_cons_of_neg (by simp [moving, hm])]; exact h2
   have hmv : moving l[i] = true := by simp [moving, hm]
   rw [List.filter_cons_of_pos hmv, List.length_cons, List.countP_cons]
   have hx : 0 ≤ l[i].f0 := hnn _ (List.getElem_mem hlt)
   have himem : l[i] ∈ L := by rw [← hL]; exact List.mem_filter.2 ⟨List.getElem_mem hlt, hmv⟩
   obtain ⟨n0, e0, b0⟩ := ih (i + 1) (a + 1) (by omega) (by omega) (by omega)
   obtain ⟨n1, e1, b1⟩ := ih (i + 1) (a + 2) (by omega) (by omega) (by omega)
   -- the walk round, whatever it comes to
   have exit_ : ∀ (ls at_ : Int) (t : Nat), (¬ ((t : Int) < (l.length : Int)) ∨ ¬ (at_ ≥ 0) ∨ at_ = l[i].f0) →
     ∃ n, (n = n0 ∨ n = n1) ∧ (at_ = l[i].f0 ∧ ls = l[i].f0 → n = n1) ∧ Ev (fun k => spokeshaveref21_Least.l1 k (l.map cv) ((a + 1 : Nat) : Int) (i : Int) ls at_ (t : Int)) (n : Int) := by
    intro ls at_ t h
    have fin : ∀ (g : Nat → Option Int), (∀ k, g k = if at_ = (cv l[i]).f0 then (if ls = (cv l[i]).f0 then spokeshaveref21_Least.l0 k (l.map cv) ((a + 2 : Nat) : Int) ((i + 1 : Nat) : Int) else spokeshaveref21_Least.l0 k (l.map cv) ((a + 1 : Nat) : Int) ((i + 1 : Nat) : Int)) else spokeshaveref21_Least.l0 k (l.map cv) ((a + 1 : Nat) : Int) ((i + 1 : Nat) : Int)) →
      ∃ n, (n = n0 ∨ n = n1) ∧ (at_ = l[i].f0 ∧ ls = l[i].f0 → n = n1) ∧ Ev g (n : Int) := by
     intro g hg
     have hg' := funext hg
     by_cases c1 : at_ = l[i].f0
     · by_cases c2 : ls = l[i].f0
       · refine ⟨n1, .inr rfl, fun _ => rfl, ?_⟩
         rw [hg']; simp only [if_pos (show at_ = (cv l[i]).f0 from c1), if_pos (show ls = (cv l[i]).f0 from c2)]; exact e1
       · refine ⟨n0, .inl rfl, fun h => absurd h.2 c2, ?_⟩
         rw [hg']; simp only [if_pos (show at_ = (cv l[i]).f0 from c1), if_neg (show ¬ ls = (cv l[i]).f0 from c2)]; exact e0
     · refine ⟨n0, .inl rfl, fun h => absurd h.1 c1, ?_⟩
       rw [hg']; simp only [if_neg (show ¬ at_ = (cv l[i]).f0 from c1)]; exact e0
    have : ∃ n, (n = n0 ∨ n = n1) ∧ (at_ = l[i].f0 ∧ ls = l[i].f0 → n = n1) ∧ Ev (fun k => spokeshaveref21_Least.l1 (k + 1) (l.map cv) ((a + 1 : Nat) : Int) (i : Int) ls at_ (t : Int)) (n : Int) := by
     refine fin _ (fun k => ?_)
     simp only [spokeshaveref21_Least.l1, hln, if_pos (show (i : Int) < (l.length : Int) by omega), if_pos (show (0 : Int) ≤ (i : Int) by omega), hrd i hlt, w1 i (by omega), wa2]
     by_cases c1 : (t : Int) < (l.length : Int)
     · rw [if_pos c1]
       by_cases c2 : at_ ≥ 0
       · rw [if_pos c2]
         have c3 : at_ = l[i].f0 := by
          rcases h with h | h | h
          · exact absurd c1 h
          · exact absurd c2 h
          · exact h
         rw [if_pos (show at_ = (cv l[i]).f0 from c3), if_pos (show at_ = (cv l[i]).f0 from c3)]
       · rw [if_neg c2]
     · rw [if_neg c1]
    obtain ⟨n, a1, a2, a3⟩ := this
    exact ⟨n, a1, a2, Ev.step a3⟩
   have round_ : ∀ (ls at_ : Int) (t n : Nat), (t : Int) < (l.length : Int) → at_ ≥ 0 → at_ ≠ l[i].f0 →
     Ev (fun k => spokeshaveref21_Least.l1 k (l.map cv) ((a + 1 : Nat) : Int) (i : Int) (mn ls at_) (fr L at_) ((t + 1 : Nat) : Int)) (n : Int) →
     Ev (fun k => spokeshaveref21_Least.l1 k (l.map cv) ((a + 1 : Nat) : Int) (i : Int) ls at_ (t : Int)) (n : Int) := by
    intro ls at_ t n ht hat hne h
    refine Ev.step ?_
    simp only [spokeshaveref21_Least.l1, hln, if_pos (show (i : Int) < (l.length : Int) by omega), if_pos (show (0 : Int) ≤ (i : Int) by omega), hrd i hlt, w1 t (by omega), if_pos ht, if_pos hat, if_neg (show ¬ at_ = (cv l[i]).f0 from hne)]
    refine Ev.bind (from_ev l at_ (by omega)) ?_
    rw [hfr]
    exact h
   have any_ : ∀ e (t : Nat) (ls at_ : Int), l.length - t = e → ∃ n, (n = n0 ∨ n = n1) ∧ Ev (fun k => spokeshaveref21_Least.l1 k (l.map cv) ((a + 1 : Nat) : Int) (i : Int) ls at_ (t : Int)) (n : Int) := by
    intro e
    induction e with
    | zero =>
     intro t ls at_ he
     obtain ⟨n, a1, _, a3⟩ := exit_ ls at_ t (.inl (by omega))
     exact ⟨n, a1, a3⟩
    | succ e ih2 =>
     intro t ls at_ he
     by_cases c : ¬ (at_ ≥ 0) ∨ at_ = l[i].f0
     · obtain ⟨n, a1, _, a3⟩ := exit_ ls at_ t (.inr c)
       exact ⟨n, a1, a3⟩
     · obtain ⟨n, a1, a3⟩ := ih2 (t + 1) (mn ls at_) (fr L at_) (by omega)
       exact ⟨n, a1, round_ ls at_ t n (by omega) (by omega) (fun h => c (.inr h)) a3⟩
   have top : ∀ n : Nat, Ev (fun k => spokeshaveref21_Least.l1 k (l.map cv) ((a + 1 : Nat) : Int) (i : Int) l[i].f0 l[i].f1 ((0 : Nat) : Int)) (n : Int) → Ev (fun k => spokeshaveref21_Least.l0 k (l.map cv) (a : Int) (i : Int)) (n : Int) := by
    intro n h
    refine Ev.step ?_
    simp only [spokeshaveref21_Least.l0, hln, if_pos (show (i : Int) < (l.length : Int) by omega), if_pos (show (0 : Int) ≤ (i : Int) by omega), hrd i hlt, if_neg (show ¬ (cv l[i]).f0 = (cv l[i]).f1 from hm), wa1]
    exact h
   by_cases hr : ringB L l[i] = true
   · rw [if_pos hr]
     rw [ringB_iff] at hr
     obtain ⟨j, hj, hjl, he, hle⟩ := ring_short hLn hx hr
     have ring_ : ∀ e (t : Nat), j - (t + 1) = e → t + 1 ≤ j → Ev (fun k => spokeshaveref21_Least.l1 k (l.map cv) ((a + 1 : Nat) : Int) (i : Int) l[i].f0 (itr L (t + 1) l[i].f0) (t : Int)) (n1 : Int) := by
      intro e
      induction e with
      | zero =>
       intro t het htj
       have : itr L (t + 1) l[i].f0 = l[i].f0 := by rw [show t + 1 = j by omega]; exact he
       rw [this]
       obtain ⟨n, _, a2, a3⟩ := exit_ l[i].f0 l[i].f0 t (.inr (.inr rfl))
       rw [a2 ⟨rfl, rfl⟩] at a3
       exact a3
      | succ e ih2 =>
       intro t het htj
       by_cases c : itr L (t + 1) l[i].f0 = l[i].f0
       · rw [c]
         obtain ⟨n, _, a2, a3⟩ := exit_ l[i].f0 l[i].f0 t (.inr (.inr rfl))
         rw [a2 ⟨rfl, rfl⟩] at a3
         exact a3
       · have h3 := hle (t + 1)
         have hmn : mn l[i].f0 (itr L (t + 1) l[i].f0) = l[i].f0 := by unfold mn; rw [if_neg (by omega)]
         refine round_ _ _ t n1 (by omega) (by omega) c ?_
         rw [hmn]
         exact ih2 (t + 1) (by omega) (by omega)
     have := ring_ (j - 1) 0 (by omega) (by omega)
     have hf : itr L 1 l[i].f0 = l[i].f1 := fr_mem' hnd himem hm
     rw [show (0 : Nat) + 1 = 1 from rfl, hf] at this
     exact ⟨n1, top n1 this, by clear wa1 wa2 exit_ round_ any_ top ring_ this hle; omega⟩
   · rw [if_neg hr]
     obtain ⟨n, a1, a3⟩ := any_ l.length 0 l[i].f0 l[i].f1 (by omega)
     refine ⟨n, top n a3, ?_⟩
     clear wa1 wa2 exit_ round_ any_ top a3; rcases a1 with rfl | rfl <;> omega
 obtain ⟨n, h1, h2⟩ := main l.length 0 0 (by omega) (by omega) (by omega)
 refine ⟨n, ?_, ?_⟩
 · unfold spokeshaveref21_Least.f
   exact h1
 · rw [List.drop_zero, hL] at h2
   unfold rings
   omega
end Go.Proofs.Ytodnbclphjgofaa.PMov
