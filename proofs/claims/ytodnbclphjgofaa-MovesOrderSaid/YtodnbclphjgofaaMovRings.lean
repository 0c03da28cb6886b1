/- rings of moves, in plain lists. -/
import Derived.Test.YtodnbclphjgofaaMovWalk
namespace Go.Proofs.Ytodnbclphjgofaa.PMov
open Go Go.RowKit Go.Proofs.YtodnbclphjgofaaW.PrintWords
set_option linter.unusedVariables false
set_option linter.unusedSimpArgs false
/-! ### lists without repeats -/
theorem nodup_sub_len : ∀ (a b : List Int), a.Nodup → (∀ x ∈ a, x ∈ b) → a.length ≤ b.length
 | [], b, _, _ => Nat.zero_le _
 | x :: a, b, hn, hs => by
  rw [List.nodup_cons] at hn
  have hx : x ∈ b := hs x (List.mem_cons_self ..)
  have h := nodup_sub_len a (b.erase x) hn.2 (fun y hy => by
    have hne : y ≠ x := fun e => hn.1 (e ▸ hy)
    exact (List.mem_erase_of_ne hne).2 (hs y (List.mem_cons_of_mem _ hy)))
  rw [List.length_erase_of_mem hx] at h
  have : 0 < b.length := List.length_pos_of_mem hx
  simp only [List.length_cons]; omega
theorem nodup_onto {a b : List Int} (hn : a.Nodup) (hs : ∀ x ∈ a, x ∈ b) (hl : b.length ≤ a.length) : ∀ y ∈ b, y ∈ a := by
 intro y hy
 apply Classical.byContradiction
 intro hya
 have := nodup_sub_len (y :: a) b (List.nodup_cons.2 ⟨hya, hn⟩) (fun z hz => by
  rcases List.mem_cons.1 hz with rfl | h
  · exact hy
  · exact hs z h)
 simp only [List.length_cons] at this
 omega
theorem nodup_back : ∀ (a b : List Int), a.Nodup → (∀ x ∈ a, x ∈ b) → b.length ≤ a.length → b.Nodup
 | [], b, _, _, hl => by
  have : b = [] := List.eq_nil_of_length_eq_zero (by simpa using hl)
  subst this; exact List.nodup_nil
 | x :: a, b, hn, hs, hl => by
  rw [List.nodup_cons] at hn
  have hx : x ∈ b := hs x (List.mem_cons_self ..)
  have hs' : ∀ y ∈ a, y ∈ b.erase x := fun y hy => by
    have hne : y ≠ x := fun e => hn.1 (e ▸ hy)
    exact (List.mem_erase_of_ne hne).2 (hs y (List.mem_cons_of_mem _ hy))
  have hl' : (b.erase x).length ≤ a.length := by rw [List.length_erase_of_mem hx]; simp only [List.length_cons] at hl; omega
  have h := nodup_back a (b.erase x) hn.2 hs' hl'
  have hxb : x ∉ b.erase x := fun hm => hn.1 (nodup_onto hn.2 hs' hl' x hm)
  exact (List.perm_cons_erase hx).nodup_iff.2 (List.nodup_cons.2 ⟨hxb, h⟩)
theorem countP_lt {α : Type} (p q : α → Bool) : ∀ (l : List α), (∀ x ∈ l, p x = true → q x = true) → (∃ x ∈ l, q x = true ∧ p x = false) → l.countP p < l.countP q
 | [], _, ⟨x, hx, _⟩ => by simp at hx
 | y :: l, h, ⟨x, hx, hq, hp⟩ => by
  have hmono : l.countP p ≤ l.countP q := List.countP_mono_left (fun z hz => h z (List.mem_cons_of_mem _ hz))
  rw [List.countP_cons, List.countP_cons]
  rcases List.mem_cons.1 hx with rfl | hx
  · rw [if_neg (by rw [hp]; decide), if_pos hq]; omega
  · have ih := countP_lt p q l (fun z hz => h z (List.mem_cons_of_mem _ hz)) ⟨x, hx, hq, hp⟩
    by_cases hy : p y = true
    · rw [if_pos hy, if_pos (h y (List.mem_cons_self ..) hy)]; omega
    · rw [if_neg hy]; split <;> omega
/-! ### where a place's comes from; rings -/
def fr (left : List S32) (p : Int) : Int := match left.find? (fun m => m.f0 == p && m.f1 != p) with
 | some m => m.f1
 | none => -1
def itr (left : List S32) : Nat → Int → Int
 | 0, x => x
 | t + 1, x => fr left (itr left t x)
def Ring (left : List S32) (x : Int) : Prop := ∃ j, 1 ≤ j ∧ itr left j x = x ∧ ∀ t, x ≤ itr left t x
noncomputable def ringB (left : List S32) (m : S32) : Bool := @decide (Ring left m.f0) (Classical.propDecidable _)
theorem ringB_iff {left : List S32} {m : S32} : ringB left m = true ↔ Ring left m.f0 := by unfold ringB; simp
noncomputable def rings (left : List S32) : Nat := left.countP (ringB left)
structure Okay (left : List S32) (sp : Int) : Prop where
 nd : (left.map S32.f0).Nodup
 el : ∀ m ∈ left, 0 ≤ m.f0 ∧ 0 ≤ m.f1 ∧ m.f0 ≠ m.f1 ∧ m.f0 ≠ sp
 sp0 : 0 ≤ sp
theorem nodup_map_inj {left : List S32} (h : (left.map S32.f0).Nodup) : ∀ {a b : S32}, a ∈ left → b ∈ left → a.f0 = b.f0 → a = b := by
 induction left with
 | nil => intro a b ha; simp at ha
 | cons x l ih =>
  intro a b ha hb he
  rw [List.map_cons, List.nodup_cons] at h
  rcases List.mem_cons.1 ha with rfl | ha' <;> rcases List.mem_cons.1 hb with rfl | hb'
  · rfl
  · exact absurd (List.mem_map.2 ⟨b, hb', he.symm⟩) h.1
  · exact absurd (List.mem_map.2 ⟨a, ha', he⟩) h.1
  · exact ih h.2 ha' hb' he
theorem fr_mem' {left : List S32} (hnd : (left.map S32.f0).Nodup) {m : S32} (hm : m ∈ left) (hne : m.f0 ≠ m.f1) : fr left m.f0 = m.f1 := by
 unfold fr
 cases hf : left.find? (fun z => z.f0 == m.f0 && z.f1 != m.f0) with
 | none =>
  have := List.find?_eq_none.1 hf m hm
  simp at this
  exact absurd this.symm hne
 | some z =>
  have hz := List.find?_some hf
  have hzm := List.mem_of_find?_eq_some hf
  simp at hz
  rw [nodup_map_inj hnd hzm hm hz.1]
theorem fr_mem {left : List S32} {sp : Int} (h : Okay left sp) {m : S32} (hm : m ∈ left) : fr left m.f0 = m.f1 := fr_mem' h.nd hm (h.el m hm).2.2.1
theorem fr_not {left : List S32} {p : Int} (h : ∀ m ∈ left, m.f0 ≠ p) : fr left p = -1 := by
 unfold fr
 rw [List.find?_eq_none.2 (fun m hm => by simp; intro e; exact absurd e (h m hm))]
theorem itr_add (left : List S32) (a b : Nat) (x : Int) : itr left (a + b) x = itr left a (itr left b x) := by
 induction a with
 | zero => simp [itr]
 | succ a ih => rw [Nat.succ_add]; simp only [itr]; rw [ih]
theorem itr_dead {left : List S32} (h : ∀ m ∈ left, 0 ≤ m.f0) : ∀ s, itr left s (-1) = -1
 | 0 => rfl
 | s + 1 => by simp only [itr]; rw [itr_dead h s]; exact fr_not (fun m hm e => by have := h m hm; omega)
theorem itr_mul {left : List S32} {j : Nat} {x : Int} (h : itr left j x = x) : ∀ q, itr left (q * j) x = x
 | 0 => by rw [Nat.zero_mul]; rfl
 | q + 1 => by rw [Nat.succ_mul, itr_add, h]; exact itr_mul h q
/-- On a ring all are places that are written. -/
theorem ring_in {left : List S32} (h : ∀ m ∈ left, 0 ≤ m.f0) {j : Nat} {x : Int} (hx : 0 ≤ x) (hj : 1 ≤ j) (he : itr left j x = x) (t : Nat) : ∃ m ∈ left, m.f0 = itr left t x := by
 apply Classical.byContradiction
 intro hn
 have h1 : itr left (t + 1) x = -1 := by
  simp only [itr]
  exact fr_not (fun m hm e => hn ⟨m, hm, e⟩)
 have h2 := itr_mul he (t + 1)
 have h3 : t + 1 ≤ (t + 1) * j := Nat.le_mul_of_pos_right _ hj
 have h4 : (t + 1) * j = ((t + 1) * j - (t + 1)) + (t + 1) := by omega
 rw [h4, itr_add, h1, itr_dead h] at h2
 omega
theorem itr_agree {l1 l2 : List S32} {x : Int} (h : ∀ t, fr l2 (itr l1 t x) = fr l1 (itr l1 t x)) : ∀ t, itr l2 t x = itr l1 t x
 | 0 => rfl
 | t + 1 => by simp only [itr]; rw [itr_agree h t, h t]
/-- A ring of fewer moves is one of more. -/
theorem ring_sub {l1 l2 : List S32} {sp : Int} (h2 : Okay l2 sp) (hs : ∀ m ∈ l1, m ∈ l2) (hnd : (l1.map S32.f0).Nodup) {x : Int} (hx : 0 ≤ x) (h : Ring l1 x) : Ring l2 x := by
 obtain ⟨j, hj, he, hle⟩ := h
 have hag := itr_agree (l1 := l1) (l2 := l2) (x := x) (fun t => by
  obtain ⟨m, hm, e⟩ := ring_in (fun m hm => (h2.el m (hs m hm)).1) hx hj he t
  rw [← e, fr_mem h2 (hs m hm), fr_mem' hnd hm (h2.el m (hs m hm)).2.2.1])
 exact ⟨j, hj, by rw [hag, he], fun t => by rw [hag]; exact hle t⟩
theorem Okay.erase {left : List S32} {sp : Int} (h : Okay left sp) (i : Nat) : Okay (left.eraseIdx i) sp := by
 refine ⟨?_, fun m hm => h.el m (List.mem_of_mem_eraseIdx hm), h.sp0⟩
 exact List.Nodup.sublist ((List.eraseIdx_sublist left i).map _) h.nd
theorem rings_erase {left : List S32} {sp : Int} (h : Okay left sp) (i : Nat) : rings (left.eraseIdx i) ≤ rings left := by
 unfold rings
 refine Nat.le_trans (List.countP_mono_left (q := ringB left) ?_) ((List.eraseIdx_sublist left i).countP_le)
 intro m hm hr
 rw [ringB_iff] at hr ⊢
 exact ring_sub h (fun z hz => List.mem_of_mem_eraseIdx hz) (h.erase i).nd (h.el m (List.mem_of_mem_eraseIdx hm)).1 hr
/-! ### the broken ring -/
def ren (ring sp : Int) (m : S32) : S32 := if m.f1 = ring then ⟨m.f0, sp⟩ else m
theorem renam_eq (left : List S32) (ring sp : Int) : renam left ring sp = left.map (ren ring sp) := rfl
theorem ren_f0 (ring sp : Int) (m : S32) : (ren ring sp m).f0 = m.f0 := by unfold ren; split <;> rfl
theorem ren_f1 (ring sp : Int) (m : S32) : (ren ring sp m).f1 = if m.f1 = ring then sp else m.f1 := by unfold ren; split <;> rfl
theorem Okay.renam {left : List S32} {sp ring : Int} (h : Okay left sp) : Okay (renam left ring sp) sp := by
 refine ⟨?_, fun m hm => ?_, h.sp0⟩
 · rw [renam_eq, List.map_map]
   have : (S32.f0 ∘ ren ring sp) = S32.f0 := funext (ren_f0 ring sp)
   rw [this]; exact h.nd
 · rw [renam_eq] at hm
   obtain ⟨z, hz, rfl⟩ := List.mem_map.1 hm
   obtain ⟨a, b, c, d⟩ := h.el z hz
   rw [ren_f0, ren_f1]
   refine ⟨a, ?_, ?_, d⟩
   · split
     · exact h.sp0
     · exact b
   · split
     · exact d
     · exact c
def Stuck (left : List S32) : Prop := ∀ m ∈ left, ∃ z ∈ left, z.f1 = m.f0
section
variable {left : List S32} {sp : Int} (h : Okay left sp) (hs : Stuck left)
include h hs
omit h in
theorem stuck_sub : ∀ x ∈ left.map S32.f0, x ∈ left.map S32.f1 := by
 intro x hx
 obtain ⟨m, hm, rfl⟩ := List.mem_map.1 hx
 obtain ⟨z, hz, e⟩ := hs m hm
 exact List.mem_map.2 ⟨z, hz, e⟩
theorem stuck_onto {m : S32} (hm : m ∈ left) : ∃ z ∈ left, z.f0 = m.f1 := by
 have := nodup_onto h.nd (stuck_sub hs) (by simp) m.f1 (List.mem_map.2 ⟨m, hm, rfl⟩)
 obtain ⟨z, hz, e⟩ := List.mem_map.1 this
 exact ⟨z, hz, e⟩
theorem stuck_ne {m : S32} (hm : m ∈ left) : m.f1 ≠ sp := by
 obtain ⟨z, hz, e⟩ := stuck_onto h hs hm
 rw [← e]
 exact (h.el z hz).2.2.2
theorem stuck_nd : (left.map S32.f1).Nodup := nodup_back _ _ h.nd (stuck_sub hs) (by simp)
theorem stuck_inj {a b : S32} (ha : a ∈ left) (hb : b ∈ left) (e : a.f1 = b.f1) : a = b := by
 have hnd := stuck_nd h hs
 clear h hs
 induction left with
 | nil => simp at ha
 | cons x l ih =>
  rw [List.map_cons, List.nodup_cons] at hnd
  rcases List.mem_cons.1 ha with rfl | ha' <;> rcases List.mem_cons.1 hb with rfl | hb'
  · rfl
  · exact absurd (List.mem_map.2 ⟨b, hb', e.symm⟩) hnd.1
  · exact absurd (List.mem_map.2 ⟨a, ha', e⟩) hnd.1
  · exact ih ha' hb' hnd.2
theorem stuck_itr {x : Int} (hx : ∃ m ∈ left, m.f0 = x) : ∀ t, ∃ m ∈ left, m.f0 = itr left t x
 | 0 => hx
 | t + 1 => by
  obtain ⟨m, hm, e⟩ := stuck_itr hx t
  obtain ⟨z, hz, e'⟩ := stuck_onto h hs hm
  exact ⟨z, hz, by simp only [itr]; rw [← e, fr_mem h hm, e']⟩
theorem stuck_fr_inj {x y : Int} (hx : ∃ m ∈ left, m.f0 = x) (hy : ∃ m ∈ left, m.f0 = y) (e : fr left x = fr left y) : x = y := by
 obtain ⟨a, ha, rfl⟩ := hx
 obtain ⟨b, hb, rfl⟩ := hy
 rw [fr_mem h ha, fr_mem h hb] at e
 rw [stuck_inj h hs ha hb e]
theorem stuck_back {x : Int} (hx : ∃ m ∈ left, m.f0 = x) : ∀ (a d : Nat), itr left (a + d) x = itr left a x → itr left d x = x
 | 0, d, e => by simpa [itr] using e
 | a + 1, d, e => by
  refine stuck_back hx a d ?_
  rw [Nat.succ_add] at e
  simp only [itr] at e
  exact stuck_fr_inj h hs (stuck_itr h hs hx _) (stuck_itr h hs hx _) e
/-- Whoever goes on comes back. -/
theorem stuck_returns {x : Int} (hx : ∃ m ∈ left, m.f0 = x) : ∃ j, 1 ≤ j ∧ j ≤ left.length ∧ itr left j x = x := by
 apply Classical.byContradiction
 intro hn
 have hnd : ((List.range (left.length + 1)).map fun t => itr left t x).Nodup := by
  rw [List.nodup_iff_pairwise_ne, List.pairwise_map]
  refine List.Pairwise.imp_of_mem ?_ (List.pairwise_lt_range (n := left.length + 1))
  intro a b ha hb hab e
  rw [List.mem_range] at ha hb
  refine hn ⟨b - a, by omega, by omega, stuck_back h hs hx a (b - a) ?_⟩
  rw [show a + (b - a) = b by omega]; exact e.symm
 have := nodup_sub_len _ (left.map S32.f0) hnd (fun y hy => by
  obtain ⟨t, _, rfl⟩ := List.mem_map.1 hy
  obtain ⟨m, hm, e⟩ := stuck_itr h hs hx t
  exact List.mem_map.2 ⟨m, hm, e⟩)
 simp at this
 omega
end
theorem min_of (f : Nat → Int) : ∀ n, ∃ t, t ≤ n ∧ ∀ s, s ≤ n → f t ≤ f s
 | 0 => ⟨0, Nat.le_refl _, fun s hs => by rw [show s = 0 by omega]; exact Int.le_refl _⟩
 | n + 1 => by
  obtain ⟨t, ht, h⟩ := min_of f n
  by_cases hc : f t ≤ f (n + 1)
  · refine ⟨t, by omega, fun s hs => ?_⟩
    by_cases e : s = n + 1
    · rw [e]; exact hc
    · exact h s (by omega)
  · refine ⟨n + 1, Nat.le_refl _, fun s hs => ?_⟩
    by_cases e : s = n + 1
    · rw [e]; exact Int.le_refl _
    · have := h s (by omega); omega
theorem itr_mod {left : List S32} {j : Nat} {x : Int} (hj : 1 ≤ j) (he : itr left j x = x) (t : Nat) : itr left t x = itr left (t % j) x := by
 have := Nat.mod_add_div t j
 rw [Nat.mul_comm] at this
 conv => lhs; rw [← this]
 rw [itr_add, itr_mul he]
/-- A ring that is broken is one less. -/
theorem rings_renam {left : List S32} {sp : Int} (h : Okay left sp) (hs : Stuck left) {m0 : S32} (h0 : m0 ∈ left) : rings (renam left m0.f0 sp) < rings left := by
 have hdead : ∀ p, fr (renam left m0.f0 sp) p = sp → False → True := fun _ _ _ => trivial
 have hok := h.renam (ring := m0.f0)
 have frr : ∀ m ∈ left, fr (renam left m0.f0 sp) m.f0 = if m.f1 = m0.f0 then sp else m.f1 := by
  intro m hm
  have := fr_mem hok (m := ren m0.f0 sp m) (by rw [renam_eq]; exact List.mem_map.2 ⟨m, hm, rfl⟩)
  rw [ren_f0, ren_f1] at this
  exact this
 unfold rings
 rw [renam_eq, List.countP_map, ← renam_eq]
 have hnn : ∀ m ∈ renam left m0.f0 sp, 0 ≤ m.f0 := fun m hm => (hok.el m hm).1
 have back : ∀ {j : Nat} {x : Int}, 0 ≤ x → 1 ≤ j → itr (renam left m0.f0 sp) j x = x → ∀ t, ∃ m ∈ left, m.f0 = itr (renam left m0.f0 sp) t x ∧ m.f1 ≠ m0.f0 := by
  intro j x hx hj he t
  obtain ⟨m', hm', e⟩ := ring_in hnn hx hj he t
  rw [renam_eq] at hm'
  obtain ⟨m, hm, rfl⟩ := List.mem_map.1 hm'
  rw [ren_f0] at e
  refine ⟨m, hm, e, fun hb => ?_⟩
  obtain ⟨z', hz', e2⟩ := ring_in hnn hx hj he (t + 1)
  simp only [itr] at e2
  rw [← e, frr m hm, if_pos hb] at e2
  exact (hok.el z' hz').2.2.2 e2
 refine countP_lt _ _ _ ?_ ?_
 · intro m hm hr
   simp only [Function.comp] at hr
   rw [ringB_iff, ren_f0] at hr
   rw [ringB_iff]
   obtain ⟨j, hj, he, hle⟩ := hr
   have hx := (h.el m hm).1
   have hag := itr_agree (l1 := renam left m0.f0 sp) (l2 := left) (x := m.f0) (fun t => by
    obtain ⟨z, hz, e, hne⟩ := back hx hj he t
    rw [← e, fr_mem h hz, frr z hz, if_neg hne])
   exact ⟨j, hj, by rw [hag, he], fun t => by rw [hag]; exact hle t⟩
 · obtain ⟨j, hj, _, he⟩ := stuck_returns h hs ⟨m0, h0, rfl⟩
   obtain ⟨t, ht, hmin⟩ := min_of (fun t => itr left t m0.f0) j
   obtain ⟨y, hy, ey⟩ := stuck_itr h hs ⟨m0, h0, rfl⟩ t
   refine ⟨y, hy, ?_, ?_⟩
   · rw [ringB_iff, ey]
     refine ⟨j, hj, ?_, fun s => ?_⟩
     · rw [← itr_add, Nat.add_comm, itr_add, he]
     · rw [← itr_add, itr_mod hj he (s + t)]
       exact hmin _ (by have := Nat.mod_lt (s + t) hj; omega)
   · apply Bool.eq_false_iff.2
     intro hr
     simp only [Function.comp] at hr
     rw [ringB_iff, ren_f0] at hr
     obtain ⟨j', hj', he', _⟩ := hr
     have hx := (h.el y hy).1
     have hag := itr_agree (l1 := renam left m0.f0 sp) (l2 := left) (x := y.f0) (fun t => by
      obtain ⟨z, hz, e, hne⟩ := back hx hj' he' t
      rw [← e, fr_mem h hz, frr z hz, if_neg hne])
     -- the place ahead of m0's on the ring
     obtain ⟨s, hse⟩ : ∃ s, itr left (s + 1) y.f0 = m0.f0 := by
      refine ⟨j - t + j - 1, ?_⟩
      rw [ey, ← itr_add, show j - t + j - 1 + 1 + t = 2 * j by omega]
      exact itr_mul he 2
     obtain ⟨z, hz, e, hne⟩ := back hx hj' he' s
     simp only [itr] at hse
     rw [hag s, ← e, fr_mem h hz] at hse
     exact hne hse
end Go.Proofs.Ytodnbclphjgofaa.PMov
