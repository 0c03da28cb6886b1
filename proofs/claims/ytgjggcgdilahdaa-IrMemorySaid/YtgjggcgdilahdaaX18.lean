/- Executor, second make: rows of operations whose order is drawn: whatever is drawn, it is the same. -/
import Derived.Test.YtgjggcgdilahdaaX17
set_option linter.unusedVariables false
set_option linter.unusedSimpArgs false
set_option linter.constructorNameAsVariable false
set_option linter.unusedVariables false
set_option linter.unusedSimpArgs false
namespace Go.Xe
open Go.RowKit

theorem penG_some {l : List Pen} {b : Bk} {ao : AO} (h : penG l b = some ao) : ∃ p ∈ l, b = .new p.2.1 ∧ p.2.2 = ao := by
  cases b with
  | inp r => cases h
  | new k =>
    simp only [penG, Option.map_eq_some_iff] at h
    obtain ⟨p, h1, h2⟩ := h
    exact ⟨p, List.mem_of_find?_eq_some h1, by have := List.find?_some h1; simp at this; rw [this], h2⟩
theorem penG_mem {l : List Pen} (hd : l.Pairwise fun p q => p.2.1 ≠ q.2.1 ∧ p.1 ≠ q.1) {p : Pen} (hp : p ∈ l) : penG l (.new p.2.1) = some p.2.2 := by
  induction l with
  | nil => simp at hp
  | cons q l ih =>
    rw [List.pairwise_cons] at hd
    show ((q :: l).find? fun x => x.2.1 == p.2.1).map (·.2.2) = _
    rcases List.mem_cons.1 hp with rfl | hp'
    · simp
    · have hne : (q.2.1 == p.2.1) = false := by simpa using (hd.1 p hp').1
      rw [List.find?_cons_of_neg (by simp [hne])]
      exact ih hd.2 hp'
theorem orG_some {e g : Mem} {b ao} (h : orG e g b = some ao) : e b = some ao ∨ (e b = none ∧ g b = some ao) := by
  unfold orG at h
  cases he : e b with
  | some x => rw [he] at h; exact .inl h
  | none => rw [he] at h; exact .inr ⟨rfl, h⟩
theorem orG_left {e g : Mem} {b ao} (h : e b = some ao) : orG e g b = some ao := by unfold orG; rw [h]
theorem orG_right {e g : Mem} {b} (h : e b = none) : orG e g b = g b := by unfold orG; rw [h]

/-- A step that knows a part of the memory alone, with another part beside it. -/
theorem Next.extend {base ρ next w nx next' ρ' w'} {g g1 e g1' : Mem} (hs : Sim base ρ g next w) (h1 : ∀ b ao, g1 b = some ao → g b = some ao) (he : ∀ b ao, e b = some ao → g b = some ao ∧ g1 b = none) (hen : ∀ b ao, e b = some ao → ∃ n, b = .new n)
    (h : Next base ρ g1 nx w g1' next' ρ' w') : Next base ρ g nx w (orG e g1') next' ρ' w' ∧ ∀ b ao, e b = some ao → g1' b = none := by
  have hsub : ∀ r, Im ρ g1 r → Im ρ g r := fun r hi => hi.more h1
  -- a block beside is no one's
  have hno : ∀ b ao x, e b = some ao → ρ b = some x → ¬ Im ρ g1 x.1 := by
    rintro b ao x hb hx ⟨b', ao', x', hb', hx', hxx⟩
    obtain ⟨h2, h3⟩ := he b ao hb
    obtain ⟨n, rfl⟩ := hen b ao hb
    have := hs.inj _ _ _ _ _ _ (h1 _ _ hb') h2 hx' hx hxx
    subst this
    rw [h3] at hb'; cases hb'
  have hlt : ∀ b ao x, e b = some ao → ρ b = some x → x.1 < w.heap.size := fun b ao x hb hx => hs.there (he b ao hb).1 hx
  have hdis : ∀ b ao, e b = some ao → g1' b = none := by
    intro b ao hb
    cases hg : g1' b with
    | none => rfl
    | some ao' =>
      exfalso
      obtain ⟨r, sh, m, h2, h3⟩ := hs.obj _ _ (he b ao hb).1
      exact hno b ao _ hb h2 (h.img r ⟨b, ao', _, hg, h.le _ _ h2, rfl⟩ (hlt b ao _ hb h2))
  refine ⟨⟨h.le, ⟨?_, ?_, h.sim.fresh, h.sim.lows, h.sim.size⟩, h.below, fun r hr hi => h.frame r hr fun hi' => hi (hsub r hi'), ?_, h.ids, h.up⟩, hdis⟩
  · intro b ao hb
    rcases orG_some hb with hb | ⟨_, hb⟩
    · obtain ⟨r, sh, m, h2, h3⟩ := hs.obj _ _ (he b ao hb).1
      refine ⟨r, sh, m, h.le _ _ h2, ?_⟩
      rw [h.frame r (hlt b ao _ hb h2) (hno b ao _ hb h2)]
      exact h3.mono h.le
    · exact h.sim.obj b ao hb
  · intro b kn ao ao' x x' hb hb' hx hx' hxx
    have cross : ∀ {b b' ao ao' x x'}, e b = some ao → g1' b' = some ao' → ρ' b = some x → ρ' b' = some x' → x.1 = x'.1 → False := by
      intro b b' ao ao' x x' hb hb' hx hx' hxx
      obtain ⟨r, sh, m, h2, h3⟩ := hs.obj _ _ (he b ao hb).1
      have := h.le _ _ h2
      rw [this] at hx; cases hx
      exact hno b ao _ hb h2 (h.img r ⟨b', ao', x', hb', hx', hxx.symm⟩ (hlt b ao _ hb h2))
    rcases orG_some hb with hb | ⟨_, hb⟩ <;> rcases orG_some hb' with hb' | ⟨_, hb'⟩
    · obtain ⟨r, sh, m, h2, h3⟩ := hs.obj _ _ (he b ao hb).1
      obtain ⟨r', sh', m', h2', h3'⟩ := hs.obj _ _ (he _ ao' hb').1
      have e1 := h.le _ _ h2
      have e2 := h.le _ _ h2'
      rw [e1] at hx; rw [e2] at hx'
      cases hx; cases hx'
      exact hs.inj _ _ _ _ _ _ (he b ao hb).1 (he _ ao' hb').1 h2 h2' hxx
    · exact (cross hb hb' hx hx' hxx).elim
    · exact (cross hb' hb hx' hx hxx.symm).elim
    · exact h.sim.inj _ _ _ _ _ _ hb hb' hx hx' hxx
  · rintro r ⟨b, ao, x, hb, hx, rfl⟩ hr
    rcases orG_some hb with hb | ⟨_, hb⟩
    · obtain ⟨r, sh, m, h2, h3⟩ := hs.obj _ _ (he b ao hb).1
      have := h.le _ _ h2
      rw [this] at hx; cases hx
      exact ⟨b, ao, _, (he b ao hb).1, h2, rfl⟩
    · exact hsub _ (h.img _ ⟨b, ao, x, hb, hx, rfl⟩ hr)

def lst (listed : Array Bool) (i : Nat) : Bool := listed.getD i false
theorem lst_set {listed : Array Bool} {i : Nat} (hi : i < listed.size) (j : Nat) : lst (listed.setIfInBounds i true) j = (lst listed j || decide (j = i)) := by
  unfold lst
  by_cases e : j = i
  · subst e; simp [hi]
  · rw [getD_set_ne false (Ne.symm e)]; simp [e]

theorem ancListed {P n ops} {listed : Array Bool} (hdc : ∀ j oj, ops[j]? = some oj → lst listed j = true → ∀ e ∈ oj.after, Region.binds .any e = true → lst listed e.on = true) :
    ∀ (pl pre : Plan), StepsOK P n ops pre pl → (∀ q ∈ pre, ∃ oq, ops[q.1]? = some oq ∧ ((∀ e ∈ oq.after, Region.binds .any e = true → lst listed e.on = true) → ∀ j ∈ q.2, lst listed j = true)) →
    ∀ s ∈ pl, ∀ o, ops[s.1]? = some o → (∀ e ∈ o.after, Region.binds .any e = true → lst listed e.on = true) → ∀ j ∈ s.2, lst listed j = true := by
  intro pl
  induction pl with
  | nil => simp
  | cons s pl ih =>
    intro pre hok hpre
    cases hok with
    | @cons _ _ _ o ho hs hnd hok' =>
      have hself : (∀ e ∈ o.after, Region.binds .any e = true → lst listed e.on = true) → ∀ j ∈ s.2, lst listed j = true := by
        intro hd j hj
        rcases hs.anc j hj with ⟨e, he, hb, rfl⟩ | ⟨e, he, hb, q, hq, hq1, hq2⟩
        · exact hd e he hb
        · obtain ⟨oq, h1, h2⟩ := hpre q hq
          have := hd e he hb
          rw [← hq1] at this
          exact h2 (hdc _ _ h1 this) j hq2
      intro r hr or hor hd
      rcases List.mem_cons.1 hr with rfl | hr
      · rw [ho] at hor; cases hor; exact hself hd
      · refine ih (pre ++ [s]) hok' ?_ r hr or hor hd
        intro q hq
        rcases List.mem_append.1 hq with hq | hq
        · exact hpre q hq
        · simp at hq; subst hq; exact ⟨o, ho, hself⟩

section
variable {P : Program} {G : Nat → Bool} {D : Disp} {ops : Array Oper} {K : Tr AV → St → Prop} {n : Nat} {plan : Plan} {base : Nat} {ρ0 : Ren} {S0 : St} {w0 : World}

structure Inv (P : Program) (G : Nat → Bool) (D : Disp) (ops : Array Oper) (K : Tr AV → St → Prop) (n : Nat) (plan : Plan) (base : Nat) (ρ0 : Ren) (S0 : St) (w0 : World)
    (listed : Array Bool) (a : Act) (w : World) (E : Tr AV) (M : St) (N : Nat) (pend : List Pen) (rs : List Nat) (pre pl : Plan) (ρ : Ren) : Prop where
  hpl : plan = pre ++ pl
  ok : StepsOK P n ops pre pl
  can : Can P G D ops K M pl E N pend rs
  facts : ∀ s ∈ pre, lst listed s.1 = false → ∀ o, ops[s.1]? = some o → Fact P G ops (gE E) M pend rs s.1 o
  later : ∀ s ∈ pl, lst listed s.1 = false
  slots : ∀ t, (∀ j oj, ops[j]? = some oj → oj.dst = some t → lst listed j = true) → VR ρ (gE E t) (a.tmps.getD t undef)
  asz : a.tmps.size = n
  adef : a.defers = []
  pen : ∀ p ∈ pend, p.2.1 < N ∧ S0.next ≤ p.2.1 ∧ M.get (.new p.2.1) = none ∧ (lst listed p.1 = false → ρ (.new p.2.1) = none) ∧ ∃ s ∈ pre, s.1 = p.1
  pend_d : pend.Pairwise fun p q => p.2.1 ≠ q.2.1 ∧ p.1 ≠ q.1
  nxt : Next base ρ0 S0.get S0.next w0 (orG (penG (pend.filter fun p => lst listed p.1)) M.get) N ρ w
  dc : ∀ j oj, ops[j]? = some oj → lst listed j = true → ∀ e ∈ oj.after, Region.binds .any e = true → lst listed e.on = true
  lsz : listed.size = ops.size

theorem Act.put_getD_ne {a : Act} {dst : Option Tmp} {v : Value} {t : Nat} (h : dst ≠ some t) : (a.put dst v).tmps.getD t undef = a.tmps.getD t undef := by
  cases dst with
  | none => rfl
  | some d =>
    have hne : d ≠ t := fun e => h (by rw [e])
    simp [Act.put, Array.getElem?_setIfInBounds_ne hne]
theorem Act.put_getD_eq {a : Act} {d : Nat} {v : Value} (h : d < a.tmps.size) : (a.put (some d) v).tmps.getD d undef = v := by
  simp [Act.put, h]

/-- An operation of those that may come has come. -/
theorem Inv.done {listed a w E M N pend rs pre pl ρ} (h : Inv P G D ops K n plan base ρ0 S0 w0 listed a w E M N pend rs pre pl ρ) {i : Nat} {o : Oper} (ho : ops[i]? = some o) (hi : lst listed i = false) (hpre : ∃ s ∈ pre, s.1 = i)
    (hdir : ∀ e ∈ o.after, Region.binds .any e = true → lst listed e.on = true) (hdlt : ∀ d, o.dst = some d → d < n) {v : AV} (hv : ∀ d, o.dst = some d → gE E d = v) {cv : Value} {ρ' : Ren} {w' : World} (hcv : VR ρ' v cv)
    (hn : Next base ρ (orG (penG (pend.filter fun p => lst listed p.1)) M.get) S0.next w (orG (penG (pend.filter fun p => lst (listed.setIfInBounds i true) p.1)) M.get) N ρ' w')
    (hpen : ∀ p ∈ pend, lst (listed.setIfInBounds i true) p.1 = false → ρ' (.new p.2.1) = none) :
    Inv P G D ops K n plan base ρ0 S0 w0 (listed.setIfInBounds i true) (a.put o.dst cv) w' E M N pend rs pre pl ρ' := by
  have hilt : i < listed.size := by rw [h.lsz]; exact (Array.getElem?_eq_some_iff.1 ho).1
  have hset := lst_set hilt
  have hmono : ∀ j, lst listed j = true → lst (listed.setIfInBounds i true) j = true := fun j hj => by rw [hset, hj]; rfl
  have hback : ∀ j, lst (listed.setIfInBounds i true) j = false → lst listed j = false := fun j hj => by
    rw [hset] at hj; simp at hj; exact hj.1
  obtain ⟨s0, hs0, hs0i⟩ := hpre
  refine ⟨h.hpl, h.ok, h.can, fun s hs hl o' ho' => h.facts s hs (hback _ hl) o' ho', ?_, ?_, by simp [Act.put]; cases o.dst <;> simp [h.asz], by cases hd : o.dst <;> exact h.adef, ?_, h.pend_d, ?_, ?_, by simp [h.lsz]⟩
  · intro s hs
    rw [hset, h.later s hs]
    have := (StepsOK.apart (by rw [hs0i]; exact ho) pl pre hs0 h.ok s hs).1
    simp
    rw [← hs0i]; exact this
  · intro t ht
    by_cases e : o.dst = some t
    · rw [hv t e, e, Act.put_getD_eq (by rw [h.asz]; exact hdlt t e)]; exact hcv
    · rw [Act.put_getD_ne e]
      refine (h.slots t fun j oj hj hjd => ?_).mono hn.le
      have := ht j oj hj hjd
      rw [hset] at this
      simp at this
      rcases this with h1 | h1
      · exact h1
      · subst h1; rw [ho] at hj; cases hj; exact absurd hjd e
  · intro p hp
    obtain ⟨h1, h2, h3, h4, h5⟩ := h.pen p hp
    exact ⟨h1, h2, h3, hpen p hp, h5⟩
  · exact h.nxt.trans' hn (Nat.le_refl _)
  · intro j oj hj hl e he hb
    rw [hset] at hl
    simp at hl
    rcases hl with hl | hl
    · exact hmono _ (h.dc j oj hj hl e he hb)
    · subst hl; rw [ho] at hj; cases hj; exact hmono _ (hdir e he hb)

theorem Inv.look {listed a w E M N pend rs pre pl ρ} (h : Inv P G D ops K n plan base ρ0 S0 w0 listed a w E M N pend rs pre pl ρ) {o : Oper} {anc : List Nat} (hl : ∀ j oj t, ops[j]? = some oj → oj.dst = some t → t ∈ o.looksAt ops → j ∈ anc) (ha : ∀ j ∈ anc, lst listed j = true) :
    ∀ t ∈ o.looksAt ops, VR ρ (gE E t) (a.tmps.getD t undef) := fun t ht => h.slots t fun j oj hj hd => ha j (hl j oj t hj hd ht)

theorem env_ok {ρ : Ren} {E : Tr AV} {a : Act} {o : Oper} (hG : GOK G ρ) (h : ∀ t ∈ o.looksAt ops, VR ρ (gE E t) (a.tmps.getD t undef)) : EvR ρ (envM G (gE E) o) a.eval := by
  refine ER.ev (a := a) ?_ hG
  intro t
  unfold maskE
  cases hm : memN t (slotsOf o) with
  | false => trivial
  | true => exact h t (mem_looks (memN_iff.1 hm))
end
end Go.Xe
