/- Executor, second make: rows of operations whose order is drawn, whole. -/
import Derived.Test.YtgjggcgdilahdaaX18
set_option linter.unusedVariables false
set_option linter.unusedSimpArgs false
set_option linter.constructorNameAsVariable false
set_option linter.unusedVariables false
set_option linter.unusedSimpArgs false
namespace Go.Xe
open Go.RowKit
section
variable {P : Program} {G : Nat → Bool} {D : Disp} {ops : Array Oper} {K : Tr AV → St → Prop} {n : Nat} {plan : Plan} {base : Nat} {ρ0 : Ren} {S0 : St} {w0 : World}

theorem sub_filter {pend : List Pen} {M : Mem} (hd : pend.Pairwise fun p q => p.2.1 ≠ q.2.1 ∧ p.1 ≠ q.1) (hM : ∀ p ∈ pend, M (.new p.2.1) = none) {f f' : Pen → Bool} (hf : ∀ p ∈ pend, f p = true → f' p = true) :
    ∀ b ao, orG (penG (pend.filter f)) M b = some ao → orG (penG (pend.filter f')) M b = some ao := by
  intro b ao hb
  rcases orG_some hb with hb | ⟨_, hb⟩
  · obtain ⟨p, hp, rfl, rfl⟩ := penG_some hb
    rw [List.mem_filter] at hp
    exact orG_left (penG_mem (hd.filter f') (List.mem_filter.2 ⟨hp.1, hf p hp.1 hp.2⟩))
  · cases he : penG (pend.filter f') b with
    | none => rw [orG_right he]; exact hb
    | some x =>
      obtain ⟨p, hp, rfl, rfl⟩ := penG_some he
      rw [hM p (List.mem_filter.1 hp).1] at hb; cases hb

theorem pen_idx : ∀ {l : List Pen}, (l.Pairwise fun p q => p.2.1 ≠ q.2.1 ∧ p.1 ≠ q.1) → ∀ p ∈ l, ∀ q ∈ l, p ≠ q → p.2.1 ≠ q.2.1 ∧ p.1 ≠ q.1
  | [], _ => by simp
  | r :: l, hl => by
    rw [List.pairwise_cons] at hl
    intro p hp q hq hpq
    rcases List.mem_cons.1 hp with rfl | hp2 <;> rcases List.mem_cons.1 hq with rfl | hq2
    · exact absurd rfl hpq
    · exact hl.1 q hq2
    · exact ⟨fun e => (hl.1 p hp2).1 e.symm, fun e => (hl.1 p hp2).2 e.symm⟩
    · exact pen_idx hl.2 p hp2 q hq2 hpq
theorem Sim.raise {base ρ g next next' w} (h : Sim base ρ g next w) (hn : next ≤ next') : Sim base ρ g next' w := ⟨h.obj, h.inj, fun m hm => h.fresh m (by omega), h.lows, h.size⟩
theorem Next.raise {base ρ g nx w g' n1 n2 ρ' w'} (h : Next base ρ g nx w g' n1 ρ' w') (hn : n1 ≤ n2) : Next base ρ g nx w g' n2 ρ' w' := ⟨h.le, h.sim.raise hn, h.below, h.frame, h.img, h.ids, Nat.le_trans h.up hn⟩

def unl (ops : Array Oper) (listed : Array Bool) : Nat := ((List.range ops.size).filter fun i => !lst listed i).length
theorem unl_set {listed : Array Bool} {i : Nat} (hi : i < ops.size) (hs : listed.size = ops.size) (hl : lst listed i = false) : unl ops (listed.setIfInBounds i true) + 1 ≤ unl ops listed := by
  unfold unl
  have hset := lst_set (listed := listed) (i := i) (by omega)
  have e : ((List.range ops.size).filter fun j => !lst (listed.setIfInBounds i true) j) = ((List.range ops.size).filter fun j => !lst listed j).filter fun j => !decide (j = i) := by
    rw [List.filter_filter]
    congr 1
    funext j
    rw [hset]
    simp [Bool.and_comm]
  rw [e]
  have hm : i ∈ (List.range ops.size).filter fun j => !lst listed j := by
    rw [List.mem_filter, List.mem_range]; exact ⟨hi, by simp [hl]⟩
  have := List.length_filter_lt_length_iff_exists (p := fun j => !decide (j = i)) |>.2 ⟨i, hm, by simp⟩
  omega

theorem StepsOK.at {P n ops} : ∀ (pl pre0 : Plan), StepsOK P n ops pre0 pl → ∀ s ∈ pl, ∃ pre1 pl1 o, pl = pre1 ++ s :: pl1 ∧ ops[s.1]? = some o ∧ StepOK P n ops (pre0 ++ pre1) s o
  | [], pre0, _, s, hs => by simp at hs
  | q :: pl, pre0, h, s, hs => by
    cases h with
    | cons ho hq hn h' =>
      rcases List.mem_cons.1 hs with rfl | hs
      · exact ⟨[], pl, _, rfl, ho, by simpa using hq⟩
      · obtain ⟨pre1, pl1, o, e, h1, h2⟩ := StepsOK.at pl (pre0 ++ [q]) h' s hs
        exact ⟨q :: pre1, pl1, o, by rw [e]; rfl, h1, by simpa using h2⟩

theorem Inv.fin {listed a w E M N pend rs pre pl ρ} (h : Inv P G D ops K n plan base ρ0 S0 w0 listed a w E M N pend rs pre pl ρ) (hn : n ≤ 4096) (hfull : ∀ i, i < ops.size → ∃ s ∈ plan, s.1 = i) (hplan : StepsOK P n ops [] plan)
    (hall : ∀ i, i < ops.size → lst listed i = true) : CP base ρ0 S0 w0 n K .normal a w := by
  have hpl : pl = [] := by
    cases pl with
    | nil => rfl
    | cons s pl =>
      have h1 := h.later s (by simp)
      cases h.ok with
      | cons ho hq hn h' =>
        have := hall s.1 (Array.getElem?_eq_some_iff.1 ho).1
        rw [h1] at this; cases this
  subst hpl
  cases h.can with
  | fin hK =>
    refine ⟨rfl, E, mat M N pend, ρ, hK, ⟨fun t => h.slots t fun j oj hj _ => hall j (Array.getElem?_eq_some_iff.1 hj).1, h.asz, h.adef, hn⟩, ?_⟩
    have e : (pend.filter fun p => lst listed p.1) = pend := by
      rw [List.filter_eq_self]
      intro p hp
      obtain ⟨_, _, _, _, s, hs, hsp⟩ := h.pen p hp
      obtain ⟨_, _, i, _, hi, _⟩ := StepsOK.at plan [] hplan s (by rw [h.hpl]; exact List.mem_append_left _ hs)
      rw [← hsp]; exact hall _ (Array.getElem?_eq_some_iff.1 hi).1
    have hnx := h.nxt
    rw [e] at hnx
    rw [mat_get]
    exact hnx

theorem Inv.any (hD : DOK P G D) (hz : ZeroOK P) (hn : n ≤ 4096) (hfull : ∀ i, i < ops.size → ∃ s ∈ plan, s.1 = i) (hplan : StepsOK P n ops [] plan) (hG0 : GOK G ρ0) : ∀ (fuel : Nat) {listed a w E M N pend rs pre pl ρ},
    Inv P G D ops K n plan base ρ0 S0 w0 listed a w E M N pend rs pre pl ρ → unl ops listed ≤ fuel → wpAny P .any ops (CP base ρ0 S0 w0 n K) fuel listed a w := by
  -- if nothing may come, all has come
  have stuck : ∀ {listed a w E M N pend rs pre pl ρ}, Inv P G D ops K n plan base ρ0 S0 w0 listed a w E M N pend rs pre pl ρ → Region.ready .any ops listed = [] → ∀ i, i < ops.size → lst listed i = true := by
    intro listed a w E M N pend rs pre pl ρ h hr
    have key : ∀ (pl pre : Plan), StepsOK P n ops pre pl → (∀ q ∈ pre, lst listed q.1 = true) → ∀ s ∈ pl, lst listed s.1 = true := by
      intro pl
      induction pl with
      | nil => simp
      | cons s pl ihp =>
        intro pre hok hpre
        cases hok with
        | @cons _ _ _ o ho hs hnd hok' =>
          have hs1 : lst listed s.1 = true := by
            cases hl : lst listed s.1 with
            | true => rfl
            | false =>
              exfalso
              have hlt : s.1 < ops.size := (Array.getElem?_eq_some_iff.1 ho).1
              have : s.1 ∈ Region.ready .any ops listed := by
                rw [mem_ready]
                refine ⟨?_, o, ho, fun e he hb => ?_⟩
                · unfold lst at hl
                  have : s.1 < listed.size := by rw [h.lsz]; exact hlt
                  simp [this] at hl ⊢
                  exact hl
                · obtain ⟨_, q, hq, hq1⟩ := hs.direct e he hb
                  rw [← hq1]; exact hpre q hq
              rw [hr] at this; cases this
          intro r hr'
          rcases List.mem_cons.1 hr' with rfl | hr'
          · exact hs1
          · refine ihp (pre ++ [s]) hok' ?_ r hr'
            intro q hq
            rcases List.mem_append.1 hq with hq | hq
            · exact hpre q hq
            · simp at hq; subst hq; exact hs1
    intro i hi
    obtain ⟨s, hs, rfl⟩ := hfull i hi
    exact key plan [] hplan (by simp) s hs
  intro fuel
  induction fuel with
  | zero =>
    intro listed a w E M N pend rs pre pl ρ h hu
    have hall : ∀ i, i < ops.size → lst listed i = true := by
      intro i hi
      cases hl : lst listed i with
      | true => rfl
      | false => have := unl_set hi h.lsz hl; omega
    refine ⟨?_, h.fin hn hfull hplan hall⟩
    cases hr : Region.ready .any ops listed with
    | nil => rfl
    | cons i l =>
      exfalso
      have : i ∈ Region.ready .any ops listed := by rw [hr]; simp
      rw [mem_ready] at this
      obtain ⟨h1, o, ho, _⟩ := this
      have hlt : i < ops.size := (Array.getElem?_eq_some_iff.1 ho).1
      have h2 := hall i hlt
      unfold lst at h2
      have : i < listed.size := by rw [h.lsz]; exact hlt
      simp [this] at h1 h2
      rw [h1] at h2; cases h2
  | succ fuel ih =>
    intro listed a w E M N pend rs pre pl ρ h hu
    have hG : GOK G ρ := hG0.mono h.nxt.le
    have hM : ∀ p ∈ pend, M.get (.new p.2.1) = none := fun p hp => (h.pen p hp).2.2.1
    refine ⟨fun hr => h.fin hn hfull hplan (stuck h hr), ?_⟩
    intro i hi
    rw [mem_ready] at hi
    obtain ⟨hil, o, ho, hdir⟩ := hi
    have hilt : i < ops.size := (Array.getElem?_eq_some_iff.1 ho).1
    have hlsz : i < listed.size := by rw [h.lsz]; exact hilt
    have hl : lst listed i = false := by
      unfold lst
      simp [hlsz] at hil ⊢
      exact hil
    have hun := unl_set hilt h.lsz hl
    have hset := lst_set hlsz
    obtain ⟨s, hs, hsi⟩ := hfull i hilt
    have ho' : ops[s.1]? = some o := by rw [hsi]; exact ho
    have hanc := ancListed h.dc plan [] hplan (by simp) s hs o ho' hdir
    obtain ⟨pre1, pl1, o1, hpl1, ho1, hst⟩ := StepsOK.at plan [] hplan s hs
    rw [ho'] at ho1; cases ho1
    have hlook := h.look hst.looks hanc
    have henv := env_ok (ops := ops) (G := G) hG hlook
    have hgl : ∀ j want p d, o.guard = some (j, want) → ops[j]? = some p → p.dst = some d → VR ρ (gE E d) (a.tmps.getD d undef) := fun j want p d h1 h2 h3 => hlook d (mem_looks_g h1 h2 h3)
    unfold wpOp
    simp only [ho]
    have hsplit : s ∈ pre ∨ s ∈ pl := by rw [h.hpl] at hs; exact List.mem_append.1 hs
    rcases hsplit with hspre | hspl
    · -- one that may come
      have hfact := h.facts s hspre (by rw [hsi]; exact hl) o ho'
      rw [hsi] at hfact
      -- nothing of the memory is turned by it
      have quiet : (∀ p ∈ pend, p.1 ≠ i) → ∀ {v cv}, (∀ d, o.dst = some d → gE E d = v) → VR ρ v cv → wpAny P .any ops (CP base ρ0 S0 w0 n K) fuel (listed.setIfInBounds i true) (a.put o.dst cv) w := by
        intro hnp v cv hv hcv
        have efl : (pend.filter fun p => lst (listed.setIfInBounds i true) p.1) = pend.filter fun p => lst listed p.1 := by
          apply List.filter_congr
          intro p hp
          rw [hset]; simp [hnp p hp]
        refine ih (h.done ho hl ⟨s, hspre, hsi⟩ hdir hst.dlt hv hcv (ρ' := ρ) (w' := w) ?_ ?_) (by omega)
        · rw [efl]
          have := Next.refl h.nxt.sim
          exact ⟨this.le, this.sim, this.below, this.frame, this.img, fun _ _ h0 => h0, h.nxt.up⟩
        · intro p hp hlp
          rw [hset] at hlp
          simp at hlp
          exact (h.pen p hp).2.2.2.1 hlp.1
      cases hfact with
      | skip hg hd hnp =>
        rw [hg.wanted hgl]
        simp only [Bool.false_eq_true, if_false]
        exact quiet hnp hd (undef_ok _)
      | pure v hg hd hr hnp =>
        rw [hg.wanted hgl]
        simp only [if_true]
        obtain ⟨v', cv, rfl, h2, h3⟩ := pureK_run hr henv
        left
        unfold Oper.wp
        rw [h3]
        exact quiet hnp hd h2
      | read v hg hd hr hi hnp =>
        rw [hg.wanted hgl]
        simp only [if_true]
        have hsim : Sim base ρ M.get N w := h.nxt.sim.less fun b ao hb => by
          cases he : penG (pend.filter fun p => lst listed p.1) b with
          | none => rw [orG_right he]; exact hb
          | some x =>
            obtain ⟨p, hp, rfl, rfl⟩ := penG_some he
            rw [hM p (List.mem_filter.1 hp).1] at hb; cases hb
        obtain ⟨v', cv, rfl, h2, h3⟩ := readK_run hr henv hsim
        left
        unfold Oper.wp
        rw [h3]
        exact quiet hnp hd h2
      | made mk id hg hd hr hp =>
        rw [hg.wanted hgl]
        simp only [if_true]
        obtain ⟨mk', rfl, sm, hex, hmk⟩ := madeK_run hr henv base
        obtain ⟨cv, ob, m, h1, h2, h3⟩ := hmk _ _ _ h.nxt.sim
        left
        unfold Oper.wp
        rw [hex]
        simp only [Sem.run_bind, h1, Result.andThen_ok, Sem.run_pure]
        show wpAny P .any ops (CP base ρ0 S0 w0 n K) fuel (listed.setIfInBounds i true) (a.put o.dst cv) _
        obtain ⟨p1, p2, p3, p4, _⟩ := h.pen _ hp
        have hnone := p4 hl
        have hnew := h.nxt.sim.newAt (k := id) hnone (next' := N) (Nat.le_refl _) p1 h2 (nx := S0.next) p2
        have eg : orG (penG (pend.filter fun p => lst (listed.setIfInBounds i true) p.1)) M.get = gset (orG (penG (pend.filter fun p => lst listed p.1)) M.get) (.new id) (some mk'.ao) := by
          funext b
          unfold gset
          by_cases hb : b = .new id
          · subst hb
            rw [if_pos rfl]
            exact orG_left (penG_mem (p := (i, id, mk'.ao)) (h.pend_d.filter _) (List.mem_filter.2 ⟨hp, by rw [hset]; simp⟩))
          · rw [if_neg hb]
            cases he : penG (pend.filter fun p => lst (listed.setIfInBounds i true) p.1) b with
            | none =>
              have : penG (pend.filter fun p => lst listed p.1) b = none := by
                cases he' : penG (pend.filter fun p => lst listed p.1) b with
                | none => rfl
                | some x =>
                  obtain ⟨q, hq, rfl, rfl⟩ := penG_some he'
                  rw [List.mem_filter] at hq
                  have := penG_mem (p := q) (h.pend_d.filter fun p => lst (listed.setIfInBounds i true) p.1) (List.mem_filter.2 ⟨hq.1, by rw [hset, hq.2]; rfl⟩)
                  rw [this] at he; cases he
              rw [orG_right he, orG_right this]
            | some x =>
              obtain ⟨q, hq, rfl, rfl⟩ := penG_some he
              rw [List.mem_filter] at hq
              obtain ⟨hq1, hq2⟩ := hq
              rw [hset] at hq2
              simp at hq2
              rcases hq2 with hq2 | hq2
              · rw [orG_left he]
                exact (orG_left (penG_mem (h.pend_d.filter _) (List.mem_filter.2 ⟨hq1, hq2⟩))).symm
              · exfalso
                -- the same operation: the same block
                have : q = (i, id, mk'.ao) := by
                  by_cases e : q = (i, id, mk'.ao)
                  · exact e
                  · exfalso
                    exact (pen_idx h.pend_d q hq1 _ hp e).2 hq2
                rw [this] at hb; exact hb rfl
        refine ih (h.done ho hl ⟨s, hspre, hsi⟩ hdir hst.dlt hd (v := .one (.s (mk'.v (.new id)))) (cv := cv) (ρ' := upd ρ (.new id) (w.heap.size, 0, m)) (w' := w.alloc ob) (h3 _ _ hnew.le (by simp [upd])) ?_ ?_) (by omega)
        · rw [eg]; exact hnew
        · intro p hpp hlp
          rw [hset] at hlp
          simp at hlp
          have h0 := (h.pen p hpp).2.2.2.1 hlp.1
          have hne : Bk.new p.2.1 ≠ Bk.new id := by
            intro e
            have e1 : p.2.1 = id := by cases e; rfl
            refine (pen_idx h.pend_d p hpp _ hp ?_).1 e1
            intro e2; rw [e2] at hlp; exact hlp.2 rfl
          simp only [upd, hne, if_false]; exact h0
    · -- the step that turns memory
      cases hcan : h.can with
      | fin hK => simp at hspl
      | @call hd tl _ _ _ _ oc hoc hcc hgc hstp =>
        have hhd : s = hd := by
          rcases List.mem_cons.1 hspl with e | hstl
          · exact e
          · exfalso
            have hdl := h.later hd (by simp)
            cases h.ok with
            | cons hoq hsq hnq hq2 =>
              obtain ⟨pre2, pl2, o2, e2, ho2, hst2⟩ := StepsOK.at tl (pre ++ [hd]) hq2 s hstl
              rw [ho'] at ho2; cases ho2
              have := hanc _ (hst2.wanc hd (by simp) oc hoc hcc)
              rw [hdl] at this; cases this
        subst hhd
        rw [ho'] at hoc; cases hoc
        rw [hgc.wanted hgl]
        simp only [if_true]
        left
        have hanc' : ∀ p ∈ pend, memN p.1 s.2 = true → lst listed p.1 = true := fun p _ hm => hanc _ (memN_iff.1 hm)
        have hg1 : ∀ b ao, (mat M N (pend.filter fun p => memN p.1 s.2)).get b = some ao → orG (penG (pend.filter fun p => lst listed p.1)) M.get b = some ao := by
          rw [mat_get]
          exact sub_filter h.pend_d hM hanc'
        have hsimW : Sim base ρ (mat M N (pend.filter fun p => memN p.1 s.2)).get (mat M N (pend.filter fun p => memN p.1 s.2)).next w := h.nxt.sim.less hg1
        refine stepK_wp hD hz hstp henv hG hsimW ?_
        intro v S' cv ρ' w' hre hv hnw
        show wpAny P .any ops (CP base ρ0 S0 w0 n K) fuel (listed.setIfInBounds i true) (a.put o.dst cv) w'
        obtain ⟨hdr, hrfacts⟩ := rechk_some hre
        have hok := h.ok
        cases hok with
        | @cons _ _ _ o3 ho3 hss hnd hoktl =>
        rw [ho'] at ho3; cases ho3
        -- what stands beside
        have he : ∀ b ao, penG ((pend.filter fun p => !memN p.1 s.2).filter fun p => lst listed p.1) b = some ao → orG (penG (pend.filter fun p => lst listed p.1)) M.get b = some ao ∧ (mat M N (pend.filter fun p => memN p.1 s.2)).get b = none := by
          intro b ao hb
          obtain ⟨p, hp, rfl, rfl⟩ := penG_some hb
          rw [List.mem_filter, List.mem_filter] at hp
          obtain ⟨⟨hp1, hp2⟩, hp3⟩ := hp
          refine ⟨orG_left (penG_mem (h.pend_d.filter _) (List.mem_filter.2 ⟨hp1, hp3⟩)), ?_⟩
          rw [mat_get]
          cases hq : penG (pend.filter fun p => memN p.1 s.2) (.new p.2.1) with
          | none => rw [orG_right hq]; exact hM p hp1
          | some x =>
            exfalso
            obtain ⟨q, hq1, hq2, _⟩ := penG_some hq
            rw [List.mem_filter] at hq1
            by_cases e : q = p
            · rw [e] at hq1; rw [hq1.2] at hp2; cases hp2
            · exact (pen_idx h.pend_d q hq1.1 p hp1 e).1 (by injection hq2 with h9; exact h9.symm)
        obtain ⟨hx, hdis⟩ := Next.extend h.nxt.sim hg1 he (fun b ao hb => by obtain ⟨p, _, rfl, _⟩ := penG_some hb; exact ⟨_, rfl⟩) hnw
        have hNS : N ≤ S'.next := hnw.up
        obtain ⟨pre2, pl2, E2, N2, new, rs2, etl, hok2, hcan2, hf2, hE2, hnew, hnewp, hrs2, hN2⟩ := adv hn tl (pre ++ [s]) (putE E o.dst v) S'.next (pend.filter fun p => !memN p.1 s.2) rs
          (fun p hp => by obtain ⟨_, _, _, _, q, hq, e⟩ := h.pen p (List.mem_filter.1 hp).1; exact ⟨q, by simp [hq], e⟩) hoktl hdr
        have haps := StepsOK.apart ho' tl (pre ++ [s]) (by simp) hoktl
        have hd256 : ∀ d, o.dst = some d → d < 4096 := fun d e => Nat.lt_of_lt_of_le (hss.dlt d e) hn
        have hback : ∀ j, lst (listed.setIfInBounds i true) j = false → lst listed j = false ∧ j ≠ i := fun j hj => by
          rw [hset] at hj; simp at hj; exact hj
        have hmono : ∀ j, lst listed j = true → lst (listed.setIfInBounds i true) j = true := fun j hj => by rw [hset, hj]; rfl
        have hlater : ∀ q ∈ tl, lst (listed.setIfInBounds i true) q.1 = false := by
          intro q hq
          rw [hset, h.later q (by simp [hq])]
          have := (haps q hq).1
          rw [hsi] at this
          simp [this]
        have hunm : ∀ j, lst listed j = false → memN j s.2 = false := by
          intro j hj
          cases hm : memN j s.2 with
          | false => rfl
          | true => have := hanc j (memN_iff.1 hm); rw [hj] at this; cases this
        refine ih (E := E2) (M := S') (N := N2) (pend := new ++ pend.filter fun p => !memN p.1 s.2) (rs := rs2) (pre := pre ++ [s] ++ pre2) (pl := pl2) (ρ := ρ')
          ⟨by rw [h.hpl, etl]; simp, hok2, hcan2, ?_, fun q hq => hlater q (by rw [etl]; simp [hq]), ?_, by simp [Act.put]; cases o.dst <;> simp [h.asz], by cases hd : o.dst <;> exact h.adef, ?_, ?_, ?_, ?_, by simp [h.lsz]⟩ (by omega)
        · -- what is known of those that may come
          intro q hq hql oq hoq
          rcases List.mem_append.1 hq with hq | hq
          · rcases List.mem_append.1 hq with hq | hq
            · obtain ⟨hql1, hqi⟩ := hback _ hql
              have hapq := StepsOK.apart hoq (s :: tl) pre hq h.ok
              have hag : ∀ t, (t ∈ oq.looksAt ops ∨ oq.dst = some t) → gE E2 t = gE E t := by
                intro t ht
                have hne : ∀ r ∈ s :: tl, ∀ or, ops[r.1]? = some or → or.dst ≠ some t := by
                  intro r hr or hor e
                  have := (hapq r hr).2 or hor t e
                  rcases ht with ht | ht
                  · exact this.1 ht
                  · exact this.2 ht
                rw [hE2 t fun r hr => hne r (by rw [etl]; simp [hr]), gE_put _ _ _ _ hd256, if_neg (hne s (by simp) o ho')]
              have hag1 : ∀ t ∈ oq.looksAt ops, gE E2 t = gE E t := fun t ht => hag t (.inl ht)
              have hag2 : ∀ d, oq.dst = some d → gE E2 d = gE E d := fun d hd => hag d (.inr hd)
              have hpp : ∀ p ∈ (new ++ pend.filter fun p => !memN p.1 s.2), p.1 = q.1 → p ∈ pend := by
                intro p hp e
                rcases List.mem_append.1 hp with hp | hp
                · exfalso
                  obtain ⟨_, _, r, hr, hr1⟩ := hnew p hp
                  exact (hapq r (by rw [etl]; simp [hr])).1 (by rw [hr1, e])
                · exact (List.mem_filter.1 hp).1
              have hnn : (∀ p ∈ pend, p.1 ≠ q.1) → ∀ p ∈ (new ++ pend.filter fun p => !memN p.1 s.2), p.1 ≠ q.1 := fun h1 p hp e => h1 p (hpp p hp e) e
              cases h.facts q hq hql1 oq hoq with
              | skip g1 g2 g3 => exact .skip (g1.congr hag1) (fun d hd => by rw [hag2 d hd]; exact g2 d hd) (hnn g3)
              | pure v g1 g2 g3 g4 => exact .pure v (g1.congr hag1) (fun d hd => by rw [hag2 d hd]; exact g2 d hd) (by rw [envM_congr hag1]; exact g3) (hnn g4)
              | read v g1 g2 g3 g4 g5 =>
                obtain ⟨v', k1, k2⟩ := hrfacts q.1 g4 (hunm _ hql1) oq hoq
                exact .read v' (g1.congr hag1) (fun d hd => by rw [hag2 d hd]; exact k1 d hd) (by rw [envM_congr hag1]; exact k2) (hrs2 _ g4) (hnn g5)
              | made mk id g1 g2 g3 g4 => exact .made mk id (g1.congr hag1) (fun d hd => by rw [hag2 d hd]; exact g2 d hd) (by rw [envM_congr hag1]; exact g3) (List.mem_append_right _ (List.mem_filter.2 ⟨g4, by rw [hunm _ hql1]; rfl⟩))
            · exfalso
              simp at hq; subst hq
              exact (hback _ hql).2 hsi
          · exact hf2 q hq oq hoq
        · -- the slots
          intro t ht
          have h1 : gE E2 t = gE (putE E o.dst v) t := hE2 t fun r hr or hor e => by
            have := ht r.1 or hor e
            rw [hlater r (by rw [etl]; simp [hr])] at this; cases this
          rw [h1, gE_put _ _ _ _ hd256]
          by_cases e : o.dst = some t
          · rw [if_pos e, e, Act.put_getD_eq (by rw [h.asz]; exact hss.dlt t e)]; exact hv
          · rw [if_neg e, Act.put_getD_ne e]
            refine (h.slots t fun j oj hj hjd => ?_).mono hnw.le
            have := ht j oj hj hjd
            rw [hset] at this
            simp at this
            rcases this with h2 | h2
            · exact h2
            · subst h2; rw [ho] at hj; cases hj; exact absurd hjd e
        · -- the blocks that are not yet in the memory
          have hnone : ∀ m, ρ' (.new m) = none → S'.get (.new m) = none := by
            intro m hm
            cases hg : S'.get (.new m) with
            | none => rfl
            | some ao => obtain ⟨r, sh, mm, h1, _⟩ := hnw.sim.obj _ _ hg; rw [hm] at h1; cases h1
          intro p hp
          rcases List.mem_append.1 hp with hp | hp
          · obtain ⟨g1, g2, r, g3, g4⟩ := hnew p hp
            have hfr := hnw.sim.fresh p.2.1 g1
            have := h.nxt.up
            exact ⟨g2, by omega, hnone _ hfr, fun _ => hfr, r, by simp [g3], g4⟩
          · have hp1 := (List.mem_filter.1 hp).1
            obtain ⟨g1, g2, g3, g4, r, g5, g6⟩ := h.pen p hp1
            have hids : lst listed p.1 = false → ρ' (.new p.2.1) = none := fun hl => hnw.ids _ g1 (g4 hl)
            refine ⟨by omega, g2, ?_, fun hl => hids (hback _ hl).1, r, by simp [g5], g6⟩
            cases hl : lst listed p.1 with
            | false => exact hnone _ (hids hl)
            | true => exact hdis _ _ (penG_mem ((h.pend_d.filter _).filter _) (List.mem_filter.2 ⟨hp, hl⟩))
        · rw [List.pairwise_append]
          refine ⟨hnewp, h.pend_d.filter _, fun p hp q hq => ?_⟩
          obtain ⟨g1, g2, r, g3, g4⟩ := hnew p hp
          have hq1 := (List.mem_filter.1 hq).1
          obtain ⟨k1, _, _, _, r', k5, k6⟩ := h.pen q hq1
          refine ⟨by omega, fun e => ?_⟩
          obtain ⟨_, _, oq, _, hoq, _⟩ := StepsOK.at plan [] hplan r' (by rw [h.hpl]; exact List.mem_append_left _ k5)
          exact (StepsOK.apart hoq (s :: tl) pre k5 h.ok r (by rw [etl]; simp [g3])).1 (by rw [g4, e, k6])
        · have ef : ((new ++ pend.filter fun p => !memN p.1 s.2).filter fun p => lst (listed.setIfInBounds i true) p.1) = (pend.filter fun p => !memN p.1 s.2).filter fun p => lst listed p.1 := by
            rw [List.filter_append]
            have e1 : (new.filter fun p => lst (listed.setIfInBounds i true) p.1) = [] := by
              rw [List.filter_eq_nil_iff]
              intro p hp
              obtain ⟨_, _, r, g3, g4⟩ := hnew p hp
              have := hlater r (by rw [etl]; simp [g3])
              rw [← g4, this]; simp
            rw [e1, List.nil_append]
            apply List.filter_congr
            intro p hp
            obtain ⟨_, _, _, _, r, g5, g6⟩ := h.pen p (List.mem_filter.1 hp).1
            have : p.1 ≠ i := by rw [← g6, ← hsi]; exact hnd r g5
            rw [hset]; simp [this]
          rw [ef]
          exact (h.nxt.trans hx).raise hN2
        · intro j oj hj hl' e he' hb
          rw [hset] at hl'
          simp at hl'
          rcases hl' with hl' | hl'
          · exact hmono _ (h.dc j oj hj hl' e he' hb)
          · subst hl'; rw [ho] at hj; cases hj; exact hmono _ (hdir e he' hb)

/-- A row of operations whose order is drawn does what it does in the plan's order. -/
theorem drK_any (hD : DOK P G D) (hz : ZeroOK P) (hn : n ≤ 4096) (hfull : ∀ i, i < ops.size → ∃ s ∈ plan, s.1 = i) (hplan : StepsOK P n ops [] plan) {E : Tr AV} {S : St} (h : drK P G D ops K plan E S S.next [] [])
    (base : Nat) (ρ : Ren) (a : Act) (w : World) (ha : AR ρ n E a) (hG : GOK G ρ) (hw : Sim base ρ S.get S.next w) : wpAny P .any ops (CP base ρ S w n K) ops.size (Array.replicate ops.size false) a { w with drawn := w.drawn + 1 } := by
  obtain ⟨pre2, pl2, E2, N2, new, rs2, epl, hok2, hcan2, hf2, hE2, hnew, hnewp, hrs2, hN2⟩ := adv hn plan [] E S.next [] [] (by simp) hplan h
  have hw' : Sim base ρ S.get S.next { w with drawn := w.drawn + 1 } := hw.drew rfl
  have hnone : ∀ m, S.next ≤ m → S.get (.new m) = none := by
    intro m hm
    cases hg : S.get (.new m) with
    | none => rfl
    | some ao => obtain ⟨r, sh, mm, h1, _⟩ := hw.obj _ _ hg; rw [hw.fresh m hm] at h1; cases h1
  have hl0 : ∀ j, lst (Array.replicate ops.size false) j = false := by
    intro j
    unfold lst
    by_cases hj : j < ops.size
    · simp [hj]
    · simp [hj]
  refine Inv.any hD hz hn hfull hplan hG ops.size (E := E2) (M := S) (N := N2) (pend := new) (rs := rs2) (pre := pre2) (pl := pl2) (ρ := ρ) ⟨epl, by simpa using hok2, by simpa using hcan2, fun s hs _ o ho => by simpa using hf2 s hs o ho, fun s _ => hl0 s.1, ?_, ha.size, ha.defers, ?_, hnewp, ?_, ?_, by simp⟩ ?_
  · intro t ht
    rw [hE2 t fun s hs o ho e => by have := ht s.1 o ho e; rw [hl0] at this; cases this]
    exact ha.er t
  · intro p hp
    obtain ⟨g1, g2, s, g3, g4⟩ := hnew p hp
    exact ⟨g2, g1, hnone _ g1, fun _ => hw.fresh _ g1, s, g3, g4⟩
  · have ef : (new.filter fun p => lst (Array.replicate ops.size false) p.1) = [] := by
      rw [List.filter_eq_nil_iff]; intro p _; rw [hl0]; simp
    rw [ef]
    have eg : orG (penG []) S.get = S.get := by
      funext b; exact orG_right (by cases b <;> rfl)
    rw [eg]
    exact ((Next.refl hw').raise hN2).drew rfl ⟨rfl, rfl, rfl⟩
  · intro j oj _ hl
    rw [hl0] at hl; cases hl
  · unfold unl
    exact Nat.le_trans (List.length_filter_le _ _) (by simp)
theorem drK_wp (hD : DOK P G D) (hz : ZeroOK P) (hm : P.follows .mixedOrders = true) (hn : n ≤ 4096) (hfull : ∀ i, i < ops.size → ∃ s ∈ plan, s.1 = i) (hplan : StepsOK P n ops [] plan) {E : Tr AV} {S : St} (h : drK P G D ops K plan E S S.next [] [])
    (id : Nat) (base : Nat) (ρ : Ren) (a : Act) (w : World) (ha : AR ρ n E a) (hG : GOK G ρ) (hw : Sim base ρ S.get S.next w) : (Code.region id ops true).wp P (CP base ρ S w n K) a w :=
  wp_region_any hm (drK_any hD hz hn hfull hplan h base ρ a w ha hG hw)

theorem wp_conv {o : Oper} {a : Act} {w : World} {K K' : Act → World → Prop} {Q1 Q : Exit → Act → World → Prop} (h : ∀ a w, K a w → K' a w) (hq : ∀ e a w, e ≠ .normal → Q1 e a w → Q e a w) (hh : o.wp P a w K Q1) : o.wp P a w K' Q := by
  have hl : LetsOut Q1 → LetsOut Q := fun ⟨a, w, k⟩ => ⟨a, w, hq _ _ _ (by simp) k⟩
  unfold Oper.wp at *
  generalize (execOp a.eval o).run P w = r at *
  cases r with
  | ok n w' =>
    cases n <;> simp only [Oper.upon] at hh ⊢ <;>
      first
        | exact h _ _ hh
        | exact Calls.mono hh (fun e w'' he => by cases e <;> first | exact h _ _ he | exact hl he | exact hq _ _ _ (by simp) he)
        | exact Rows.mono hh (fun _ _ he => h _ _ he)
  | halt x w' => cases x <;> simp only [Oper.upon] at hh ⊢ <;> first | exact hh | exact hq _ _ _ (by simp) hh

theorem lst_push (listed : Array Bool) (k : Nat) : (listed.push false).getD k false = listed.getD k false := by
  simp only [Array.getD_eq_getD_getElem?, Array.getElem?_push]
  split
  · rename_i e; subst e; simp
  · rfl
theorem pop_get {ops : Array Oper} {L : Nat} (hsz : ops.size = L + 1) {j : Nat} (hj : j < L) : ops.pop[j]? = ops[j]? := by
  rw [Array.getElem?_pop]; rw [if_pos (by omega)]

/-- An operation that waits for all others comes last. -/
theorem wpAny_last {Q1 Q : Exit → Act → World → Prop} {L : Nat} {o : Oper} (hsz : ops.size = L + 1) (ho : ops[L]? = some o) (hg : o.guard = none)
    (hQ1 : ∀ e a w, Q1 e a w → e = .normal ∧ o.wp P a w (Q .normal) Q)
    (hst : ∀ listed : Array Bool, listed.size = L → (∀ j oj, ops.pop[j]? = some oj → lst listed j = true → ∀ e ∈ oj.after, Region.binds .any e = true → lst listed e.on = true) → Region.ready .any ops.pop listed = [] → ∀ j, j < L → lst listed j = true)
    (hdep : ∀ listed : Array Bool, listed.size = L → (∀ j oj, ops.pop[j]? = some oj → lst listed j = true → ∀ e ∈ oj.after, Region.binds .any e = true → lst listed e.on = true) → (∀ e ∈ o.after, Region.binds .any e = true → lst listed e.on = true) → ∀ j, j < L → lst listed j = true)
    (hgd : ∀ (j : Nat) (oj : Oper), ops.pop[j]? = some oj → ∀ g want, oj.guard = some (g, want) → g < L) (hoe : ∀ e ∈ o.after, Region.binds .any e = true → e.on < L) :
    ∀ (fuel : Nat) (listed : Array Bool) (a : Act) (w : World), listed.size = L → (∀ j oj, ops.pop[j]? = some oj → lst listed j = true → ∀ e ∈ oj.after, Region.binds .any e = true → lst listed e.on = true) →
      wpAny P .any ops.pop Q1 fuel listed a w → wpAny P .any ops Q (fuel + 1) (listed.push false) a w := by
  have hpsz : ops.pop.size = L := by simp [hsz]
  have hpe : ops[ops.pop.size]? = some o := by rw [hpsz]; exact ho
  have rdy : ∀ {listed : Array Bool}, listed.size = L → ∀ {j : Nat}, j < L → (j ∈ Region.ready .any ops (listed.push false) ↔ j ∈ Region.ready .any ops.pop listed) := by
    intro listed hl j hj
    rw [mem_ready, mem_ready, pop_get hsz hj]
    have e1 : (listed.push false).getD j true = listed.getD j true := by
      simp only [Array.getD_eq_getD_getElem?, Array.getElem?_push]
      rw [if_neg (by omega)]
    rw [e1]
    simp only [lst_push]
  have rdyL : ∀ {listed : Array Bool}, listed.size = L → (L ∈ Region.ready .any ops (listed.push false) ↔ ∀ e ∈ o.after, Region.binds .any e = true → lst listed e.on = true) := by
    intro listed hl
    rw [mem_ready]
    have e1 : (listed.push false).getD L true = false := by
      simp [← hl]
    simp only [e1, ho, lst_push, lst, true_and, Option.some.injEq, exists_eq_left']
  have full : ∀ {listed : Array Bool} {a w}, listed.size = L → (∀ j, j < L → lst listed j = true) → Q .normal a w → ∀ fuel, wpAny P .any ops Q fuel ((listed.push false).setIfInBounds L true) a w := by
    intro listed a w hl hall hq fuel
    have hr : Region.ready .any ops ((listed.push false).setIfInBounds L true) = [] := by
      rw [List.eq_nil_iff_forall_not_mem]
      intro j hj
      rw [mem_ready] at hj
      obtain ⟨h1, oj, hoj, _⟩ := hj
      have hlt : j < L + 1 := by rw [← hsz]; exact (Array.getElem?_eq_some_iff.1 hoj).1
      have h2 : lst ((listed.push false).setIfInBounds L true) j = true := by
        rw [lst_set (by simp [hl])]
        by_cases e : j = L
        · simp [e]
        · have : lst (listed.push false) j = lst listed j := lst_push _ _
          rw [this, hall j (by omega)]; rfl
      unfold lst at h2
      have h3 : j < ((listed.push false).setIfInBounds L true).size := by simp [hl]; omega
      simp only [Array.getD_eq_getD_getElem?, Array.getElem?_eq_getElem h3, Option.getD_some] at h1 h2
      rw [h1] at h2; cases h2
    cases fuel with
    | zero => exact ⟨hr, hq⟩
    | succ fuel => exact ⟨fun _ => hq, fun i hi => by rw [hr] at hi; cases hi⟩
  have done : ∀ {listed : Array Bool} {a w} (fuel : Nat), listed.size = L → (∀ j, j < L → lst listed j = true) → Q1 .normal a w → wpAny P .any ops Q (fuel + 1) (listed.push false) a w := by
    intro listed a w fuel hl hall hq
    obtain ⟨_, hwp⟩ := hQ1 _ _ _ hq
    have hrL : L ∈ Region.ready .any ops (listed.push false) := (rdyL hl).2 fun e he hb => hall _ (hoe e he hb)
    refine ⟨fun hr => (by rw [hr] at hrL; cases hrL), fun i hi => ?_⟩
    have hi0 := hi
    rw [mem_ready] at hi0
    obtain ⟨_, oi, hoi, _⟩ := hi0
    have hile : i < L + 1 := by rw [← hsz]; exact (Array.getElem?_eq_some_iff.1 hoi).1
    by_cases e : i = L
    · subst e
      unfold wpOp
      simp only [ho, Region.wanted, hg, if_true]
      exact .inl (Oper.wp_mono (fun a' w' hq' => full hl hall hq' fuel) hwp)
    · have hlt : i < L := by omega
      rw [rdy hl hlt, mem_ready] at hi
      have h2 := hall i hlt
      have h1 := hi.1
      unfold lst at h2
      have h3 : i < listed.size := by omega
      simp only [Array.getD_eq_getD_getElem?, Array.getElem?_eq_getElem h3, Option.getD_some] at h1 h2
      rw [h1] at h2; cases h2
  intro fuel
  induction fuel with
  | zero =>
    intro listed a w hl hdc h
    exact done 0 hl (hst listed hl hdc h.1) h.2
  | succ fuel ih =>
    intro listed a w hl hdc h
    obtain ⟨h1, h2⟩ := h
    by_cases hr : Region.ready .any ops.pop listed = []
    · exact done (fuel + 1) hl (hst listed hl hdc hr) (h1 hr)
    · have hsome : ∃ i, i ∈ Region.ready .any ops.pop listed := by
        cases hc : Region.ready .any ops.pop listed with
        | nil => exact absurd hc hr
        | cons i l => exact ⟨i, by simp⟩
      have hltp : ∀ {i}, i ∈ Region.ready .any ops.pop listed → i < L := by
        intro i hi
        rw [mem_ready] at hi
        obtain ⟨_, oi, hoi, _⟩ := hi
        rw [← hpsz]; exact (Array.getElem?_eq_some_iff.1 hoi).1
      have hnot : ∀ {i}, i ∈ Region.ready .any ops.pop listed → lst listed i = false := by
        intro i hi
        have hlt := hltp hi
        rw [mem_ready] at hi
        have h1 := hi.1
        have h3 : i < listed.size := by omega
        unfold lst
        simp only [Array.getD_eq_getD_getElem?, Array.getElem?_eq_getElem h3, Option.getD_some] at h1 ⊢
        exact h1
      refine ⟨fun hr' => ?_, fun i hi => ?_⟩
      · obtain ⟨i, hi⟩ := hsome
        have := (rdy hl (hltp hi)).2 hi
        rw [hr'] at this; cases this
      · have hi0 := hi
        rw [mem_ready] at hi0
        obtain ⟨_, oi, hoi, _⟩ := hi0
        have hile : i < L + 1 := by rw [← hsz]; exact (Array.getElem?_eq_some_iff.1 hoi).1
        by_cases e : i = L
        · exfalso
          subst e
          have hall := hdep listed hl hdc ((rdyL hl).1 hi)
          obtain ⟨k, hk⟩ := hsome
          have := hall k (hltp hk)
          rw [hnot hk] at this; cases this
        · have hlt : i < L := by omega
          have hip := (rdy hl hlt).1 hi
          have hop := h2 i hip
          have hli : i < listed.size := by omega
          have hpush : (listed.push false).setIfInBounds i true = (listed.setIfInBounds i true).push false := by
            apply Array.ext_getElem?
            intro k
            rw [Array.getElem?_setIfInBounds, Array.getElem?_push, Array.getElem?_push, Array.getElem?_setIfInBounds]
            by_cases ek : i = k
            · subst ek
              have e1 : i ≠ listed.size := by omega
              simp [hli, e1]
              omega
            · simp [ek]
          have hdc' : ∀ j oj, ops.pop[j]? = some oj → lst (listed.setIfInBounds i true) j = true → ∀ e ∈ oj.after, Region.binds .any e = true → lst (listed.setIfInBounds i true) e.on = true := by
            intro j oj hj hlj ed he hb
            rw [lst_set hli] at hlj ⊢
            simp only [Bool.or_eq_true, decide_eq_true_eq] at hlj ⊢
            left
            rcases hlj with hlj | rfl
            · exact hdc j oj hj hlj ed he hb
            · rw [mem_ready] at hip
              obtain ⟨_, o2, ho2, hd2⟩ := hip
              rw [hj] at ho2; cases ho2
              exact hd2 ed he hb
          have ih' := fun a w => ih (listed.setIfInBounds i true) a w (by simp [hl]) hdc'
          rw [hpush]
          unfold wpOp at hop ⊢
          have hoi' : ops.pop[i]? = some oi := by rw [pop_get hsz hlt]; exact hoi
          have hy : Region.wanted oi (yielded ops a.tmps) = Region.wanted oi (yielded ops.pop a.tmps) := by
            unfold Region.wanted
            cases hgi : oi.guard with
            | none => rfl
            | some p =>
              obtain ⟨g, want⟩ := p
              have := hgd i oi hoi' g want hgi
              simp only [yielded, pop_get hsz this]
          simp only [hoi, hoi', hy] at hop ⊢
          split
          · rename_i hw
            simp only [hw, if_true] at hop
            rcases hop with hop | ⟨_, b, w2, hb⟩
            · exact .inl (wp_conv (fun a w h => ih' a w h) (fun e a w hne hq => absurd (hQ1 e a w hq).1 hne) hop)
            · have := (hQ1 _ _ _ hb).1; cases this
          · rename_i hw
            simp only [hw] at hop
            exact ih' _ _ hop
end
end Go.Xe
