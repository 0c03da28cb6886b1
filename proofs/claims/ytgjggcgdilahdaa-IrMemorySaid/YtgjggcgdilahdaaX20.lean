/- Executor, second make: code, functions. -/
import Derived.Test.YtgjggcgdilahdaaX19
set_option linter.unusedVariables false
set_option linter.unusedSimpArgs false
set_option linter.constructorNameAsVariable false
set_option linter.unusedVariables false
set_option linter.unusedSimpArgs false
namespace Go.Xe
open Go.RowKit

/- A plan's check. -/
def bindsB (e : Edge) : Bool := Region.binds .any e
def isW (P : Program) (o : Op) : Bool := match cls P o with | .w => true | _ => false
def stepB (P : Program) (n : Nat) (ops : Array Oper) (pre : Plan) (s : Nat × List Nat) (o : Oper) : Bool :=
  (o.after.toList.all fun e => !bindsB e || (memN e.on s.2 && memN e.on (pre.map (·.1)))) &&
  ((s.2.all fun j => (o.after.toList.any fun e => bindsB e && Nat.beq e.on j) || (o.after.toList.any fun e => bindsB e && (pre.any fun q => Nat.beq q.1 e.on && memN j q.2))) &&
  ((ops.toList.zipIdx.all fun x => match x.1.dst with | some t => !(memN t (o.looksAt ops)) || memN x.2 s.2 | none => true) &&
  ((ops.toList.zipIdx.all fun x => match x.1.dst, o.dst with | some t, some d => !(Nat.beq t d) || Nat.beq x.2 s.1 | _, _ => true) &&
  ((match o.dst with | some d => Nat.blt d n && !(memN d (o.looksAt ops)) | none => true) &&
  ((pre.all fun q => match ops[q.1]? with | some oq => (!(isW P oq.op) || memN q.1 s.2) && (match o.dst with | some d => !(memN d (oq.looksAt ops)) | none => true) | none => true) &&
  (pre.all fun q => !(Nat.beq q.1 s.1)))))))
def stepsB (P : Program) (n : Nat) (ops : Array Oper) : Plan → Plan → Bool
  | _, [] => true
  | pre, s :: pl => (match ops[s.1]? with | some o => stepB P n ops pre s o | none => false) && stepsB P n ops (pre ++ [s]) pl
def planB (P : Program) (n : Nat) (ops : Array Oper) (plan : Plan) : Bool := stepsB P n ops [] plan && ((List.range ops.size).all fun i => memN i (plan.map (·.1)))

theorem zip_mem {ops : Array Oper} {j : Nat} {oj : Oper} (h : ops[j]? = some oj) : (oj, j) ∈ ops.toList.zipIdx := by
  rw [List.mem_zipIdx_iff_getElem?]; simpa using h
theorem stepB_ok {P n ops pre s o} (h : stepB P n ops pre s o = true) : StepOK P n ops pre s o ∧ ∀ q ∈ pre, q.1 ≠ s.1 := by
  unfold stepB at h
  simp only [Bool.and_eq_true] at h
  obtain ⟨h1, h2, h3, h4, h5, h6, h7⟩ := h
  refine ⟨⟨?_, ?_, ?_, ?_, ?_, ?_, ?_, ?_⟩, ?_⟩
  · intro e he hb
    have := List.all_eq_true.1 h1 e (by simpa using he)
    have hb' : bindsB e = true := hb
    rw [hb'] at this
    simp only [Bool.not_true, Bool.false_or, Bool.and_eq_true, memN_iff] at this
    refine ⟨this.1, ?_⟩
    obtain ⟨q, hq, e'⟩ := List.mem_map.1 this.2
    exact ⟨q, hq, e'⟩
  · intro j hj
    have := List.all_eq_true.1 h2 j hj
    simp only [Bool.or_eq_true] at this
    rcases this with h | h
    · obtain ⟨e, he, hb⟩ := List.any_eq_true.1 h
      simp only [Bool.and_eq_true] at hb
      exact .inl ⟨e, by simpa using he, hb.1, Nat.eq_of_beq_eq_true hb.2⟩
    · obtain ⟨e, he, hb⟩ := List.any_eq_true.1 h
      simp only [Bool.and_eq_true] at hb
      obtain ⟨q, hq, hb2⟩ := List.any_eq_true.1 hb.2
      simp only [Bool.and_eq_true, memN_iff] at hb2
      exact .inr ⟨e, by simpa using he, hb.1, q, hq, Nat.eq_of_beq_eq_true hb2.1, hb2.2⟩
  · intro j oj t hj hd ht
    have := List.all_eq_true.1 h3 _ (zip_mem hj)
    dsimp only at this
    rw [hd] at this
    have hm : memN t (o.looksAt ops) = true := memN_iff.2 ht
    dsimp only at this
    rw [hm] at this
    exact memN_iff.1 (by simpa using this)
  · intro j oj t hj hd ho
    have := List.all_eq_true.1 h4 _ (zip_mem hj)
    dsimp only at this
    rw [hd, ho] at this
    dsimp only at this
    have hb : Nat.beq t t = true := by rw [beq_eq]; simp
    rw [hb] at this
    exact Nat.eq_of_beq_eq_true (by simpa using this)
  · intro d hd
    rw [hd] at h5
    simp only [Bool.and_eq_true] at h5
    exact blt_iff.1 h5.1
  · intro q hq oq hoq hc
    have := List.all_eq_true.1 h6 q hq
    rw [hoq] at this
    have hw : isW P oq.op = true := by unfold isW; rw [hc]
    simp only [Bool.and_eq_true, hw] at this
    exact memN_iff.1 (by simpa using this.1)
  · intro q hq oq hoq d hd hm
    have := List.all_eq_true.1 h6 q hq
    rw [hoq] at this
    simp only [Bool.and_eq_true, hd] at this
    have hm' : memN d (oq.looksAt ops) = true := memN_iff.2 hm
    rw [hm'] at this
    simp at this
  · intro d hd hm
    rw [hd] at h5
    have hm' : memN d (o.looksAt ops) = true := memN_iff.2 hm
    simp [hm'] at h5
  · intro q hq e
    have := List.all_eq_true.1 h7 q hq
    rw [e] at this
    have hb : Nat.beq s.1 s.1 = true := by rw [beq_eq]; simp
    rw [hb] at this; cases this
theorem stepsB_ok {P n ops} : ∀ {pl pre : Plan}, stepsB P n ops pre pl = true → StepsOK P n ops pre pl
  | [], pre, _ => .nil
  | s :: pl, pre, h => by
    simp only [stepsB, Bool.and_eq_true] at h
    obtain ⟨h1, h2⟩ := h
    split at h1
    · rename_i o ho
      obtain ⟨h3, h4⟩ := stepB_ok h1
      exact .cons ho h3 h4 (stepsB_ok h2)
    · cases h1
theorem planB_ok {P n ops plan} (h : planB P n ops plan = true) : StepsOK P n ops [] plan ∧ ∀ i, i < ops.size → ∃ s ∈ plan, s.1 = i := by
  unfold planB at h
  simp only [Bool.and_eq_true] at h
  refine ⟨stepsB_ok h.1, fun i hi => ?_⟩
  have := memN_iff.1 (List.all_eq_true.1 h.2 i (List.mem_range.2 hi))
  obtain ⟨s, hs, e⟩ := List.mem_map.1 this
  exact ⟨s, hs, e⟩

theorem ready_nil {P n ops plan} (hplan : StepsOK P n ops [] plan) (hfull : ∀ i, i < ops.size → ∃ s ∈ plan, s.1 = i) {listed : Array Bool} (hsz : listed.size = ops.size) (hr : Region.ready .any ops listed = []) : ∀ i, i < ops.size → lst listed i = true := by
  have key : ∀ (pl pre : Plan), StepsOK P n ops pre pl → (∀ q ∈ pre, lst listed q.1 = true) → ∀ s ∈ pl, lst listed s.1 = true := by
    intro pl
    induction pl with
    | nil => simp
    | cons s pl ihp =>
      intro pre hok hpre
      cases hok with
      | @cons _ _ _ o ho hs hnd hok' =>
        have hs1 : lst listed s.1 = true := by
          cases hl : lst listed s.1 with
          | true => rfl
          | false =>
            exfalso
            have hlt : s.1 < ops.size := (Array.getElem?_eq_some_iff.1 ho).1
            have : s.1 ∈ Region.ready .any ops listed := by
              rw [mem_ready]
              refine ⟨?_, o, ho, fun e he hb => ?_⟩
              · unfold lst at hl
                have : s.1 < listed.size := by rw [hsz]; exact hlt
                simp [this] at hl ⊢
                exact hl
              · obtain ⟨_, q, hq, hq1⟩ := hs.direct e he hb
                rw [← hq1]; exact hpre q hq
            rw [hr] at this; cases this
        intro r hr'
        rcases List.mem_cons.1 hr' with rfl | hr'
        · exact hs1
        · refine ihp (pre ++ [s]) hok' ?_ r hr'
          intro q hq
          rcases List.mem_append.1 hq with hq | hq
          · exact hpre q hq
          · simp at hq; subst hq; exact hs1
  intro i hi
  obtain ⟨s, hs, rfl⟩ := hfull i hi
  exact key plan [] hplan (by simp) s hs

/-- A row whose last operation waits for all others. -/
def lastB (P : Program) (n : Nat) (ops : Array Oper) (plan : Plan) : Bool := match ops[Nat.pred ops.size]? with
  | some o => (match o.guard with | none => true | some _ => false) && ((match o.dst with | some d => Nat.blt d n | none => true) &&
    (((List.range (Nat.pred ops.size)).all fun j => o.after.toList.any fun e => bindsB e && (Nat.beq e.on j || plan.any fun q => Nat.beq q.1 e.on && memN j q.2)) &&
    ((o.after.toList.all fun e => !bindsB e || Nat.blt e.on (Nat.pred ops.size)) &&
    ((ops.pop.toList.all fun oj => match oj.guard with | some (g, _) => Nat.blt g (Nat.pred ops.size) | none => true) && planB P n ops.pop plan))))
  | none => false
def planB2 (P : Program) (n : Nat) (ops : Array Oper) (plan : Plan) : Bool := match Nat.beq plan.length ops.size with
  | true => planB P n ops plan
  | false => lastB P n ops plan
noncomputable abbrev drK2 (P : Program) (G : Nat → Bool) (D : Disp) (ops : Array Oper) (K : Tr AV → St → Prop) (plan : Plan) (E : Tr AV) (S : St) : Prop := match Nat.beq plan.length ops.size with
  | true => drK P G D ops K plan E S S.next [] []
  | false => (match ops[Nat.pred ops.size]? with
    | some o => drK P G D ops.pop (fun E S => stepK P D S (evO G (gE E)) o fun v S' => K (putE E o.dst v) S') plan E S S.next [] []
    | none => False)
theorem drK2_wp {P G D ops K n plan} (hD : DOK P G D) (hz : ZeroOK P) (hm : P.follows .mixedOrders = true) (hn : n ≤ 4096) (hp : planB2 P n ops plan = true) {E : Tr AV} {S : St} (h : drK2 P G D ops K plan E S)
    (id : Nat) (base : Nat) (ρ : Ren) (a : Act) (w : World) (ha : AR ρ n E a) (hG : GOK G ρ) (hw : Sim base ρ S.get S.next w) : (Code.region id ops true).wp P (CP base ρ S w n K) a w := by
  unfold planB2 at hp
  unfold drK2 at h
  cases hb : Nat.beq plan.length ops.size with
  | true =>
    rw [hb] at hp h
    obtain ⟨hp1, hp2⟩ := planB_ok hp
    exact drK_wp hD hz hm hn hp2 hp1 h id base ρ a w ha hG hw
  | false =>
    rw [hb] at hp h
    dsimp only at hp h
    unfold lastB at hp
    cases ho : ops[Nat.pred ops.size]? with
    | none => rw [ho] at hp; cases hp
    | some o =>
      rw [ho] at hp h
      dsimp only at hp h
      simp only [Bool.and_eq_true] at hp
      obtain ⟨q1, q2, q3, q4, q5, q6⟩ := hp
      obtain ⟨hp1, hp2⟩ := planB_ok q6
      have hlt : Nat.pred ops.size < ops.size := (Array.getElem?_eq_some_iff.1 ho).1
      have hsz : ops.size = Nat.pred ops.size + 1 := by have : Nat.pred ops.size = ops.size - 1 := rfl; omega
      have hpop : ops.pop.size = Nat.pred ops.size := by simp
      generalize hL : Nat.pred ops.size = L at *
      have hgd : o.guard = none := by cases hg : o.guard with | none => rfl | some _ => rw [hg] at q1; cases q1
      have hdl : ∀ d, o.dst = some d → d < n := by intro d hd; rw [hd] at q2; exact blt_iff.1 q2
      refine wp_region_any hm ?_
      have hrep : Array.replicate ops.size false = (Array.replicate L false).push false := by rw [hsz, Array.replicate_succ]
      rw [hrep]
      have hany := drK_any hD hz hn hp2 hp1 h base ρ a w ha hG hw
      rw [hpop] at hany
      have hl0 : ∀ j, lst (Array.replicate L false) j = false := by
        intro j
        unfold lst
        by_cases hj : j < L
        · simp [hj]
        · simp [hj]
      rw [hsz]
      refine wpAny_last (L := L) (o := o) hsz ho hgd ?_ ?_ ?_ ?_ ?_ L _ _ _ (by simp) (fun j oj _ hl => by rw [hl0] at hl; cases hl) hany
      · rintro e a' w' ⟨rfl, E', S', ρ', hK, hA, hN⟩
        refine ⟨rfl, ?_⟩
        refine stepK_wp hD hz hK (hA.er.ev (hG.mono hN.le)) (hG.mono hN.le) hN.sim fun v S'' cv ρ'' w'' k1 k2 k3 => ?_
        exact ⟨rfl, _, S'', ρ'', k1, (hA.mono k3.le).put hdl k2, hN.trans k3⟩
      · intro listed hls hdc hr j hj
        exact ready_nil hp1 hp2 (by rw [hls, hpop]) hr j (by rw [hpop]; exact hj)
      · intro listed hls hdc hd j hj
        have := List.all_eq_true.1 q3 j (List.mem_range.2 hj)
        obtain ⟨e, he, hb2⟩ := List.any_eq_true.1 this
        simp only [Bool.and_eq_true, Bool.or_eq_true] at hb2
        have he' : e ∈ o.after := by simpa using he
        have hle := hd e he' hb2.1
        rcases hb2.2 with h1 | h1
        · rw [← Nat.eq_of_beq_eq_true h1]; exact hle
        · obtain ⟨q, hq, hb3⟩ := List.any_eq_true.1 h1
          simp only [Bool.and_eq_true, memN_iff] at hb3
          obtain ⟨_, _, oq, _, hoq, _⟩ := StepsOK.at plan [] hp1 q hq
          have hql : lst listed q.1 = true := by rw [Nat.eq_of_beq_eq_true hb3.1]; exact hle
          exact ancListed hdc plan [] hp1 (by simp) q hq oq hoq (fun e2 he2 hb4 => hdc q.1 oq hoq hql e2 he2 hb4) j hb3.2
      · intro j oj hj g want hg
        have hm2 : oj ∈ ops.pop.toList := by
          exact Array.mem_toList_iff.2 (Array.mem_of_getElem? hj)
        have := List.all_eq_true.1 q5 oj hm2
        rw [hg] at this
        exact blt_iff.1 this
      · intro e he hb2
        have := List.all_eq_true.1 q4 e (by simpa using he)
        have hb3 : bindsB e = true := hb2
        rw [hb3] at this
        exact blt_iff.1 (by simpa using this)

/-- What is left to do, as far as nothing is to be reckoned for it. -/
def nrm : Nat → List Item → List Item
  | k + 1, .code (.seq a b) :: r => nrm k (.code a :: .code b :: r)
  | k + 1, .code .skip :: r => nrm k r
  | k + 1, .code (.label _) :: r => nrm k r
  | k + 1, .inBlock _ :: r => nrm k r
  | k + 1, .inScope _ :: r => nrm k r
  | k + 1, .code (.block id c) :: r => nrm k (.code c :: .inBlock id :: r)
  | k + 1, .code (.loop c) :: r => nrm k (.code c :: .inLoop c :: r)
  | k + 1, .inLoop c :: r => nrm k (.code c :: .inLoop c :: r)
  | k + 1, .code (.scope c) :: r => nrm k (.code c :: .inScope c :: r)
  | k + 1, .code (.exit id) :: r => (match exitTo id r with | some r' => nrm k r' | none => .code (.exit id) :: r)
  | k + 1, .code (.goto l) :: r => (match gotoIn l r with | some r' => nrm k r' | none => .code (.goto l) :: r)
  | _, t => t

theorem nrm_steps {P : Program} {b : Frame} {cs : List Frame} (a : Act) (w : World) : ∀ (k : Nat) (t : List Item), Steps P (lone (b.at a t) cs w) (lone (b.at a (nrm k t)) cs w) := by
  intro k t
  fun_induction nrm k t
  case case1 ih => exact .head step_seq ih
  case case2 ih => exact .head step_skip ih
  case case3 ih => exact .head step_label ih
  case case4 ih => exact .head step_inBlock ih
  case case5 ih => exact .head step_inScope ih
  case case6 ih => exact .head step_block ih
  case case7 ih => exact .head step_loop ih
  case case8 ih => exact .head step_inLoop ih
  case case9 ih => exact .head step_scope ih
  case case10 h ih => exact .head (step_exit h) ih
  case case11 => exact .refl P _
  case case12 h ih => exact .head (step_goto h) ih
  case case13 => exact .refl P _
  case case14 => exact .refl P _

/-- What a function hands back. -/
noncomputable abbrev resK (P : Program) (S : St) (E : Tr AV) (rs : List ResultVar) (K : List V1 → Prop) : Prop :=
  List.rec (motive := fun _ => (List V1 → Prop) → Prop) (fun K => K []) (fun r _ ih K => match r with
    | .tmp t => oneK (gE E t) fun v => ih fun m => K (v :: m)
    | .cell a t => scK (gE E a) fun x => loadK P S t x fun v => oneK v fun v => ih fun m => K (v :: m)) rs K
noncomputable abbrev resV (l : List V1) : AV := match l with
  | [v] => .one v
  | l => .tup l

noncomputable abbrev anyB (v : AV) : Bool := AV.rec (motive := fun _ => Bool) (fun _ => false) (fun _ => false) true v
def isTmp : ResultVar → Bool
  | .tmp _ => true
  | .cell _ _ => false
/-- Are all results slots, and is nothing known of one? -/
noncomputable abbrev resB (E : Tr AV) (rs : List ResultVar) : Bool := Bool.and (rs.all isTmp) (rs.any fun r => match r with
  | .tmp t => anyB (gE E t)
  | .cell _ _ => false)
noncomputable abbrev resU (P : Program) (S : St) (E : Tr AV) (rs : List ResultVar) (K : AV → Prop) : Prop := match resB E rs with
  | true => K .any
  | false => resK P S E rs fun m => K (resV m)
theorem resB_run {a : Act} {P : Program} {w : World} : ∀ {rs : List ResultVar}, rs.all isTmp = true → ∃ vs : List Value, (rs.mapM (fun (r : ResultVar) => (match r with
      | .tmp t => pure (a.tmps.getD t undef)
      | .cell c t => do loadVar t (← asAddr (a.tmps.getD c undef)) : Sem Value))).run P w = .ok vs w
  | [], _ => ⟨[], by simp⟩
  | .tmp t :: l, h => by
    simp only [List.all_cons, Bool.and_eq_true] at h
    obtain ⟨vs, h2⟩ := resB_run (w := w) (a := a) (P := P) h.2
    refine ⟨a.tmps.getD t undef :: vs, ?_⟩
    rw [List.mapM_cons, Sem.run_bind]
    simp only [Sem.run_pure, Result.andThen_ok]
    rw [Sem.run_bind, h2]
    rfl
  | .cell c t :: l, h => by simp [isTmp] at h
theorem loadK_ptr {P S t x K} (h : loadK P S t x K) : ∃ b o, x = .ptr (.mk b o) := by
  unfold loadK at h
  split at h
  · split at h
    · obtain ⟨n, hn, h⟩ := optK_some h
      obtain ⟨z, hz, h⟩ := optK_some h
      split at h
      · obtain ⟨hb, h⟩ := req_and h
        obtain ⟨b, o, rfl, h⟩ := PV.cs_mk h
        exact ⟨b, o, rfl⟩
      · exact h.elim
    · obtain ⟨z, hz, h⟩ := optK_some h
      split at h
      · obtain ⟨b, o, rfl, h⟩ := PV.cs_mk h
        exact ⟨b, o, rfl⟩
      · exact h.elim
    · exact h.elim
  · exact h.elim
theorem resK_run {P S} {ρ : Ren} {E : Tr AV} {a : Act} (he : ER ρ (gE E) a) {base next w} (hw : Sim base ρ S.get next w) : ∀ {rs K}, resK P S E rs K →
    ∃ m, K m ∧ ∃ vs : List Value, All2 (VR1 ρ) m vs ∧ (rs.mapM (fun (r : ResultVar) => (match r with
      | .tmp t => pure (a.tmps.getD t undef)
      | .cell c t => do loadVar t (← asAddr (a.tmps.getD c undef)) : Sem Value))).run P w = .ok vs w
  | [], K, h => ⟨[], h, [], .nil, by simp⟩
  | .tmp t :: l, K, h => by
    obtain ⟨v, hv, h⟩ := oneK_some h
    obtain ⟨m, h0, vs, h1, h2⟩ := resK_run he hw h
    have := he t
    rw [hv] at this
    exact ⟨_, h0, _, .cons this h1, by simp only [List.mapM_cons, Sem.run_bind, Sem.run_pure, Result.andThen_ok, h2]⟩
  | .cell c t :: l, K, h => by
    obtain ⟨x, hx, h⟩ := scK_some h
    have hx' := he c
    rw [hx] at hx'
    obtain ⟨v, hK, hv⟩ := loadK_run h hx' base
    obtain ⟨cv, h3, h4⟩ := hv _ _ hw
    obtain ⟨v, rfl, hK⟩ := oneK_some hK
    obtain ⟨m, h0, vs, h1, h2⟩ := resK_run he hw hK
    have hload : (do loadVar t (← asAddr (a.tmps.getD c undef)) : Sem Value).run P w = .ok cv w := by
      have e : ∃ ad, a.tmps.getD c undef = .pointer (some ad) := by
        obtain ⟨b, o, rfl⟩ := loadK_ptr h
        obtain ⟨r, sh, m, _, e⟩ := hx'; exact ⟨_, e⟩
      obtain ⟨ad, e⟩ := e
      rw [e] at h4 ⊢
      simp [Instr.loadAt, Instr.sureAddr] at h4
      simp [asAddr, h4]
    refine ⟨_, h0, _, .cons h3 h1, ?_⟩
    rw [List.mapM_cons, Sem.run_bind]
    have : (match ResultVar.cell c t with
      | .tmp t => pure (a.tmps.getD t undef)
      | .cell c t => do loadVar t (← asAddr (a.tmps.getD c undef)) : Sem Value).run P w = .ok cv w := hload
    rw [this, Result.andThen_ok, Sem.run_bind, h2]
    rfl

/-- What code in a function comes to, from a place on. -/
def Fin (P : Program) (fn : Func) (base : Nat) (ρ : Ren) (S : St) (w : World) (K : AV → St → Prop) (a' : Act) (w' : World) : Prop :=
  a'.defers = [] ∧ ∃ cv v S' ρ', (results fn a'.tmps).run P w' = .ok cv w' ∧ K v S' ∧ VR ρ' v cv ∧ Next base ρ S.get S.next w S'.get S'.next ρ' w'
def Runs (P : Program) (G : Nat → Bool) (fn : Func) (todo : List Item) (E : Tr AV) (S : St) (K : AV → St → Prop) : Prop :=
  ∀ base ρ a w, AR ρ fn.ntmps E a → GOK G ρ → Sim base ρ S.get S.next w → ∀ (b : Frame) (cs : List Frame), ∃ e a' w', (e = .normal ∨ e = .ret) ∧ Fin P fn base ρ S w K a' w' ∧ Arrives P (lone (b.at a todo) cs w) b [] cs e a' w'

/-- The shape of a piece of code: rows of operations, tests, the end, another piece (its number, and the slots that are handed to it). -/
inductive X where
  | op (x : X)
  | br (x y : X)
  | ret
  | jmp (p : Nat) (live : List Nat)

def nrmK : Nat := 60
noncomputable def execK (P : Program) (G : Nat → Bool) (fn : Func) (D J : Disp) (plans : Nat → Plan) (x : X) (todo : List Item) (E : Tr AV) (S : St) (K : AV → St → Prop) : Prop :=
  X.rec (motive := fun _ => List Item → Tr AV → St → Prop)
    (fun _ ih todo E S => match nrm nrmK todo with
      | .code (.region id ops draw) :: r => (match draw with
        | false => opsK P G D ops ops.toList E S fun E S => ih r E S
        | true => drK2 P G D ops (fun E S => ih r E S) (plans id) E S)
      | _ => False)
    (fun _ _ ih1 ih2 todo E S => match nrm nrmK todo with
      | .code (.cond c x y) :: r => (match evO G (gE E) c with
        | .one (.s (.bool v)) => Bool.rec (motive := fun _ => Prop) (ih2 (.code y :: r) E S) (ih1 (.code x :: r) E S) v
        | _ => False)
      | _ => False)
    (fun todo E S => match nrm nrmK todo with
      | [] => resU P S E fn.results.toList fun v => K v S
      | .code .ret :: _ => resU P S E fn.results.toList fun v => K v S
      | _ => False)
    (fun p live todo E S => J p (live.map (gE E)) S K) x todo E S

/-- Are the pieces that a piece leads to where it says? -/
def Chk (P : Program) (n : Nat) (plans : Nat → Plan) (T : Nat → List Item × List Nat) : X → List Item → Prop
  | .op x, todo => match nrm nrmK todo with
    | .code (.region id ops draw) :: r => (match draw with | false => dstOK n ops.toList = true | true => planB2 P n ops (plans id) = true) ∧ Chk P n plans T x r
    | _ => False
  | .br x y, todo => match nrm nrmK todo with
    | .code (.cond _ a b) :: r => Chk P n plans T x (.code a :: r) ∧ Chk P n plans T y (.code b :: r)
    | _ => False
  | .ret, _ => True
  | .jmp p live, todo => T p = (nrm nrmK todo, live)

/-- The slots as a piece has them at its beginning. -/
noncomputable abbrev envOf (live : List Nat) (vals : List AV) : Tr AV :=
  List.rec (motive := fun _ => List AV → Tr AV → Tr AV) (fun _ E => E) (fun t _ ih vals E => List.rec (motive := fun _ => Tr AV) E (fun v r _ => ih r (E.set2 t v)) vals) live vals .u

theorem envOf_ok {ρ : Ren} {E : Tr AV} {a : Act} {n : Nat} (h : AR ρ n E a) : ∀ (live : List Nat), (∀ t ∈ live, t < 4096) → ∀ (E0 : Tr AV), AR ρ n E0 a →
    AR ρ n (List.rec (motive := fun _ => List AV → Tr AV → Tr AV) (fun _ E => E) (fun t _ ih vals E => List.rec (motive := fun _ => Tr AV) E (fun v r _ => ih r (E.set2 t v)) vals) live (live.map (gE E)) E0) a
  | [], _, E0, h0 => h0
  | t :: live, hl, E0, h0 => by
    refine envOf_ok h live (fun x hx => hl x (by simp [hx])) (E0.set2 t (gE E t)) ⟨fun u => ?_, h0.size, h0.defers, h0.small⟩
    rw [gE_set _ _ _ _ (hl t (by simp))]
    by_cases e : u = t
    · rw [if_pos e, e]; exact h.er t
    · rw [if_neg e]; exact h0.er u
theorem AR.u {ρ : Ren} {n : Nat} {E} {a : Act} (h : AR ρ n E a) : AR ρ n .u a := ⟨fun t => by rw [gE_u]; trivial, h.size, h.defers, h.small⟩

def JOK (P : Program) (G : Nat → Bool) (fn : Func) (T : Nat → List Item × List Nat) (J : Disp) : Prop :=
  ∀ p vals S K, J p vals S K → (∀ t ∈ (T p).2, t < 4096) ∧ Runs P G fn (T p).1 (envOf (T p).2 vals) S K

theorem Fin.trans {P fn base ρ w K} {S S1 : St} {ρ1 w1} (h : Next base ρ S.get S.next w S1.get S1.next ρ1 w1) {a w2} (k : Fin P fn base ρ1 S1 w1 K a w2) : Fin P fn base ρ S w K a w2 := by
  obtain ⟨h0, cv, v, S', ρ', h1, h2, h3, h4⟩ := k
  exact ⟨h0, cv, v, S', ρ', h1, h2, h3, h.trans h4⟩

theorem results_one {P : Program} {fn : Func} {a : Act} {w : World} {vs : List Value} (h : (fn.results.toList.mapM (fun (r : ResultVar) => (match r with
      | .tmp t => pure (a.tmps.getD t undef)
      | .cell c t => do loadVar t (← asAddr (a.tmps.getD c undef)) : Sem Value))).run P w = .ok vs w) :
    (results fn a.tmps).run P w = .ok (match vs with | [v] => v | l => .tuple l.toArray) w := by
  unfold results
  rw [Sem.run_bind, Array.mapM_eq_mapM_toList, Sem.run_map]
  have h' := h
  refine Eq.trans (congrArg (fun r : Result (List Value) => (r.andThen fun a w' => Result.ok (a.toArray) w').andThen _) h') ?_
  simp only [Result.andThen_ok, Sem.run_pure]
  cases vs with
  | nil => rfl
  | cons v l => cases l <;> simp

theorem execK_runs {P G fn D J plans T} (hD : DOK P G D) (hz : ZeroOK P) (hm : P.follows .mixedOrders = true) (hJ : JOK P G fn T J) : ∀ (x : X) (todo : List Item) (E : Tr AV) (S : St) (K), Chk P fn.ntmps plans T x todo → execK P G fn D J plans x todo E S K → Runs P G fn todo E S K := by
  intro x
  induction x with
  | op x ih =>
    intro todo E S K hc h base ρ a w ha hG hw b cs
    have hs := nrm_steps (P := P) (b := b) (cs := cs) a w nrmK todo
    simp only [Chk] at hc
    unfold execK at h
    dsimp only at h
    split at hc
    · rename_i id ops draw r hn
      rw [hn] at h hs
      dsimp only at h
      obtain ⟨hdst, hc⟩ := hc
      have hreg : (Code.region id ops draw).wp P (CP base ρ S w fn.ntmps fun E S => execK P G fn D J plans x r E S K) a w := by
        cases draw with
        | false =>
          refine wp_region ?_
          have := opsK_wp hD hz (Q := CP base ρ S w fn.ntmps fun E S => execK P G fn D J plans x r E S K) ops.toList 0 rfl hdst h ha hG hw fun _ _ h => h
          rwa [List.range_eq_range']
        | true =>
          exact drK2_wp hD hz hm ha.small hdst h id base ρ a w ha hG hw
      obtain ⟨e, a1, w1, ⟨rfl, E1, S1, ρ1, h1, h2, h3⟩, harr⟩ := hreg b r cs
      obtain ⟨e, a2, w2, h4, h5, h6⟩ := ih r E1 S1 K hc h1 base ρ1 a1 w1 h2 (hG.mono h3.le) h3.sim b cs
      exact ⟨e, a2, w2, h4, h5.trans h3, .of_steps (Steps.trans hs harr) h6⟩
    · exact hc.elim
  | br x y ihx ihy =>
    intro todo E S K hc h base ρ a w ha hG hw b cs
    have hs := nrm_steps (P := P) (b := b) (cs := cs) a w nrmK todo
    simp only [Chk] at hc
    unfold execK at h
    dsimp only at h
    split at hc
    · rename_i c x' y' r hn
      rw [hn] at h hs
      dsimp only at h
      split at h
      · rename_i v hv
        have hcv := (ha.er.ev hG).sc hv
        cases v with
        | true =>
          obtain ⟨e, a2, w2, h4, h5, h6⟩ := ihx _ E S K hc.1 h base ρ a w ha hG hw b cs
          exact ⟨e, a2, w2, h4, h5, .of_steps (Steps.trans hs (.one (step_cond hcv))) h6⟩
        | false =>
          obtain ⟨e, a2, w2, h4, h5, h6⟩ := ihy _ E S K hc.2 h base ρ a w ha hG hw b cs
          exact ⟨e, a2, w2, h4, h5, .of_steps (Steps.trans hs (.one (step_cond hcv))) h6⟩
      · exact h.elim
    · exact hc.elim
  | ret =>
    intro todo E S K hc h base ρ a w ha hG hw b cs
    have hs := nrm_steps (P := P) (b := b) (cs := cs) a w nrmK todo
    unfold execK at h
    dsimp only at h
    have fin : resU P S E fn.results.toList (fun v => K v S) → Fin P fn base ρ S w K a w := by
      intro h
      unfold resU at h
      split at h
      · rename_i hb
        obtain ⟨vs, h2⟩ := resB_run (a := a) (P := P) (w := w) (Bool.and_eq_true_iff.1 hb).1
        exact ⟨ha.defers, _, .any, S, ρ, results_one h2, h, trivial, .refl hw⟩
      obtain ⟨m, hK, vs, h1, h2⟩ := resK_run ha.er hw h
      refine ⟨ha.defers, _, _, S, ρ, results_one h2, hK, ?_, .refl hw⟩
      unfold resV
      cases h1 with
      | nil => exact ⟨[], rfl, .nil⟩
      | cons h t =>
        cases t with
        | nil => exact h
        | cons h' t => exact ⟨_, rfl, .cons h (.cons h' t)⟩
    split at h
    · rename_i hn
      rw [hn] at hs
      exact ⟨.normal, a, w, .inl rfl, fin h, hs⟩
    · rename_i r hn
      rw [hn] at hs
      exact ⟨.ret, a, w, .inr rfl, fin h, _, Steps.trans hs (.one step_ret)⟩
    · exact h.elim
  | jmp p live =>
    intro todo E S K hc h base ρ a w ha hG hw b cs
    have hs := nrm_steps (P := P) (b := b) (cs := cs) a w nrmK todo
    unfold execK at h
    dsimp only at h
    simp only [Chk] at hc
    obtain ⟨hl, hr⟩ := hJ p _ S K h
    rw [hc] at hr hl
    obtain ⟨e, a2, w2, h4, h5, h6⟩ := hr base ρ a w (envOf_ok ha live hl .u ha.u) hG hw b cs
    exact ⟨e, a2, w2, h4, h5, .of_steps hs h6⟩

/- Functions. -/
theorem envOf_args {ρ : Ren} {a : Act} {n : Nat} : ∀ (vals : List AV) (k : Nat) (E0 : Tr AV), AR ρ n E0 a → (∀ i v, vals[i]? = some v → VR ρ v (a.tmps.getD (k + i) undef)) → k + vals.length ≤ 4096 →
    AR ρ n (List.rec (motive := fun _ => List AV → Tr AV → Tr AV) (fun _ E => E) (fun t _ ih vals E => List.rec (motive := fun _ => Tr AV) E (fun v r _ => ih r (E.set2 t v)) vals) (List.range' k vals.length) vals E0) a
  | [], k, E0, h0, _, _ => h0
  | v :: vals, k, E0, h0, hv, hl => by
    refine envOf_args vals (k + 1) (E0.set2 k v) ⟨fun u => ?_, h0.size, h0.defers, h0.small⟩ (fun i x hx => ?_) (by simp at hl; omega)
    · rw [gE_set _ _ _ _ (by simp at hl; omega)]
      by_cases e : u = k
      · rw [if_pos e, e]; exact hv 0 v rfl
      · rw [if_neg e]; exact h0.er u
    · have := hv (i + 1) x (by simpa using hx)
      rw [show k + (i + 1) = k + 1 + i by omega] at this
      exact this

theorem callOK_of {P G f fn c} (hf : P.funcs[f]? = some fn) (hb : fn.body = some c) (hnm : (fn.name == "runtime.NumGoroutine") = false) {args : List AV} {S : St} {K : AV → St → Prop} (h1 : Nat.ble args.length fn.ntmps = true) (h2 : Nat.ble fn.ntmps 4096 = true)
    (h : Runs P G fn [.code c] (envOf (List.range' 0 args.length) args) S K) : CallE P G f args S K := by
  have h1 := Nat.le_of_ble_eq_true h1
  have h2 := Nat.le_of_ble_eq_true h2
  refine ⟨⟨fn, hf, hnm, by rw [hb]; rfl⟩, fun base ρ w vs hw hG hvs => ?_⟩
  have hlv := hvs.length
  let a0 : Act := { tmps := vs.toArray ++ Array.replicate (fn.ntmps - vs.toArray.size) undef, defers := [] }
  have hsz : a0.tmps.size = fn.ntmps := by simp [a0]; omega
  have hAR0 : AR ρ fn.ntmps .u a0 := ⟨fun t => by rw [gE_u]; trivial, hsz, rfl, h2⟩
  have hAR : AR ρ fn.ntmps (envOf (List.range' 0 args.length) args) a0 := by
    refine envOf_args args 0 .u hAR0 (fun i v hv => ?_) (by omega)
    obtain ⟨x, hx, hr⟩ := hvs.get hv
    have hlt : i < vs.length := (List.getElem?_eq_some_iff.1 hx).1
    have : a0.tmps.getD (0 + i) undef = x := by
      simp only [Nat.zero_add, Array.getD_eq_getD_getElem?]
      have : (vs.toArray ++ Array.replicate (fn.ntmps - vs.toArray.size) undef)[i]? = some x := by
        rw [Array.getElem?_append_left (by simpa using hlt)]; simpa using hx
      rw [this]; rfl
    rw [this]; exact hr
  intro cs
  let b : Frame := { (default : Frame) with fn := f, kind := .normal }
  have henter : Frame.enter P f vs.toArray .normal = b.at a0 [.code c] := by
    simp [Frame.enter, Frame.at, hf, hb, b, a0]
  obtain ⟨e, a', w', he, ⟨hd, cv, v, S', ρ', hr, hK, hv, hn⟩, harr⟩ := h base ρ a0 w hAR hG hw b cs
  rw [← henter] at harr
  have hpost : Post base ρ S w K (.returned cv) w' := ⟨v, S', cv, ρ', hK, rfl, hv, hn⟩
  rcases he with rfl | rfl
  · exact ⟨.returned cv, w', _, hpost, Steps.trans harr (.one step_end), rfl, rfl, hd, rfl, fn, hf, hr⟩
  · obtain ⟨todo, hs⟩ := harr
    exact ⟨.returned cv, w', _, hpost, hs, rfl, rfl, hd, rfl, fn, hf, hr⟩

/- What functions come to, one by one. -/
noncomputable abbrev Disp.no : Disp := fun _ _ _ _ => False
noncomputable abbrev Disp.add (f : Nat) (A : List AV → St → (AV → St → Prop) → Prop) (D : Disp) : Disp := fun g vals S K => match Nat.beq g f with
  | true => A vals S K
  | false => D g vals S K
theorem DOK.no {P G} : DOK P G Disp.no := fun _ _ _ _ h => h.elim
theorem DOK.add {P G f A D} (h : ∀ vals S K, A vals S K → CallOK P G f vals S K) (hD : DOK P G D) : DOK P G (D.add f A) := by
  intro g vals S K hh
  unfold Disp.add at hh
  cases hb : Nat.beq g f with
  | true => rw [hb] at hh; rw [Nat.eq_of_beq_eq_true hb]; exact h vals S K hh
  | false => rw [hb] at hh; exact hD g vals S K hh
theorem JOK.no {P G fn T} : JOK P G fn T Disp.no := fun _ _ _ _ h => h.elim
theorem JOK.add {P G fn T p A J} (hl : ∀ t ∈ (T p).2, t < 4096) (h : ∀ vals S K, A vals S K → Runs P G fn (T p).1 (envOf (T p).2 vals) S K) (hJ : JOK P G fn T J) : JOK P G fn T (J.add p A) := by
  intro g vals S K hh
  unfold Disp.add at hh
  cases hb : Nat.beq g p with
  | true => rw [hb] at hh; rw [Nat.eq_of_beq_eq_true hb]; exact ⟨hl, h vals S K hh⟩
  | false => rw [hb] at hh; exact hJ g vals S K hh
end Go.Xe
