/- Executor, second make: rows of operations whose order is drawn: what is known of each. -/
import Derived.Test.YtgjggcgdilahdaaX16
set_option linter.unusedVariables false
set_option linter.unusedSimpArgs false
set_option linter.constructorNameAsVariable false
set_option linter.unusedVariables false
set_option linter.unusedSimpArgs false
namespace Go.Xe
open Go.RowKit

def GYes (ops : Array Oper) (g : Nat → AV) (o : Oper) : Prop := match o.guard with
  | none => True
  | some (j, want) => ∃ p d, ops[j]? = some p ∧ p.dst = some d ∧ g d = .one (.s (.bool want))
def GNo (ops : Array Oper) (g : Nat → AV) (o : Oper) : Prop := ∃ j want, o.guard = some (j, want) ∧
  ∀ p d, ops[j]? = some p → p.dst = some d → g d = .one (.s (.bool !want)) ∨ ∃ l, g d = .tup l

theorem gE_same {E : Tr AV} {d : Nat} {v : AV} (hd : d < 4096) (h : gE E d = v) (t : Nat) : gE (E.set2 d v) t = gE E t := by
  rw [gE_set _ _ _ _ hd]
  by_cases e : t = d
  · subst e; simp [h]
  · simp [e]

theorem wantK_cases {ops E o yes no} (hw : wantK ops E o yes no) : ∃ E', (∀ t, gE E' t = gE E t) ∧ ((GYes ops (gE E') o ∧ yes E') ∨ (GNo ops (gE E') o ∧ no E')) := by
  unfold wantK at hw
  unfold GYes GNo
  cases hg : o.guard with
  | none => rw [hg] at hw; exact ⟨E, fun _ => rfl, .inl ⟨trivial, hw⟩⟩
  | some jw =>
    obtain ⟨j, want⟩ := jw
    rw [hg] at hw
    dsimp only at hw ⊢
    cases hp : ops[j]? with
    | none => rw [hp] at hw; exact ⟨E, fun _ => rfl, .inr ⟨⟨j, want, rfl, fun p d h => by rw [hp] at h; cases h⟩, hw⟩⟩
    | some p =>
      rw [hp] at hw
      dsimp only at hw
      cases hd : p.dst with
      | none => rw [hd] at hw; exact ⟨E, fun _ => rfl, .inr ⟨⟨j, want, rfl, fun p' d h h' => by rw [hp] at h; cases h; rw [hd] at h'; cases h'⟩, hw⟩⟩
      | some d =>
        rw [hd] at hw
        dsimp only at hw
        split at hw
        · rename_i b hb
          obtain ⟨h256, hw⟩ := req_and hw
          rw [blt_iff] at h256
          have hs := gE_same h256 hb
          have hself : gE (E.set2 d (.one (.s (.bool b)))) d = .one (.s (.bool b)) := by rw [hs, hb]
          cases want <;> cases b
          · exact ⟨_, hs, .inl ⟨⟨p, d, rfl, hd, hself⟩, hw⟩⟩
          · exact ⟨_, hs, .inr ⟨⟨j, _, rfl, fun p' d' h h' => by rw [hp] at h; cases h; rw [hd] at h'; cases h'; exact .inl hself⟩, hw⟩⟩
          · exact ⟨_, hs, .inr ⟨⟨j, _, rfl, fun p' d' h h' => by rw [hp] at h; cases h; rw [hd] at h'; cases h'; exact .inl hself⟩, hw⟩⟩
          · exact ⟨_, hs, .inl ⟨⟨p, d, rfl, hd, hself⟩, hw⟩⟩
        · rename_i l hb
          exact ⟨E, fun _ => rfl, .inr ⟨⟨j, want, rfl, fun p' d' h h' => by rw [hp] at h; cases h; rw [hd] at h'; cases h'; exact .inr ⟨l, hb⟩⟩, hw⟩⟩
        · exact hw.elim

theorem GYes.wanted {ops g o} (h : GYes ops g o) {ρ : Ren} {a : Act} (hs : ∀ j want p d, o.guard = some (j, want) → ops[j]? = some p → p.dst = some d → VR ρ (g d) (a.tmps.getD d undef)) : Region.wanted o (yielded ops a.tmps) = true := by
  unfold Region.wanted
  unfold GYes at h
  cases hg : o.guard with
  | none => rfl
  | some jw =>
    obtain ⟨j, want⟩ := jw
    rw [hg] at h
    obtain ⟨p, d, hp, hd, hv⟩ := h
    have h1 := hs j want p d hg hp hd
    rw [hv] at h1
    have h1' : a.tmps.getD d undef = .bool want := h1
    have hx : a.tmps[d]? = some (.bool want) := by
      cases hx : a.tmps[d]? with
      | none => simp [Array.getD_eq_getD_getElem?, hx, undef] at h1'
      | some x =>
        have : x = .bool want := by simpa [Array.getD_eq_getD_getElem?, hx] using h1'
        rw [this]
    simp [yielded, hp, hd, hx]
theorem GNo.wanted {ops g o} (h : GNo ops g o) {ρ : Ren} {a : Act} (hs : ∀ j want p d, o.guard = some (j, want) → ops[j]? = some p → p.dst = some d → VR ρ (g d) (a.tmps.getD d undef)) : Region.wanted o (yielded ops a.tmps) = false := by
  obtain ⟨j, want, hg, h⟩ := h
  unfold Region.wanted
  rw [hg]
  dsimp only
  unfold yielded
  cases hp : ops[j]? with
  | none => simp
  | some p =>
    cases hd : p.dst with
    | none => simp [hd]
    | some d =>
      simp only [Option.bind_some, hd]
      have h1 := hs j want p d hg hp hd
      rcases h p d hp hd with hv | ⟨l, hv⟩
      · rw [hv] at h1
        have h1' : a.tmps.getD d undef = .bool !want := h1
        cases hx : a.tmps[d]? with
        | none => simp
        | some x =>
          have : x = .bool !want := by simpa [Array.getD_eq_getD_getElem?, hx] using h1'
          subst this
          cases want <;> rfl
      · rw [hv] at h1
        obtain ⟨vs, h1', _⟩ := h1
        cases hx : a.tmps[d]? with
        | none => simp
        | some x =>
          have : x = .tuple vs.toArray := by simpa [Array.getD_eq_getD_getElem?, hx] using h1'
          subst this; simp

/-- What is known of an operation that may come. -/
inductive Fact (P : Program) (G : Nat → Bool) (ops : Array Oper) (g : Nat → AV) (M : St) (pend : List Pen) (rs : List Nat) (i : Nat) (o : Oper) : Prop where
  | skip (h : GNo ops g o) (hd : ∀ d, o.dst = some d → g d = .tup []) (hn : ∀ p ∈ pend, p.1 ≠ i)
  | pure (v : AV) (h : GYes ops g o) (hd : ∀ d, o.dst = some d → g d = v) (hr : pureK P (envM G g o) o.op fun x => x = v) (hn : ∀ p ∈ pend, p.1 ≠ i)
  | read (v : AV) (h : GYes ops g o) (hd : ∀ d, o.dst = some d → g d = v) (hr : readK P M (envM G g o) o.type o.op fun x => x = v) (hi : i ∈ rs) (hn : ∀ p ∈ pend, p.1 ≠ i)
  | made (mk : Made) (id : Nat) (h : GYes ops g o) (hd : ∀ d, o.dst = some d → g d = .one (.s (mk.v (.new id)))) (hr : madeK P (envM G g o) o.op fun x => x = mk) (hp : (i, id, mk.ao) ∈ pend)

theorem mem_looks {ops : Array Oper} {o : Oper} {t : Nat} (h : t ∈ slotsOf o) : t ∈ o.looksAt ops := List.mem_append_left _ h
theorem mem_looks_g {ops : Array Oper} {o : Oper} {j want p d} (hg : o.guard = some (j, want)) (hp : ops[j]? = some p) (hd : p.dst = some d) : d ∈ o.looksAt ops := by
  refine List.mem_append_right _ ?_
  rw [hg]
  simp [hp, hd]
theorem GYes.congr {ops g g' o} (h : GYes ops g o) (hg : ∀ t ∈ o.looksAt ops, g' t = g t) : GYes ops g' o := by
  unfold GYes at h ⊢
  cases hgd : o.guard with
  | none => trivial
  | some jw =>
    obtain ⟨j, want⟩ := jw
    rw [hgd] at h
    obtain ⟨p, d, hp, hd, hv⟩ := h
    exact ⟨p, d, hp, hd, by rw [hg d (mem_looks_g hgd hp hd)]; exact hv⟩
theorem GNo.congr {ops g g' o} (h : GNo ops g o) (hg : ∀ t ∈ o.looksAt ops, g' t = g t) : GNo ops g' o := by
  obtain ⟨j, want, hgd, h⟩ := h
  exact ⟨j, want, hgd, fun p d hp hd => by rw [hg d (mem_looks_g hgd hp hd)]; exact h p d hp hd⟩
theorem envM_congr {G ops g g' o} (hg : ∀ t ∈ Oper.looksAt ops o, g' t = g t) : envM G g' o = envM G g o := by
  unfold envM
  rw [maskE_congr (e := g') (e' := g) fun t ht => hg t (mem_looks ht)]
theorem Fact.congr {P G ops g g' M pend pend' rs rs' i o} (h : Fact P G ops g M pend rs i o) (hg : ∀ t ∈ o.looksAt ops, g' t = g t) (hd' : ∀ d, o.dst = some d → g' d = g d)
    (hp : ∀ p, p.1 = i → (p ∈ pend ↔ p ∈ pend')) (hr' : ∀ j ∈ rs, j ∈ rs') : Fact P G ops g' M pend' rs' i o := by
  have hnn : (∀ p ∈ pend, p.1 ≠ i) → ∀ p ∈ pend', p.1 ≠ i := fun h p hp' e => h p ((hp p e).2 hp') e
  cases h with
  | skip h hd hn => exact .skip (h.congr hg) (fun d e => by rw [hd' d e]; exact hd d e) (hnn hn)
  | pure v h hd hr hn => exact .pure v (h.congr hg) (fun d e => by rw [hd' d e]; exact hd d e) (by rw [envM_congr hg]; exact hr) (hnn hn)
  | read v h hd hr hi hn => exact .read v (h.congr hg) (fun d e => by rw [hd' d e]; exact hd d e) (by rw [envM_congr hg]; exact hr) (hr' _ hi) (hnn hn)
  | made mk id h hd hr hpp => exact .made mk id (h.congr hg) (fun d e => by rw [hd' d e]; exact hd d e) (by rw [envM_congr hg]; exact hr) ((hp _ rfl).1 hpp)

/-- Where the next step that turns memory, or the end, is come to. -/
inductive Can (P : Program) (G : Nat → Bool) (D : Disp) (ops : Array Oper) (K : Tr AV → St → Prop) (M : St) : Plan → Tr AV → Nat → List Pen → List Nat → Prop where
  | fin {E N pend rs} (h : K E (mat M N pend)) : Can P G D ops K M [] E N pend rs
  | call {s pl E N pend rs o} (ho : ops[s.1]? = some o) (hc : cls P o.op = .w) (hg : GYes ops (gE E) o)
      (h : stepK P D (mat M N (pend.filter fun p => memN p.1 s.2)) (envM G (gE E) o) o fun v S' =>
        rechk P G ops (gE E) S' s.2 rs (drK P G D ops K pl (putE E o.dst v) S' S'.next (pend.filter fun p => !memN p.1 s.2) rs)) : Can P G D ops K M (s :: pl) E N pend rs

/-- Is a plan right, from a place on? -/
structure StepOK (P : Program) (n : Nat) (ops : Array Oper) (pre : Plan) (s : Nat × List Nat) (o : Oper) : Prop where
  direct : ∀ e ∈ o.after, Region.binds .any e = true → e.on ∈ s.2 ∧ ∃ q ∈ pre, q.1 = e.on
  anc : ∀ j ∈ s.2, (∃ e ∈ o.after, Region.binds .any e = true ∧ e.on = j) ∨ ∃ e ∈ o.after, Region.binds .any e = true ∧ ∃ q ∈ pre, q.1 = e.on ∧ j ∈ q.2
  looks : ∀ j oj t, ops[j]? = some oj → oj.dst = some t → t ∈ o.looksAt ops → j ∈ s.2
  dist : ∀ j oj t, ops[j]? = some oj → oj.dst = some t → o.dst = some t → j = s.1
  dlt : ∀ d, o.dst = some d → d < n
  wanc : ∀ q ∈ pre, ∀ oq, ops[q.1]? = some oq → cls P oq.op = .w → q.1 ∈ s.2
  fresh : ∀ q ∈ pre, ∀ oq, ops[q.1]? = some oq → ∀ d, o.dst = some d → d ∉ oq.looksAt ops
  self : ∀ d, o.dst = some d → d ∉ o.looksAt ops
inductive StepsOK (P : Program) (n : Nat) (ops : Array Oper) : Plan → Plan → Prop where
  | nil {pre} : StepsOK P n ops pre []
  | cons {pre s pl o} (ho : ops[s.1]? = some o) (hs : StepOK P n ops pre s o) (hn : ∀ q ∈ pre, q.1 ≠ s.1) (h : StepsOK P n ops (pre ++ [s]) pl) : StepsOK P n ops pre (s :: pl)

theorem gE_put (E : Tr AV) (dst : Option Nat) (v : AV) (t : Nat) (h : ∀ d, dst = some d → d < 4096) : gE (putE E dst v) t = if dst = some t then v else gE E t := by
  cases dst with
  | none => simp [putE]
  | some d =>
    show gE (E.set2 d v) t = _
    rw [gE_set _ _ _ _ (h d rfl)]
    by_cases e : t = d
    · subst e; simp
    · have : ¬ (some d = some t) := fun h => e (by cases h; rfl)
      rw [if_neg e, if_neg this]

theorem StepsOK.apart {P n ops} {s : Nat × List Nat} {o : Oper} (ho : ops[s.1]? = some o) : ∀ (pl pre : Plan), s ∈ pre → StepsOK P n ops pre pl → ∀ q ∈ pl, q.1 ≠ s.1 ∧ ∀ oq, ops[q.1]? = some oq → ∀ d, oq.dst = some d → d ∉ o.looksAt ops ∧ o.dst ≠ some d := by
  intro pl
  induction pl with
  | nil => simp
  | cons q pl ihq =>
    intro pre' hs' hq'
    cases hq' with
    | @cons _ _ _ oq hoq hsq hnq hq2 =>
      intro r hr
      rcases List.mem_cons.1 hr with rfl | hr
      · refine ⟨fun e => hnq s hs' e.symm, fun or hor d hd => ?_⟩
        rw [hoq] at hor; cases hor
        exact ⟨hsq.fresh s hs' o ho d hd, fun e => hnq s hs' (hsq.dist s.1 o d ho e hd)⟩
      · exact ihq (pre' ++ [q]) (by simp [hs']) hq2 r hr

theorem adv {P G D ops K n} (hn : n ≤ 4096) {M : St} : ∀ (pl : Plan) (pre : Plan) (E : Tr AV) (N : Nat) (pend : List Pen) (rs : List Nat), (∀ p ∈ pend, ∃ q ∈ pre, q.1 = p.1) → StepsOK P n ops pre pl → drK P G D ops K pl E M N pend rs →
    ∃ pre2 pl2 E2 N2 new rs2, pl = pre2 ++ pl2 ∧ StepsOK P n ops (pre ++ pre2) pl2 ∧ Can P G D ops K M pl2 E2 N2 (new ++ pend) rs2 ∧
      (∀ s ∈ pre2, ∀ o, ops[s.1]? = some o → Fact P G ops (gE E2) M (new ++ pend) rs2 s.1 o) ∧
      (∀ t, (∀ s ∈ pre2, ∀ o, ops[s.1]? = some o → o.dst ≠ some t) → gE E2 t = gE E t) ∧
      (∀ p ∈ new, N ≤ p.2.1 ∧ p.2.1 < N2 ∧ ∃ s ∈ pre2, s.1 = p.1) ∧ new.Pairwise (fun p q => p.2.1 ≠ q.2.1 ∧ p.1 ≠ q.1) ∧ (∀ j ∈ rs, j ∈ rs2) ∧ N ≤ N2 := by
  intro pl
  induction pl with
  | nil =>
    intro pre E N pend rs hpen hok h
    exact ⟨[], [], E, N, [], rs, rfl, by simpa using hok, .fin h, by simp, fun _ _ => rfl, by simp, .nil, fun _ h => h, Nat.le_refl _⟩
  | cons s pl ih =>
    intro pre E N pend rs hpen hok h
    cases hok with
    | @cons _ _ _ o ho hs hnd hok' =>
      have h' : (match ops[s.1]? with
        | none => False
        | some o => wantK ops E o
          (fun E => match cls P o.op with
            | .p => pureK P (envM G (gE E) o) o.op fun v => drK P G D ops K pl (putE E o.dst v) M N pend rs
            | .r => readK P M (envM G (gE E) o) o.type o.op fun v => drK P G D ops K pl (putE E o.dst v) M N pend (s.1 :: rs)
            | .a => madeK P (envM G (gE E) o) o.op fun mk => drK P G D ops K pl (putE E o.dst (.one (.s (mk.v (.new N))))) M (Nat.succ N) ((s.1, N, mk.ao) :: pend) rs
            | .w => stepK P D (mat M N (pend.filter fun p => memN p.1 s.2)) (envM G (gE E) o) o fun v S' =>
                rechk P G ops (gE E) S' s.2 rs (drK P G D ops K pl (putE E o.dst v) S' S'.next (pend.filter fun p => !memN p.1 s.2) rs))
          (fun E => drK P G D ops K pl (putE E o.dst (.tup [])) M N pend rs)) := h
      rw [ho] at h'
      dsimp only at h'
      obtain ⟨E1, hE1, hw⟩ := wantK_cases h'
      have hd256 : ∀ d, o.dst = some d → d < 4096 := fun d e => Nat.lt_of_lt_of_le (hs.dlt d e) hn
      -- what follows behind an operation that was done ahead
      have go : ∀ (v : AV) (N1 : Nat) (nw : List Pen) (rs1 : List Nat), drK P G D ops K pl (putE E1 o.dst v) M N1 (nw ++ pend) rs1 → N ≤ N1 → (∀ p ∈ nw, N ≤ p.2.1 ∧ p.2.1 < N1 ∧ p.1 = s.1) → nw.Pairwise (fun p q => p.2.1 ≠ q.2.1 ∧ p.1 ≠ q.1) → (∀ j ∈ rs, j ∈ rs1) →
          Fact P G ops (gE (putE E1 o.dst v)) M (nw ++ pend) rs1 s.1 o →
          ∃ pre2 pl2 E2 N2 new rs2, s :: pl = pre2 ++ pl2 ∧ StepsOK P n ops (pre ++ pre2) pl2 ∧ Can P G D ops K M pl2 E2 N2 (new ++ pend) rs2 ∧
            (∀ s ∈ pre2, ∀ o, ops[s.1]? = some o → Fact P G ops (gE E2) M (new ++ pend) rs2 s.1 o) ∧
            (∀ t, (∀ s ∈ pre2, ∀ o, ops[s.1]? = some o → o.dst ≠ some t) → gE E2 t = gE E t) ∧
            (∀ p ∈ new, N ≤ p.2.1 ∧ p.2.1 < N2 ∧ ∃ s ∈ pre2, s.1 = p.1) ∧ new.Pairwise (fun p q => p.2.1 ≠ q.2.1 ∧ p.1 ≠ q.1) ∧ (∀ j ∈ rs, j ∈ rs2) ∧ N ≤ N2 := by
        intro v N1 nw rs1 hdr hN hnw hnwp hrs hfact
        obtain ⟨pre2, pl2, E2, N2, new, rs2, e1, h1, h2, h3, h4, h5, h6, h7, h8⟩ := ih (pre ++ [s]) _ N1 (nw ++ pend) rs1 (fun p hp => by
          rcases List.mem_append.1 hp with hp | hp
          · exact ⟨s, by simp, (hnw p hp).2.2.symm⟩
          · obtain ⟨q, hq, e⟩ := hpen p hp; exact ⟨q, by simp [hq], e⟩) hok' hdr
        have hap := StepsOK.apart ho pl (pre ++ [s]) (by simp) hok'
        have hin : ∀ q ∈ pre2, ∀ oq, ops[q.1]? = some oq → ∀ d, oq.dst = some d → d ∉ o.looksAt ops ∧ o.dst ≠ some d := fun q hq => (hap q (by rw [e1]; simp [hq])).2
        refine ⟨s :: pre2, pl2, E2, N2, new ++ nw, rs2, by rw [e1]; rfl, by simpa using h1, by simpa using h2, ?_, ?_, ?_, ?_, fun j hj => h7 j (hrs j hj), Nat.le_trans hN h8⟩
        · intro q hq oq hoq
          rcases List.mem_cons.1 hq with rfl | hq
          · rw [ho] at hoq; cases hoq
            refine hfact.congr ?_ ?_ (fun p hp => ?_) h7
            · intro t ht
              exact h4 t fun q hq oq hoq e => (hin q hq oq hoq t e).1 ht
            · intro d hd
              exact h4 d fun q hq oq hoq e => (hin q hq oq hoq d e).2 hd
            · simp only [List.append_assoc, List.mem_append]
              refine ⟨.inr, fun h => h.resolve_left fun h => ?_⟩
              obtain ⟨_, _, r, g3, g4⟩ := h5 p h
              exact (hap r (by rw [e1]; simp [g3])).1 (by rw [g4, hp])
          · have := h3 q hq oq hoq
            simpa using this
        · intro t ht
          rw [h4 t fun q hq => ht q (by simp [hq]), gE_put _ _ _ _ hd256, if_neg (ht s (by simp) o ho), hE1]
        · intro p hp
          rcases List.mem_append.1 hp with hp | hp
          · obtain ⟨g1, g2, q, g3, g4⟩ := h5 p hp
            exact ⟨by omega, g2, q, by simp [g3], g4⟩
          · obtain ⟨g1, g2, g3⟩ := hnw p hp
            exact ⟨g1, by omega, s, by simp, g3.symm⟩
        · rw [List.pairwise_append]
          refine ⟨h6, hnwp, fun p hp q hq => ?_⟩
          obtain ⟨g1, g2, r, g3, g4⟩ := h5 p hp
          obtain ⟨k1, k2, k3⟩ := hnw q hq
          refine ⟨by omega, fun e => ?_⟩
          exact (hap r (by rw [e1]; simp [g3])).1 (by rw [g4, e, k3])
      have hself : ∀ v, ∀ d, o.dst = some d → gE (putE E1 o.dst v) d = v := fun v d e => by rw [gE_put _ _ _ _ hd256, if_pos e]
      have hlook : ∀ v, ∀ t ∈ o.looksAt ops, gE (putE E1 o.dst v) t = gE E1 t := by
        intro v t ht
        rw [gE_put _ _ _ _ hd256]
        by_cases e : o.dst = some t
        · exact absurd ht (hs.self t e)
        · rw [if_neg e]
      have hnp : ∀ p ∈ pend, p.1 ≠ s.1 := fun p hp e => by obtain ⟨q, hq, e'⟩ := hpen p hp; exact hnd q hq (by rw [e', e])
      rcases hw with ⟨hy, hw⟩ | ⟨hno, hw⟩
      · split at hw
        · obtain ⟨v, h1, h2⟩ := det_pure _ _ _ _ hw
          exact go v N [] rs (by simpa using h1) (Nat.le_refl _) (by simp) .nil (fun _ h => h) (.pure v (hy.congr (hlook v)) (hself v) (by rw [envM_congr (hlook v)]; exact h2) (by simpa using hnp))
        · obtain ⟨v, h1, h2⟩ := det_read _ _ _ _ _ _ hw
          exact go v N [] (s.1 :: rs) (by simpa using h1) (Nat.le_refl _) (by simp) .nil (fun _ h => by simp [h]) (.read v (hy.congr (hlook v)) (hself v) (by rw [envM_congr (hlook v)]; exact h2) (by simp) (by simpa using hnp))
        · obtain ⟨mk, h1, h2⟩ := det_made _ _ _ _ hw
          exact go _ (N + 1) [(s.1, N, mk.ao)] rs h1 (by omega) (by simp) (by simp) (fun _ h => h) (.made mk N (hy.congr (hlook _)) (hself _) (by rw [envM_congr (hlook _)]; exact h2) (by simp))
        · exact ⟨[], s :: pl, E1, N, [], rs, rfl, by rw [List.append_nil]; exact .cons ho hs hnd hok', .call ho ‹_› hy hw, by simp, fun t _ => hE1 t, by simp, .nil, fun _ h => h, Nat.le_refl _⟩
      · exact go (.tup []) N [] rs (by simpa using hw) (Nat.le_refl _) (by simp) .nil (fun _ h => h) (.skip (hno.congr (hlook _)) (hself _) (by simpa using hnp))
end Go.Xe
