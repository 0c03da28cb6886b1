/- Executor: an end of which less is told (what lies below base is as it was), so that a loop may drop what it has built and number anew. -/
import Derived.Test.YticjocbgadgjpaaX27
set_option linter.unusedVariables false
set_option linter.unusedSimpArgs false
set_option linter.constructorNameAsVariable false
set_option linter.unusedVariables false
set_option linter.unusedSimpArgs false
namespace Go.Xe
open Go.RowKit
def PostB (base : Nat) (w : World) (K : AV → St → Prop) : Ending → World → Prop := fun e w' =>
  ∃ v S' cv ρ', K v S' ∧ e = .returned cv ∧ VR ρ' v cv ∧ Below base w w'
def CallB (P : Program) (G : Nat → Bool) (f : Nat) (args : List AV) (S : St) (K : AV → St → Prop) : Prop :=
  ∀ base ρ w (vs : List Value), Sim base ρ S.get S.next w → GOK G ρ → All2 (VR ρ) args vs → Calls P f vs.toArray w (PostB base w K)
def FinB (P : Program) (fn : Func) (base : Nat) (w : World) (K : AV → St → Prop) (a' : Act) (w' : World) : Prop :=
  a'.defers = [] ∧ ∃ cv v S' ρ', (results fn a'.tmps).run P w' = .ok cv w' ∧ K v S' ∧ VR ρ' v cv ∧ Below base w w'
def RunsB (P : Program) (G : Nat → Bool) (fn : Func) (todo : List Item) (E : Tr AV) (S : St) (K : AV → St → Prop) : Prop :=
  ∀ base ρ a w, AR ρ fn.ntmps E a → GOK G ρ → Sim base ρ S.get S.next w → ∀ (b : Frame) (cs : List Frame), ∃ e a' w', (e = .normal ∨ e = .ret) ∧ FinB P fn base w K a' w' ∧ Arrives P (lone (b.at a todo) cs w) b [] cs e a' w'
theorem Runs.toB {P G fn todo E S K} (h : Runs P G fn todo E S K) : RunsB P G fn todo E S K := by
  intro base ρ a w ha hG hw b cs
  obtain ⟨e, a', w', h1, ⟨h2, cv, v, S', ρ', h3, h4, h5, h6⟩, h7⟩ := h base ρ a w ha hG hw b cs
  exact ⟨e, a', w', h1, ⟨h2, cv, v, S', ρ', h3, h4, h5, h6.below⟩, h7⟩
def JOKB (P : Program) (G : Nat → Bool) (fn : Func) (T : Nat → List Item × List Nat) (J : Disp) : Prop :=
  ∀ p vals S K, J p vals S K → (∀ t ∈ (T p).2, t < 256) ∧ RunsB P G fn (T p).1 (envOf (T p).2 vals) S K
theorem FinB.trans {P fn base w K} {w1} (h : Below base w w1) {a w2} (k : FinB P fn base w1 K a w2) : FinB P fn base w K a w2 := by
  obtain ⟨h0, cv, v, S', ρ', h1, h2, h3, h4⟩ := k
  exact ⟨h0, cv, v, S', ρ', h1, h2, h3, h.trans h4⟩
theorem execK_runsB {P G fn D J plans T} (hD : DOK P G D) (hz : ZeroOK P) (hm : P.follows .mixedOrders = true) (hJ : JOKB P G fn T J) : ∀ (x : X) (todo : List Item) (E : Tr AV) (S : St) (K), Chk P fn.ntmps plans T x todo → execK P G fn D J plans x todo E S K → RunsB P G fn todo E S K := by
  intro x
  induction x with
  | op x ih =>
    intro todo E S K hc h base ρ a w ha hG hw b cs
    have hs := nrm_steps (P := P) (b := b) (cs := cs) a w nrmK todo
    simp only [Chk] at hc
    unfold execK at h
    dsimp only at h
    split at hc
    · rename_i id ops draw r hn
      rw [hn] at h hs
      dsimp only at h
      obtain ⟨hdst, hc⟩ := hc
      have hreg : (Code.region id ops draw).wp P (CP base ρ S w fn.ntmps fun E S => execK P G fn D J plans x r E S K) a w := by
        cases draw with
        | false =>
          refine wp_region ?_
          have := opsK_wp hD hz (Q := CP base ρ S w fn.ntmps fun E S => execK P G fn D J plans x r E S K) ops.toList 0 rfl hdst h ha hG hw fun _ _ h => h
          rwa [List.range_eq_range']
        | true =>
          exact drK2_wp hD hz hm ha.small hdst h id base ρ a w ha hG hw
      obtain ⟨e, a1, w1, ⟨rfl, E1, S1, ρ1, h1, h2, h3⟩, harr⟩ := hreg b r cs
      obtain ⟨e, a2, w2, h4, h5, h6⟩ := ih r E1 S1 K hc h1 base ρ1 a1 w1 h2 (hG.mono h3.le) h3.sim b cs
      exact ⟨e, a2, w2, h4, FinB.trans h3.below h5, .of_steps (Steps.trans hs harr) h6⟩
    · exact hc.elim
  | br x y ihx ihy =>
    intro todo E S K hc h base ρ a w ha hG hw b cs
    have hs := nrm_steps (P := P) (b := b) (cs := cs) a w nrmK todo
    simp only [Chk] at hc
    unfold execK at h
    dsimp only at h
    split at hc
    · rename_i c x' y' r hn
      rw [hn] at h hs
      dsimp only at h
      split at h
      · rename_i v hv
        have hcv := (ha.er.ev hG).sc hv
        cases v with
        | true =>
          obtain ⟨e, a2, w2, h4, h5, h6⟩ := ihx _ E S K hc.1 h base ρ a w ha hG hw b cs
          exact ⟨e, a2, w2, h4, h5, .of_steps (Steps.trans hs (.one (step_cond hcv))) h6⟩
        | false =>
          obtain ⟨e, a2, w2, h4, h5, h6⟩ := ihy _ E S K hc.2 h base ρ a w ha hG hw b cs
          exact ⟨e, a2, w2, h4, h5, .of_steps (Steps.trans hs (.one (step_cond hcv))) h6⟩
      · exact h.elim
    · exact hc.elim
  | ret =>
    intro todo E S K hc h base ρ a w ha hG hw b cs
    have hs := nrm_steps (P := P) (b := b) (cs := cs) a w nrmK todo
    unfold execK at h
    dsimp only at h
    have fin : resU P S E fn.results.toList (fun v => K v S) → FinB P fn base w K a w := by
      intro h
      unfold resU at h
      split at h
      · rename_i hb
        obtain ⟨vs, h2⟩ := resB_run (a := a) (P := P) (w := w) (Bool.and_eq_true_iff.1 hb).1
        exact ⟨ha.defers, _, .any, S, ρ, results_one h2, h, trivial, .refl _ _⟩
      obtain ⟨m, hK, vs, h1, h2⟩ := resK_run ha.er hw h
      refine ⟨ha.defers, _, _, S, ρ, results_one h2, hK, ?_, .refl _ _⟩
      unfold resV
      cases h1 with
      | nil => exact ⟨[], rfl, .nil⟩
      | cons h t =>
        cases t with
        | nil => exact h
        | cons h' t => exact ⟨_, rfl, .cons h (.cons h' t)⟩
    split at h
    · rename_i hn
      rw [hn] at hs
      exact ⟨.normal, a, w, .inl rfl, fin h, hs⟩
    · rename_i r hn
      rw [hn] at hs
      exact ⟨.ret, a, w, .inr rfl, fin h, _, Steps.trans hs (.one step_ret)⟩
    · exact h.elim
  | jmp p live =>
    intro todo E S K hc h base ρ a w ha hG hw b cs
    have hs := nrm_steps (P := P) (b := b) (cs := cs) a w nrmK todo
    unfold execK at h
    dsimp only at h
    simp only [Chk] at hc
    obtain ⟨hl, hr⟩ := hJ p _ S K h
    rw [hc] at hr hl
    obtain ⟨e, a2, w2, h4, h5, h6⟩ := hr base ρ a w (envOf_ok ha live hl .u ha.u) hG hw b cs
    exact ⟨e, a2, w2, h4, h5, .of_steps hs h6⟩

theorem callB_of {P G f fn c} (hf : P.funcs[f]? = some fn) (hb : fn.body = some c) (hnm : (fn.name == "runtime.NumGoroutine") = false) {args : List AV} {S : St} {K : AV → St → Prop} (h1 : Nat.ble args.length fn.ntmps = true) (h2 : Nat.ble fn.ntmps 256 = true)
    (h : RunsB P G fn [.code c] (envOf (List.range' 0 args.length) args) S K) : CallB P G f args S K := by
  have h1 := Nat.le_of_ble_eq_true h1
  have h2 := Nat.le_of_ble_eq_true h2
  intro base ρ w vs hw hG hvs
  have hlv := hvs.length
  let a0 : Act := { tmps := vs.toArray ++ Array.replicate (fn.ntmps - vs.toArray.size) undef, defers := [] }
  have hsz : a0.tmps.size = fn.ntmps := by simp [a0]; omega
  have hAR0 : AR ρ fn.ntmps .u a0 := ⟨fun t => by rw [gE_u]; trivial, hsz, rfl, h2⟩
  have hAR : AR ρ fn.ntmps (envOf (List.range' 0 args.length) args) a0 := by
    refine envOf_args args 0 .u hAR0 (fun i v hv => ?_) (by omega)
    obtain ⟨x, hx, hr⟩ := hvs.get hv
    have hlt : i < vs.length := (List.getElem?_eq_some_iff.1 hx).1
    have : a0.tmps.getD (0 + i) undef = x := by
      simp only [Nat.zero_add, Array.getD_eq_getD_getElem?]
      have : (vs.toArray ++ Array.replicate (fn.ntmps - vs.toArray.size) undef)[i]? = some x := by
        rw [Array.getElem?_append_left (by simpa using hlt)]; simpa using hx
      rw [this]; rfl
    rw [this]; exact hr
  intro cs
  let b : Frame := { (default : Frame) with fn := f, kind := .normal }
  have henter : Frame.enter P f vs.toArray .normal = b.at a0 [.code c] := by
    simp [Frame.enter, Frame.at, hf, hb, b, a0]
  obtain ⟨e, a', w', he, ⟨hd, cv, v, S', ρ', hr, hK, hv, hn⟩, harr⟩ := h base ρ a0 w hAR hG hw b cs
  rw [← henter] at harr
  have hpost : PostB base w K (.returned cv) w' := ⟨v, S', cv, ρ', hK, rfl, hv, hn⟩
  rcases he with rfl | rfl
  · exact ⟨.returned cv, w', _, hpost, Steps.trans harr (.one step_end), rfl, rfl, hd, rfl, fn, hf, hr⟩
  · obtain ⟨todo, hs⟩ := harr
    exact ⟨.returned cv, w', _, hpost, hs, rfl, rfl, hd, rfl, fn, hf, hr⟩

theorem JOKB.no {P G fn T} : JOKB P G fn T Disp.no := fun _ _ _ _ h => h.elim
theorem JOKB.add {P G fn T p A J} (hl : ∀ t ∈ (T p).2, t < 256) (h : ∀ vals S K, A vals S K → RunsB P G fn (T p).1 (envOf (T p).2 vals) S K) (hJ : JOKB P G fn T J) : JOKB P G fn T (J.add p A) := by
  intro g vals S K hh
  unfold Disp.add at hh
  cases hb : Nat.beq g p with
  | true => rw [hb] at hh; rw [Nat.eq_of_beq_eq_true hb]; exact ⟨hl, h vals S K hh⟩
  | false => rw [hb] at hh; exact hJ g vals S K hh
/-- Does a value lead only to what came in, and to blocks of lesser numbers? -/
def belB (n : Nat) : Bk → Bool
  | .inp _ => true
  | .new k => Nat.blt k n
def belSV (n : Nat) : SV → Bool
  | .ptr (.mk b _) => belB n b
  | .sl (.mk b _ _ _) => belB n b
  | .map (.mk b) => belB n b
  | .fn (.mk _ [] []) => true
  | .fn (.mk _ _ _) => false
  | _ => true
def belV1 (n : Nat) : V1 → Bool
  | .s v => belSV n v
  | .agg l => l.all (belSV n)
def belAV (n : Nat) : AV → Bool
  | .one v => belV1 n v
  | .tup l => l.all (belV1 n)
  | .any => true
def belAO (n : Nat) : AO → Bool
  | .cells l _ => l.all (belSV n)
  | .map es _ => es.all fun e => belV1 n e.1 && belV1 n e.2.1
  | .dict es => es.all fun e => belV1 n e.1 && belV1 n e.2
  | _ => false
def cutR (ρ : Ren) (n : Nat) : Ren := fun b => if belB n b = true then ρ b else none
theorem cutR_some {ρ : Ren} {n : Nat} {b : Bk} {x} (hb : belB n b = true) (h : ρ b = some x) : cutR ρ n b = some x := by unfold cutR; rw [if_pos hb]; exact h
theorem cutR_of {ρ : Ren} {n : Nat} {b : Bk} {x} (h : cutR ρ n b = some x) : ρ b = some x ∧ belB n b = true := by
  unfold cutR at h; split at h
  · rename_i hb; exact ⟨h, hb⟩
  · cases h
theorem belSV_ok {ρ : Ren} {n : Nat} {v : SV} {cv : Value} (h : belSV n v = true) (hr : SR ρ v cv) : SR (cutR ρ n) v cv := by
  rcases v with b | ⟨k, i⟩ | s | (_ | ⟨b, o⟩) | (_ | ⟨b, o, i, c⟩) | (_ | b) | (_ | ⟨f, a, c⟩) <;> first | exact hr | skip
  · obtain ⟨r, sh, m, h1, h2⟩ := hr; exact ⟨r, sh, m, cutR_some h h1, h2⟩
  · obtain ⟨r, sh, m, cc, o', h1, h2⟩ := hr; exact ⟨r, sh, m, cc, o', cutR_some h h1, h2⟩
  · obtain ⟨r, sh, m, h1, h2⟩ := hr; exact ⟨r, sh, m, cutR_some h h1, h2⟩
  · cases a with
    | nil =>
      cases c with
      | nil =>
        obtain ⟨xs, ys, h1, h2, h3⟩ := hr
        cases h2; cases h3
        exact ⟨_, _, h1, .nil, .nil⟩
      | cons _ _ => cases h
    | cons _ _ => cases c <;> cases h
theorem belSL_ok {ρ : Ren} {n : Nat} : ∀ {l : List SV} {vs : List Value}, l.all (belSV n) = true → All2 (SR ρ) l vs → All2 (SR (cutR ρ n)) l vs
  | _, _, _, .nil => .nil
  | _, _, h, .cons a t => by
    simp only [List.all_cons, Bool.and_eq_true] at h
    exact .cons (belSV_ok h.1 a) (belSL_ok h.2 t)
theorem belV1_ok {ρ : Ren} {n : Nat} {v : V1} {cv : Value} (h : belV1 n v = true) (hr : VR1 ρ v cv) : VR1 (cutR ρ n) v cv := by
  cases v with
  | s v => exact belSV_ok h hr
  | agg l => obtain ⟨vs, e, hr⟩ := hr; exact ⟨vs, e, belSL_ok h hr⟩
theorem belVs_ok {ρ : Ren} {n : Nat} : ∀ {l : List V1} {vs : List Value}, l.all (belV1 n) = true → All2 (VR1 ρ) l vs → All2 (VR1 (cutR ρ n)) l vs
  | _, _, _, .nil => .nil
  | _, _, h, .cons a t => by
    simp only [List.all_cons, Bool.and_eq_true] at h
    exact .cons (belV1_ok h.1 a) (belVs_ok h.2 t)
theorem belAV_ok {ρ : Ren} {n : Nat} {v : AV} {cv : Value} (h : belAV n v = true) (hr : VR ρ v cv) : VR (cutR ρ n) v cv := by
  cases v with
  | one v => exact belV1_ok h hr
  | tup l => obtain ⟨vs, e, hr⟩ := hr; exact ⟨vs, e, belVs_ok h hr⟩
  | any => trivial
theorem belE_ok {ρ : Ren} {n : Nat} : ∀ {es : List (V1 × V1 × Nat)} {xs : List MapEntry}, (∀ e ∈ es, belV1 n e.1 = true ∧ belV1 n e.2.1 = true) → All2 (ER1 ρ) es xs → All2 (ER1 (cutR ρ n)) es xs
  | _, _, _, .nil => .nil
  | _, _, h, .cons a t => .cons ⟨belV1_ok (h _ (by simp)).1 a.1, belV1_ok (h _ (by simp)).2 a.2.1, a.2.2⟩ (belE_ok (fun e he => h e (by simp [he])) t)
theorem belAO_ok {ρ : Ren} {n : Nat} {ao : AO} {sh m o} (h : belAO n ao = true) (hr : OR ρ ao sh m o) : OR (cutR ρ n) ao sh m o := by
  cases ao with
  | cells l op => obtain ⟨pre, vs, post, t, h1, h2, h3, h4⟩ := hr; exact ⟨pre, vs, post, t, h1, h2, belSL_ok h h3, h4⟩
  | map es clock =>
    obtain ⟨xs, h1, h2⟩ := hr
    refine ⟨xs, h1, belE_ok (fun e he => ?_) h2⟩
    have := List.all_eq_true.1 h _ he
    simpa using this
  | dict es =>
    obtain ⟨xs, c, es', h1, h2, h3⟩ := hr
    refine ⟨xs, c, es', h1, belE_ok (fun e he => ?_) h2, h3⟩
    have hm : (e.1, e.2.1) ∈ es := h3.mem_iff.1 (List.mem_map_of_mem he)
    have := List.all_eq_true.1 h _ hm
    simpa using this
  | wide => cases h
  | iter => cases h
theorem belOB_ok {ρ : Ren} {n : Nat} {b : Bk} {ao : AO} {sh m o} (h : belAO n ao = true) (hr : OB b ρ ao sh m o) : OB b (cutR ρ n) ao sh m o := by
  cases b
  · exact belAO_ok h hr
  · exact belAO_ok h hr
/-- What a loop leaves behind may be dropped, and its numbers used again. -/
theorem Sim.cut {base ρ w} {S S' : St} (hw : Sim base ρ S.get S.next w) (hn : S'.next ≤ S.next) (hS : ∀ b ao, S'.get b = some ao → S.get b = some ao ∧ belB S'.next b = true ∧ belAO S'.next ao = true) : Sim base (cutR ρ S'.next) S'.get S'.next w := by
  refine ⟨fun b ao hb => ?_, ?_, ?_, ?_, hw.size⟩
  · obtain ⟨h1, h2, h3⟩ := hS b ao hb
    obtain ⟨r, sh, m, e1, e2⟩ := hw.obj b ao h1
    exact ⟨r, sh, m, cutR_some h2 e1, belOB_ok h3 e2⟩
  · intro b k ao ao' x x' hb hk hx hx'
    exact hw.inj b k ao ao' x x' (hS _ _ hb).1 (hS _ _ hk).1 (cutR_of hx).1 (cutR_of hx').1
  · intro k hk
    unfold cutR
    rw [if_neg]
    intro h
    have : Nat.blt k S'.next = true := h
    rw [blt_iff] at this; omega
  · intro k x hx
    exact hw.lows k x (cutR_of hx).1
theorem envOf_bel {ρ : Ren} {a : Act} {N n : Nat} : ∀ (live : List Nat), (∀ t ∈ live, t < 256) → ∀ (vals : List AV), (∀ v ∈ vals, belAV n v = true) → ∀ (E0 : Tr AV), (∀ u, belAV n (gE E0 u) = true) →
    ∀ u, belAV n (gE (List.rec (motive := fun _ => List AV → Tr AV → Tr AV) (fun _ E => E) (fun t _ ih vals E => List.rec (motive := fun _ => Tr AV) E (fun v r _ => ih r (E.set2 t v)) vals) live vals E0) u) = true
  | [], _, _, _, _, h0 => h0
  | t :: live, hl, [], _, E0, h0 => h0
  | t :: live, hl, v :: vals, hv, E0, h0 => by
    refine envOf_bel (ρ := ρ) (a := a) (N := N) live (fun x hx => hl x (by simp [hx])) vals (fun x hx => hv x (by simp [hx])) (E0.set2 t v) (fun u => ?_)
    rw [gE_set _ _ _ _ (hl t (by simp))]
    by_cases e : u = t
    · rw [if_pos e]; exact hv v (by simp)
    · rw [if_neg e]; exact h0 u
theorem RunsB.reset {P G fn todo K} {live : List Nat} {vals : List AV} {S S' : St} (h : RunsB P G fn todo (envOf live vals) S' K) (hl : ∀ t ∈ live, t < 256) (hn : S'.next ≤ S.next)
    (hS : ∀ b ao, S'.get b = some ao → S.get b = some ao ∧ belB S'.next b = true ∧ belAO S'.next ao = true) (hv : ∀ v ∈ vals, belAV S'.next v = true) : RunsB P G fn todo (envOf live vals) S K := by
  intro base ρ a w ha hG hw b cs
  refine h base (cutR ρ S'.next) a w ⟨fun t => ?_, ha.size, ha.defers, ha.small⟩ (fun g hg => ?_) (hw.cut hn hS) b cs
  · exact belAV_ok (envOf_bel (ρ := ρ) (a := a) (N := 0) live hl vals hv .u (fun u => by rw [gE_u]; rfl) t) (ha.er t)
  · obtain ⟨m, hm⟩ := hG g hg
    exact ⟨m, cutR_some rfl hm⟩
theorem CallB.runsI {P G f args} {m : Nat → Option AO} {q : Nat → Option (Nat × Nat × Nat)} {K : AV → St → Prop} (h : CallB P G f args (SI m) K) (W : World) (hq : ∀ g, G g = true → ∃ mm, q g = some (g, 0, mm))
    (hm : ∀ r ao, m r = some ao → ∃ x sh mm, q r = some (x, sh, mm) ∧ OR (ρI q) ao sh mm ((W.heap[x]?).map thaw)) {vs : List Value} (hvs : All2 (VR (ρI q)) args vs) {R : Ending → World → Prop}
    (hR : ∀ v S' cv ρ' W', K v S' → VR ρ' v cv → Below W.heap.size W W' → R (.returned cv) W') : Calls P f vs.toArray W R := by
  refine (h W.heap.size (ρI q) W vs (simI hm) hq hvs).mono ?_
  rintro e w' ⟨v, S', cv, ρ', k, rfl, hv, hb⟩
  exact hR v S' cv ρ' w' k hv hb
end Go.Xe
