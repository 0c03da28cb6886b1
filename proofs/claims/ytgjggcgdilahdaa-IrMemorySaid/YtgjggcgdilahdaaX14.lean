/- Executor, second make: rows of operations, code, functions. -/
import Derived.Test.YtgjggcgdilahdaaX13
set_option linter.unusedVariables false
set_option linter.unusedSimpArgs false
set_option linter.constructorNameAsVariable false
set_option linter.unusedVariables false
set_option linter.unusedSimpArgs false
namespace Go.Xe
open Go.RowKit

/- The slots. -/
noncomputable abbrev gE (E : Tr AV) (t : Nat) : AV := match Nat.blt t 4096 with
  | true => (match E.get2 t with | some v => v | none => .any)
  | false => .any
noncomputable abbrev putE (E : Tr AV) (dst : Option Nat) (v : AV) : Tr AV := match dst with
  | none => E
  | some d => E.set2 d v

structure AR (ρ : Ren) (n : Nat) (E : Tr AV) (a : Act) : Prop where
  er : ER ρ (gE E) a
  size : a.tmps.size = n
  defers : a.defers = []
  small : n ≤ 4096

theorem AR.mono {ρ ρ' : Ren} (h : Le ρ ρ') {n E a} (r : AR ρ n E a) : AR ρ' n E a := ⟨fun t => (r.er t).mono h, r.size, r.defers, r.small⟩

theorem gE_set (E : Tr AV) (d : Nat) (v : AV) (t : Nat) (hd : d < 4096) : gE (E.set2 d v) t = if t = d then v else gE E t := by
  unfold gE
  by_cases h256 : t < 4096
  · rw [blt_iff.2 h256]
    dsimp only
    rw [Tr.get2_set2 _ _ _ _ hd h256]
    by_cases e : t = d
    · simp [e]
    · simp [e]
  · rw [blt_false h256]
    have : t ≠ d := by omega
    simp [this]
theorem gE_u (t : Nat) : gE .u t = .any := by
  unfold gE
  cases Nat.blt t 4096
  · rfl
  · show (match getP (path3 t) (Tr.u : Tr AV) with | some v => v | none => AV.any) = _
    rw [getP_u]

theorem AR.put {ρ n E a} (h : AR ρ n E a) {dst v} (hp : ∀ d, dst = some d → d < n) {cv} (hv : VR ρ v cv) : AR ρ n (putE E dst v) (a.put dst cv) := by
  cases dst with
  | none => exact h
  | some d =>
    have hd := hp d rfl
    refine ⟨fun t => ?_, by simp [Act.put, h.size], h.defers, h.small⟩
    show VR ρ (gE (E.set2 d v) t) _
    rw [gE_set _ _ _ _ (by have := h.small; omega)]
    by_cases e : t = d
    · subst e
      simp only [if_true, Act.put]
      have : t < a.tmps.size := by rw [h.size]; exact hd
      simpa [this] using hv
    · simp only [e, if_false, Act.put]
      have e2 : (a.tmps.setIfInBounds d cv).getD t undef = a.tmps.getD t undef := by
        simp [Array.getElem?_setIfInBounds_ne (Ne.symm e)]
      rw [e2]; exact h.er t
theorem AR.same {ρ n E a} (h : AR ρ n E a) {d b} (hd : d < 4096) (he : gE E d = .one (.s (.bool b))) : AR ρ n (E.set2 d (.one (.s (.bool b)))) a := by
  refine ⟨fun t => ?_, h.size, h.defers, h.small⟩
  show VR ρ (gE (E.set2 d _) t) _
  rw [gE_set _ _ _ _ hd]
  by_cases e : t = d
  · subst e; simp only [if_true]; rw [← he]; exact h.er t
  · simp only [e, if_false]; exact h.er t

/-- Is an operation wanted? What its guard is, is known from there on. -/
noncomputable abbrev wantK (ops : Array Oper) (E : Tr AV) (o : Oper) (yes no : Tr AV → Prop) : Prop :=
  match o.guard with
  | none => yes E
  | some (j, want) => (match ops[j]? with
    | some p => (match p.dst with
      | some d => (match gE E d with
        | .one (.s (.bool b)) => req (Nat.blt d 4096) (match want with
          | true => Bool.rec (motive := fun _ => Prop) (no (E.set2 d (.one (.s (.bool false))))) (yes (E.set2 d (.one (.s (.bool true))))) b
          | false => Bool.rec (motive := fun _ => Prop) (yes (E.set2 d (.one (.s (.bool false))))) (no (E.set2 d (.one (.s (.bool true))))) b)
        | .tup _ => no E
        | _ => False)
      | none => no E)
    | none => no E)

theorem wantK_ok {ρ n E a ops o yes no} (h : AR ρ n E a) (hw : wantK ops E o yes no) : ∃ E', AR ρ n E' a ∧ ((Region.wanted o (yielded ops a.tmps) = true ∧ yes E') ∨ (Region.wanted o (yielded ops a.tmps) = false ∧ no E')) := by
  unfold wantK at hw
  unfold Region.wanted
  cases hg : o.guard with
  | none => rw [hg] at hw; exact ⟨E, h, .inl ⟨rfl, hw⟩⟩
  | some jw =>
    obtain ⟨j, want⟩ := jw
    rw [hg] at hw
    dsimp only at hw ⊢
    unfold yielded
    cases hp : ops[j]? with
    | none => rw [hp] at hw; exact ⟨E, h, .inr ⟨by simp, hw⟩⟩
    | some p =>
      rw [hp] at hw
      dsimp only at hw
      cases hd : p.dst with
      | none => rw [hd] at hw; exact ⟨E, h, .inr ⟨by simp [hd], hw⟩⟩
      | some d =>
        rw [hd] at hw
        dsimp only at hw
        simp only [Option.bind_some, hd]
        have hv := h.er d
        split at hw
        · rename_i b hb
          obtain ⟨h256, hw⟩ := req_and hw
          rw [blt_iff] at h256
          have hv' : a.tmps.getD d undef = .bool b := by rw [hb] at hv; exact hv
          have hx : a.tmps[d]? = some (.bool b) := by
            cases hx : a.tmps[d]? with
            | none => simp [Array.getD_eq_getD_getElem?, hx, undef] at hv'
            | some x =>
              have : x = .bool b := by simpa [Array.getD_eq_getD_getElem?, hx] using hv'
              rw [this]
          simp only [hx]
          have hs := h.same h256 hb
          cases want <;> cases b <;> first | exact ⟨_, hs, .inl ⟨rfl, hw⟩⟩ | exact ⟨_, hs, .inr ⟨rfl, hw⟩⟩
        · rename_i l hb
          refine ⟨E, h, .inr ⟨?_, hw⟩⟩
          rw [hb] at hv
          obtain ⟨vs, hv', _⟩ := hv
          cases hx : a.tmps[d]? with
          | none => simp
          | some x =>
            have : x = .tuple vs.toArray := by simpa [Array.getD_eq_getD_getElem?, hx] using hv'
            subst this; simp
        · exact hw.elim

noncomputable abbrev opsK (P : Program) (G : Nat → Bool) (D : Disp) (ops : Array Oper) (l : List Oper) (E : Tr AV) (S : St) (K : Tr AV → St → Prop) : Prop :=
  List.rec (motive := fun _ => Tr AV → St → Prop) (fun E S => K E S) (fun o _ ih E S =>
    wantK ops E o (fun E => stepK P D S (evO G (gE E)) o fun v S' => ih (putE E o.dst v) S') (fun E => ih (putE E o.dst (.tup [])) S)) l E S

def dstOK (n : Nat) : List Oper → Bool
  | [] => true
  | o :: l => (match o.dst with | some d => Nat.blt d n | none => true) && dstOK n l

/-- What code leaves. -/
def CP (base : Nat) (ρ : Ren) (S : St) (w : World) (n : Nat) (K : Tr AV → St → Prop) : Exit → Act → World → Prop := fun e a w' =>
  e = .normal ∧ ∃ E S' ρ', K E S' ∧ AR ρ' n E a ∧ Next base ρ S.get S.next w S'.get S'.next ρ' w'
theorem CP.trans {base ρ w n K} {S S1 : St} {ρ1 w1} (h : Next base ρ S.get S.next w S1.get S1.next ρ1 w1) {e a w2} (k : CP base ρ1 S1 w1 n K e a w2) : CP base ρ S w n K e a w2 := by
  obtain ⟨rfl, E, S', ρ', h0, h1, h2⟩ := k
  exact ⟨rfl, E, S', ρ', h0, h1, h.trans h2⟩

theorem opsK_wp {P G D} (hD : DOK P G D) (hz : ZeroOK P) {n : Nat} {ops : Array Oper} {base : Nat} {K : Tr AV → St → Prop} {Q : Exit → Act → World → Prop} : ∀ (l : List Oper) (k : Nat), ops.toList.drop k = l → dstOK n l = true → ∀ {E S}, opsK P G D ops l E S K →
    ∀ {ρ a w}, AR ρ n E a → GOK G ρ → Sim base ρ S.get S.next w → (∀ a' w', CP base ρ S w n K .normal a' w' → Q .normal a' w') → wpOps P ops Q (List.range' k (ops.size - k)) a w := by
  intro l
  induction l with
  | nil =>
    intro k hk _ E S h ρ a w ha hG hw hQ
    have : ops.size - k = 0 := by
      have := congrArg List.length hk; simp at this; omega
    rw [this]
    exact hQ a w ⟨rfl, E, S, ρ, h, ha, .refl hw⟩
  | cons o l ih =>
    intro k hk hdst E S h ρ a w ha hG hw hQ
    have hlen : k < ops.size := by
      have := congrArg List.length hk; simp at this; omega
    have hok : ops[k]? = some o := by
      have := congrArg (fun x => x[0]?) hk
      simpa using this
    have hdrop : ops.toList.drop (k + 1) = l := by
      rw [← List.drop_drop, hk]; rfl
    have hr : List.range' k (ops.size - k) = k :: List.range' (k + 1) (ops.size - (k + 1)) := by
      rw [show ops.size - k = (ops.size - (k + 1)) + 1 by omega, List.range'_succ]
    simp only [dstOK, Bool.and_eq_true] at hdst
    have hd : ∀ d, o.dst = some d → d < n := by
      intro d e; have := hdst.1; rw [e] at this; exact blt_iff.1 this
    rw [hr]
    simp only [wpOps, hok]
    obtain ⟨E', ha', ⟨hwant, h⟩ | ⟨hwant, h⟩⟩ := wantK_ok (yes := fun E => stepK P D S (evO G (gE E)) o fun v S' => opsK P G D ops l (putE E o.dst v) S' K) (no := fun E => opsK P G D ops l (putE E o.dst (.tup [])) S K) ha h
    · rw [hwant]
      simp only [if_true]
      refine .inl (stepK_wp hD hz h (ha'.er.ev hG) hG hw ?_)
      intro v S' cv ρ' w' h1 hv hn
      exact ih (k + 1) hdrop hdst.2 h1 ((ha'.mono hn.le).put hd hv) (hG.mono hn.le) hn.sim fun a' w'' hc => hQ a' w'' (hc.trans hn)
    · rw [hwant]
      simp only [Bool.false_eq_true, if_false]
      exact ih (k + 1) hdrop hdst.2 h (ha'.put hd (undef_ok _)) hG hw hQ

end Go.Xe
