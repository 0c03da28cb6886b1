/- Executor, second make: words of the printed functions. -/
import Derived.Test.YtgjggcgdilahdaaX20
set_option linter.unusedVariables false
set_option linter.unusedSimpArgs false
set_option linter.constructorNameAsVariable false
set_option linter.unusedVariables false
set_option linter.unusedSimpArgs false
namespace Go.Xe
open Go.RowKit

noncomputable abbrev ifK (c : Bool) (x y : Prop) : Prop := Bool.rec (motive := fun _ => Prop) y x c
noncomputable abbrev PV.on (p : PV) (n : Prop) (K : Bk → Nat → Prop) : Prop := PV.rec (motive := fun _ => Prop) n K p
noncomputable abbrev LV.on (p : LV) (n : Prop) (K : Bk → Nat → Nat → Nat ⊕ Nat → Prop) : Prop := LV.rec (motive := fun _ => Prop) n K p
noncomputable abbrev MV.on (p : MV) (n : Prop) (K : Bk → Prop) : Prop := MV.rec (motive := fun _ => Prop) n K p
noncomputable abbrev FV.on (p : FV) (n : Prop) (K : Fn → List (Bk × Nat) → List (Bk × Nat) → Prop) : Prop := FV.rec (motive := fun _ => Prop) n K p
noncomputable abbrev sumOn {α β : Type} (x : α ⊕ β) (A : α → Prop) (B : β → Prop) : Prop := Sum.rec (motive := fun _ => Prop) A B x
noncomputable abbrev avA (v : AV) (K : List SV → Prop) : Prop := match v with | .one (.agg l) => K l | _ => False
noncomputable abbrev avT (v : AV) (K : List V1 → Prop) : Prop := match v with | .tup l => K l | _ => False
noncomputable abbrev v1A (v : V1) (K : List SV → Prop) : Prop := match v with | .s _ => False | .agg l => K l
noncomputable abbrev uncV (l : List V1) (K : V1 → List V1 → Prop) : Prop := List.rec (motive := fun _ => Prop) False (fun v r _ => K v r) l
noncomputable abbrev uncA (l : List AV) (K : AV → List AV → Prop) : Prop := List.rec (motive := fun _ => Prop) False (fun v r _ => K v r) l
noncomputable abbrev endL {α : Type} (l : List α) (K : Prop) : Prop := List.rec (motive := fun _ => Prop) K (fun _ _ _ => False) l
noncomputable abbrev fnF (f : Fn) (K : Nat → Prop) : Prop := match f with | .func k => K k | _ => False

theorem avA_some {v K} (h : avA v K) : ∃ l, v = .one (.agg l) ∧ K l := by
  unfold avA at h; split at h
  · exact ⟨_, rfl, h⟩
  · exact h.elim
theorem avT_some {v K} (h : avT v K) : ∃ l, v = .tup l ∧ K l := by
  unfold avT at h; split at h
  · exact ⟨_, rfl, h⟩
  · exact h.elim
theorem v1A_some {v K} (h : v1A v K) : ∃ x, v = .agg x ∧ K x := by
  unfold v1A at h; split at h
  · exact h.elim
  · exact ⟨_, rfl, h⟩
theorem uncV_some {l K} (h : uncV l K) : ∃ v r, l = v :: r ∧ K v r := by cases l; exact h.elim; exact ⟨_, _, rfl, h⟩
theorem uncA_some {l K} (h : uncA l K) : ∃ v r, l = v :: r ∧ K v r := by cases l; exact h.elim; exact ⟨_, _, rfl, h⟩
theorem endL_some {α : Type} {l : List α} {K : Prop} (h : endL l K) : l = [] ∧ K := by
  cases l
  · exact ⟨rfl, h⟩
  · exact h.elim
theorem cB_some {v K} (h : SV.cB v K) : ∃ b, v = .bool b ∧ K b := by
  unfold SV.cB at h; split at h
  · exact ⟨_, rfl, h⟩
  · exact h.elim
theorem cI_some {k v K} (h : SV.cI k v K) : ∃ n, v = .int k n ∧ K n := by
  unfold SV.cI at h; split at h
  · obtain ⟨h1, h2⟩ := req_and h
    have := of_decide_eq_true h1; subst this
    exact ⟨_, rfl, h2⟩
  · exact h.elim
theorem cP_some {v K} (h : SV.cP v K) : ∃ b, v = .ptr b ∧ K b := by
  unfold SV.cP at h; split at h
  · exact ⟨_, rfl, h⟩
  · exact h.elim
theorem cF_some {v K} (h : SV.cF v K) : ∃ b, v = .fn b ∧ K b := by
  unfold SV.cF at h; split at h
  · exact ⟨_, rfl, h⟩
  · exact h.elim

/-- What a call hands back is of the types that the function says. -/
noncomputable abbrev takeVs (P : Program) (ts : List TypeId) (l : List V1) (K : List V1 → Prop) : Prop :=
  List.rec (motive := fun _ => List V1 → (List V1 → Prop) → Prop) (fun l K => endL l (K [])) (fun t _ ih l K => uncV l fun v r => optK (zeroA P t) fun z => (match z with
    | .s z => v1S v fun x => tkK z x fun x => ih r fun vs => K (.s x :: vs)
    | .agg zs => v1A v fun l => req (Nat.beq l.length zs.length) (takeK zs l fun l => ih r fun vs => K (.agg l :: vs)))) ts l K
theorem takeVs_some {P} : ∀ {ts l K}, takeVs P ts l K → K l
  | [], l, K, h => by obtain ⟨rfl, h1⟩ := endL_some h; exact h1
  | t :: ts, l, K, h => by
    obtain ⟨v, r, rfl, h1⟩ := uncV_some h
    obtain ⟨z, hz, h2⟩ := optK_some h1
    cases z with
    | s z =>
      obtain ⟨x, rfl, h3⟩ := v1S_some h2
      have h4 := tkK_some h3
      exact takeVs_some (ts := ts) (l := r) (K := fun vs => K (.s x :: vs)) h4
    | agg zs =>
      obtain ⟨m, rfl, h3⟩ := v1A_some h2
      obtain ⟨h5, h6⟩ := req_and h3
      obtain ⟨h7, h8⟩ := takeK_some h6
      have e : m.take zs.length = m := List.take_of_length_le (by rw [Nat.eq_of_beq_eq_true h5]; exact Nat.le_refl _)
      rw [e] at h7
      exact takeVs_some (ts := ts) (l := r) (K := fun vs => K (.agg m :: vs)) h7
noncomputable abbrev shapeK (P : Program) (ts : List TypeId) (v : AV) (K : AV → Prop) : Prop := match ts with
  | [] => avT v fun l => endL l (K (.tup []))
  | [t] => optK (zeroA P t) fun z => (match z with
    | .s z => scK v fun x => tkK z x fun x => K (.one (.s x))
    | .agg zs => avA v fun l => req (Nat.beq l.length zs.length) (takeK zs l fun l => K (.one (.agg l))))
  | ts => avT v fun l => takeVs P ts l fun vs => K (.tup vs)
theorem shapeK_some {P ts v K} (h : shapeK P ts v K) : K v := by
  unfold shapeK at h
  split at h
  · obtain ⟨l, rfl, h1⟩ := avT_some h
    obtain ⟨rfl, h2⟩ := endL_some h1
    exact h2
  · obtain ⟨z, hz, h2⟩ := optK_some h
    cases z with
    | s z =>
      obtain ⟨x, rfl, h3⟩ := scK_some h2
      exact tkK_some h3
    | agg zs =>
      obtain ⟨m, rfl, h3⟩ := avA_some h2
      obtain ⟨h5, h6⟩ := req_and h3
      obtain ⟨h7, h8⟩ := takeK_some h6
      have e : m.take zs.length = m := List.take_of_length_le (by rw [Nat.eq_of_beq_eq_true h5]; exact Nat.le_refl _)
      rw [e] at h7
      exact h7
  · obtain ⟨l, rfl, h1⟩ := avT_some h
    exact takeVs_some h1
noncomputable abbrev zeroable (P : Program) (ts : List TypeId) : Bool := List.rec (motive := fun _ => Bool) true (fun t _ ih => match zeroA P t with | some _ => ih | none => false) ts
noncomputable abbrev typed (P : Program) (D : Disp) : Disp := fun f args S K => match P.funcs[f]? with
  | some fn => (match zeroable P fn.resultTypes.toList with
    | true => D f args S fun v S' => shapeK P fn.resultTypes.toList v fun v => K v S'
    | false => D f args S fun _ S' => K .any S')
  | none => False
theorem CallOK.any {P G f args S K} (h : CallOK P G f args S fun _ S' => K .any S') : CallOK P G f args S K := by
  have key : ∀ {base ρ w e w'}, Post base ρ S w (fun _ S' => K .any S') e w' → Post base ρ S w K e w' := by
    rintro base ρ w e w' ⟨v, S', cv, ρ', k, he, hv, hn⟩
    exact ⟨.any, S', cv, ρ', k, he, trivial, hn⟩
  rcases h with h | h
  · exact .inl ⟨h.1, fun base ρ w vs h1 h2 h3 => (h.2 base ρ w vs h1 h2 h3).mono fun e w' hp => key hp⟩
  · refine .inr fun base ρ w vs h1 h2 h3 => ?_
    obtain ⟨cv, w', g1, hp⟩ := h base ρ w vs h1 h2 h3
    exact ⟨cv, w', g1, key hp⟩
theorem DOK.typed {P G D} (hD : DOK P G D) : DOK P G (typed P D) := by
  intro f args S K h
  unfold Xe.typed at h
  split at h
  · split at h
    · exact (hD f args S _ h).mono fun v S' h => shapeK_some h
    · exact (hD f args S _ h).any
  · exact h.elim

/- Where in the code a piece begins. -/
inductive Mv where
  | op | th | el
def navs : List Mv → List Item → List Item
  | [], t => nrm nrmK t
  | .op :: m, t => (match nrm nrmK t with | .code (.region _ _ _) :: r => navs m r | t => t)
  | .th :: m, t => (match nrm nrmK t with | .code (.cond _ a _) :: r => navs m (.code a :: r) | t => t)
  | .el :: m, t => (match nrm nrmK t with | .code (.cond _ _ b) :: r => navs m (.code b :: r) | t => t)
end Go.Xe
