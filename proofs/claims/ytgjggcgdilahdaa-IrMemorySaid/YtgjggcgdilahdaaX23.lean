/- Executor, second make: a run by itself; the beginning. -/
import Derived.Test.YtgjggcgdilahdaaX22
set_option linter.unusedVariables false
set_option linter.unusedSimpArgs false
set_option linter.constructorNameAsVariable false
set_option linter.unusedVariables false
set_option linter.unusedSimpArgs false
namespace Go.Xe
open Go.RowKit

noncomputable def S0 : St := ⟨fun _ => none, HM.e, 0⟩
def ρ0 : Ren := fun b => match b with | .inp r => some (r, 0, 0) | .new _ => none

theorem S0_get (b : Bk) : S0.get b = none := by
  cases b with
  | inp r => rfl
  | new n => exact HM.get_e n
theorem sim0 (w : World) : Sim w.heap.size ρ0 S0.get S0.next w :=
  { obj := fun b ao hb => by rw [S0_get] at hb; cases hb
    inj := fun b b' ao ao' x x' hb => by rw [S0_get] at hb; cases hb
    fresh := fun n _ => rfl
    lows := fun n x h => by cases h
    size := Nat.le_refl _ }
theorem gok0 {G : Nat → Bool} : GOK G ρ0 := fun g _ => ⟨0, rfl⟩

def flatSV : SV → Bool
  | .bool _ | .int _ _ | .str _ | .ptr .nil | .sl .nil | .map .nil | .fn .nil => true
  | _ => false
def flatV1 : V1 → Bool
  | .s v => flatSV v
  | .agg l => l.all flatSV
def flatAV : AV → Bool
  | .one v => flatV1 v
  | .tup l => l.all flatV1
  | .any => true
theorem flatSV_ok {ρ ρ' : Ren} {v : SV} {cv : Value} (h : flatSV v = true) (hr : SR ρ v cv) : SR ρ' v cv := by
  cases v with
  | bool b => exact hr
  | int k n => exact hr
  | str l => exact hr
  | ptr p => cases p with | nil => exact hr | mk b o => cases h
  | sl p => cases p with | nil => exact hr | mk b o n c => cases h
  | map p => cases p with | nil => exact hr | mk b => cases h
  | fn p => cases p with | nil => exact hr | mk f a c => cases h
theorem flatSL_ok {ρ ρ' : Ren} : ∀ {l : List SV} {vs : List Value}, l.all flatSV = true → All2 (SR ρ) l vs → All2 (SR ρ') l vs
  | _, _, _, .nil => .nil
  | _, _, h, .cons a t => by
    simp only [List.all_cons, Bool.and_eq_true] at h
    exact .cons (flatSV_ok h.1 a) (flatSL_ok h.2 t)
theorem flatV1_ok {ρ ρ' : Ren} {v : V1} {cv : Value} (h : flatV1 v = true) (hr : VR1 ρ v cv) : VR1 ρ' v cv := by
  cases v with
  | s v => exact flatSV_ok h hr
  | agg l => obtain ⟨vs, e, hr⟩ := hr; exact ⟨vs, e, flatSL_ok h hr⟩
theorem flatVL_ok {ρ ρ' : Ren} : ∀ {l : List V1} {vs : List Value}, l.all flatV1 = true → All2 (VR1 ρ) l vs → All2 (VR1 ρ') l vs
  | _, _, _, .nil => .nil
  | _, _, h, .cons a t => by
    simp only [List.all_cons, Bool.and_eq_true] at h
    exact .cons (flatV1_ok h.1 a) (flatVL_ok h.2 t)
theorem flatAV_ok {ρ ρ' : Ren} {v : AV} {cv : Value} (h : flatAV v = true) (hr : VR ρ v cv) : VR ρ' v cv := by
  cases v with
  | one v => exact flatV1_ok h hr
  | tup l => obtain ⟨vs, e, hr⟩ := hr; exact ⟨vs, e, flatVL_ok h hr⟩
  | any => trivial
theorem flats_ok {ρ ρ' : Ren} : ∀ {l : List AV} {vs : List Value}, l.all flatAV = true → All2 (VR ρ) l vs → All2 (VR ρ') l vs
  | _, _, _, .nil => .nil
  | _, _, h, .cons a t => by
    simp only [List.all_cons, Bool.and_eq_true] at h
    exact .cons (flatAV_ok h.1 a) (flats_ok h.2 t)

/-- What is below the heap's end stays. -/
theorem Next.beyond {base ρ g nx} {w w' : World} (h : Sim base ρ g nx w) (hb : Below w.heap.size w w') : Next base ρ g nx w g nx ρ w' := by
  have hk : ∀ r, r < w.heap.size → w'.heap[r]? = w.heap[r]? := hb.block
  refine ⟨.refl _, ⟨?_, h.inj, h.fresh, h.lows, Nat.le_trans h.size hb.size⟩, ⟨hb.os, hb.tape, hb.output, hb.size, fun k hk' => hk k (Nat.lt_of_lt_of_le hk' h.size)⟩, fun r hr _ => hk r hr, fun r hi _ => hi, fun _ _ h => h, Nat.le_refl _⟩
  intro b ao hb'
  obtain ⟨r, sh, m, h1, h2⟩ := h.obj b ao hb'
  refine ⟨r, sh, m, h1, ?_⟩
  rw [hk r (h.there hb' h1)]
  exact h2

/-- What a function does with plain arguments in a memory of its own, it does in any. -/
theorem CallE.alone {P G f args S} {K0 K : AV → St → Prop} (ha : args.all flatAV = true) (h : CallE P G f args S0 K0) (hK : ∀ v S', K0 v S' → flatAV v = true ∧ K v S) : CallE P G f args S K := by
  refine ⟨h.1, fun base ρ w vs hs hG hvs => (h.2 w.heap.size ρ0 w vs (sim0 w) gok0 (flats_ok ha hvs)).mono ?_⟩
  rintro e w' ⟨v, S', cv, ρ', k, rfl, hv, hn⟩
  obtain ⟨hf, hk⟩ := hK v S' k
  exact ⟨v, S, cv, ρ, hk, rfl, flatAV_ok hf hv, Next.beyond hs hn.below⟩

/-- A law's call. -/
theorem CallE.runs {P G f args} {K : AV → St → Prop} (h : CallE P G f args S0 K) (W : World) {vs : List Value} (hvs : All2 (VR ρ0) args vs) {R : Ending → World → Prop}
    (hR : ∀ v S' cv ρ' W', K v S' → VR ρ' v cv → Below W.heap.size W W' → R (.returned cv) W') : Calls P f vs.toArray W R := by
  refine (h.2 W.heap.size ρ0 W vs (sim0 W) gok0 hvs).mono ?_
  rintro e w' ⟨v, S', cv, ρ', k, rfl, hv, hn⟩
  exact hR v S' cv ρ' w' k hv hn.below
end Go.Xe
