/- A part of the proof: N7. -/
import Derived.Test.YtgjggcgdilahdaaI6
set_option linter.unusedVariables false
set_option linter.unusedSimpArgs false
set_option linter.constructorNameAsVariable false
set_option linter.unusedVariables false
set_option maxRecDepth 100000
namespace Go.Xe
open Go.RowKit
abbrev isT : AV → St → Prop := fun v _ => v = .one (.s (.bool true))
/-- What Plain comes to. -/
def Sem (s a b v : Int) (ok : Bool) : Prop := ∀ S K, K (two v ok) S → CallOK IrP IrG 61 [nm s, nm a, nm b] S K
/-- Plain out of a proof over a memory of its own. -/
theorem Sem.of {s a b v : Int} {ok : Bool} (h : ∀ K : AV → St → Prop, (∀ H' n', 0 ≤ n' → Kn H' n' [] → K (two v ok) ⟨fun _ => none, H', n'⟩) → CallE IrP IrG 61 [nm s, nm a, nm b] ⟨fun _ => none, HM.e, 0⟩ K) : Sem s a b v ok := by
  intro S K hk
  refine .inl (CallE.alone rfl (K0 := fun x _ => x = two v ok) (h (fun x _ => x = two v ok) (fun _ _ _ _ => rfl)) ?_)
  rintro v' S' rfl
  exact ⟨rfl, hk⟩
theorem ir_awake_run (k : Nat) : A8_0 (IrD (Disp.add 23 outK Disp.no) (k+2000)) (J8 (IrD (Disp.add 23 outK Disp.no) (k+2000)) (k+2000)) [] S0 isT = (((1 : Int) = 1 ∧ (44 : Int) = 44 ∧ [SV.int .u8 44] = [SV.int .u8 44] ∧ ∃ ys : List Int, ys.length = 1 ∧ [SV.int .u8 44] = ys.map (.int .u8)) ∧ (.one (.s (.bool true)) : AV) = .one (.s (.bool true))) := by kernel_rfl
theorem ir_awake_of {D : Disp} (hD : DOK IrP IrG D) {k : Nat} {K : AV → St → Prop} {p : Prop} (hp : p) (h : A8_0 D (J8 D k) [] S0 K = p) : CallE IrP IrG 8 [] S0 K := by
  rw [← h] at hp
  exact E8_ok hD k hp
theorem ir_awake : CallE IrP IrG 8 [] S0 isT :=
  ir_awake_of (IrD_ok (DOK.add (fun _ _ _ h => .inl (outK_ok h)) DOK.no) (0 + 2000)) (k := 0 + 2000) ⟨⟨rfl, rfl, rfl, [44], rfl, rfl⟩, rfl⟩ (ir_awake_run 0)
theorem awake_any (S : St) (K : AV → St → Prop) (h : K (.one (.s (.bool true))) S) : CallOK IrP IrG 8 [] S K :=
  .inl (CallE.alone rfl ir_awake (by rintro v S' rfl; exact ⟨rfl, h⟩))
end Go.Xe
