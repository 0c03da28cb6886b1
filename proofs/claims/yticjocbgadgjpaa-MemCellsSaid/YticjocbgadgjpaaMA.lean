/- A part of the proof: MA. -/
import Derived.Test.YticjocbgadgjpaaXSmem
set_option linter.unusedVariables false
set_option linter.unusedSimpArgs false
set_option linter.constructorNameAsVariable false
set_option linter.unusedVariables false
set_option maxRecDepth 100000
namespace Go.Xe
open Go.RowKit
theorem awake_run (k : Nat) : A6_0 (MemD Disp.no (k+200)) (J6 (MemD Disp.no (k+200)) (k+200)) [] S0 (fun v _ => v = .one (.s (.bool true))) = ((.one (.s (.bool true)) : AV) = .one (.s (.bool true))) := by kernel_rfl
theorem awake_of {D : Disp} (hD : DOK MemP MemG D) {k : Nat} {K : AV → St → Prop} {p : Prop} (hp : p) (h : A6_0 D (J6 D k) [] S0 K = p) : CallE MemP MemG 6 [] S0 K := by
  rw [← h] at hp
  exact E6_ok hD k hp
theorem awake_call : CallE MemP MemG 6 [] S0 (fun v _ => v = .one (.s (.bool true))) :=
  awake_of (MemD_ok DOK.no (0 + 200)) (k := 0 + 200) rfl (awake_run 0)
theorem awake_any (S : St) (K : AV → St → Prop) (h : K (.one (.s (.bool true))) S) : CallOK MemP MemG 6 [] S K :=
  .inl (CallE.alone rfl awake_call (by rintro v S' rfl; exact ⟨rfl, h⟩))
end Go.Xe
