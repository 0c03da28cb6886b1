/- Executor, second make: a table of functions that parts by halves. -/
import Derived.Test.YtgjggcgdilahdaaX23
set_option linter.unusedVariables false
set_option linter.unusedSimpArgs false
set_option linter.constructorNameAsVariable false
namespace Go.Xe
open Go.RowKit
noncomputable abbrev Disp.br (n : Nat) (A B : Disp) : Disp := fun g vals S K => Bool.rec (motive := fun _ => Prop) (B g vals S K) (A g vals S K) (Nat.blt g n)
theorem DOK.br {P G n A B} (hA : DOK P G A) (hB : DOK P G B) : DOK P G (Disp.br n A B) := by
  intro g vals S K h
  unfold Disp.br at h
  cases hb : Nat.blt g n with
  | true => rw [hb] at h; exact hA g vals S K h
  | false => rw [hb] at h; exact hB g vals S K h
end Go.Xe
