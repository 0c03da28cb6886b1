/- Executor: a value under a name, as a step. -/
import Derived.Test.YtgjggcgdilahdaaX21
set_option linter.unusedVariables false
set_option linter.unusedSimpArgs false
set_option linter.constructorNameAsVariable false
namespace Go.Xe
noncomputable def letK {α : Type} (v : α) (K : α → Prop) : Prop := K v
theorem letK_i {α : Type} {v : α} {K : α → Prop} (h : K v) : letK v K := h
end Go.Xe
