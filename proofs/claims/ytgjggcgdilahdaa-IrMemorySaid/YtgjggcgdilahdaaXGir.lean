/- A part of the proof: XG_ir. -/
import Derived.Test.YtgjggcgdilahdaaX21
import Derived.Test.YtgjggcgdilahdaaProg
set_option linter.unusedVariables false
set_option linter.unusedSimpArgs false
set_option linter.constructorNameAsVariable false
namespace Go.Xe
noncomputable abbrev IrP : Program := Go.Proofs.Try.prog
noncomputable abbrev IrG : Nat → Bool := fun g => Nat.blt g 1000
end Go.Xe
