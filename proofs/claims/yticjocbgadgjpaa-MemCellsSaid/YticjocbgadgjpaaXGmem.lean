/- A part of the proof: XG_mem. -/
import Derived.Test.YticjocbgadgjpaaX21
import Derived.Test.YticjocbgadgjpaaProg
set_option linter.unusedVariables false
set_option linter.unusedSimpArgs false
set_option linter.constructorNameAsVariable false
namespace Go.Xe
noncomputable abbrev MemP : Program := Go.Proofs.Try.prog
noncomputable abbrev MemG : Nat → Bool := fun g => Nat.blt g 1000
end Go.Xe
