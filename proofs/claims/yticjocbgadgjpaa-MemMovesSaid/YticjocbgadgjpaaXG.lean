import Derived.Test.YticjocbgadgjpaaX21
import Derived.Test.YticjocbgadgjpaaProg
namespace Go.Xe
noncomputable abbrev MemP : Program := Go.Proofs.Try.prog
noncomputable abbrev MemG : Nat → Bool := fun g => Nat.blt g 1000
end Go.Xe
