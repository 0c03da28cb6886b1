import Derived.Test.YtdnakjagbhhmmaaX21
import Derived.Test.YtdnakjagbhhmmaaProg
namespace Go.Xe
noncomputable abbrev GraphP : Program := Go.Proofs.Try.prog
noncomputable abbrev GraphG : Nat → Bool := fun g => Nat.blt g 1000
end Go.Xe
