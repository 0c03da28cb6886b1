import Derived.Test.YtjifjbdlenmciaaGreatDoorX21
import Derived.Test.YtjifjbdlenmciaaGreatDoorProg
set_option linter.unusedVariables false
set_option linter.unusedSimpArgs false
set_option linter.constructorNameAsVariable false
namespace Go.Xe
noncomputable abbrev SynP : Program := Go.Proofs.Tryz.prog
noncomputable abbrev SynG : Nat → Bool := fun g => Nat.blt g 1000
end Go.Xe
