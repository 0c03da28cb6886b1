import Derived.Test.YtjifjbdlenmciaaGreatDoorXG
import Derived.Test.YtjifjbdlenmciaaGreatDoorX26
import Derived.KernelRfl
set_option linter.unusedVariables false
set_option linter.unusedSimpArgs false
set_option linter.constructorNameAsVariable false
set_option linter.unusedVariables false
set_option maxRecDepth 100000
namespace Go.Xe
open Go.RowKit
noncomputable section
theorem Syn_mixed : (SynP).follows .mixedOrders = true := by kernel_rfl
theorem Syn_zero : ZeroOK SynP := trivial
end
end Go.Xe
