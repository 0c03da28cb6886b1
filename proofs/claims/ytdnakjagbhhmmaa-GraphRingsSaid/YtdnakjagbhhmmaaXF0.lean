import Derived.Test.YtdnakjagbhhmmaaXG
import Derived.Test.YtdnakjagbhhmmaaX26
import Derived.KernelRfl
set_option linter.unusedVariables false
set_option maxRecDepth 100000
namespace Go.Xe
open Go.RowKit
noncomputable section
theorem Graph_mixed : (GraphP).follows .mixedOrders = true := by kernel_rfl
theorem Graph_zero : ZeroOK GraphP := trivial
end
end Go.Xe
