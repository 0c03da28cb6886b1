/- A part of the proof: XF_ir_0. -/
import Derived.Test.YtgjggcgdilahdaaXGir
import Derived.Test.YtgjggcgdilahdaaX26
import Derived.Test.YtgjggcgdilahdaaXLet
import Derived.KernelRfl
set_option linter.unusedVariables false
set_option linter.unusedSimpArgs false
set_option linter.constructorNameAsVariable false
set_option linter.unusedVariables false
set_option maxRecDepth 100000
namespace Go.Xe
open Go.RowKit
noncomputable section
theorem Ir_mixed : (IrP).follows .mixedOrders = true := by kernel_rfl
theorem Ir_zero : ZeroOK IrP := trivial
end
end Go.Xe
