/- A part of the proof: XF_mem_0. -/
import Derived.Test.YticjocbgadgjpaaXGmem
import Derived.Test.YticjocbgadgjpaaX26
import Derived.Test.YticjocbgadgjpaaXLet
import Derived.KernelRfl
set_option linter.unusedVariables false
set_option linter.unusedSimpArgs false
set_option linter.constructorNameAsVariable false
set_option linter.unusedVariables false
set_option maxRecDepth 100000
namespace Go.Xe
open Go.RowKit
noncomputable section
theorem Mem_mixed : (MemP).follows .mixedOrders = true := by kernel_rfl
theorem Mem_zero : ZeroOK MemP := trivial
end
end Go.Xe
