/- Executor, second make: a block that is gone; a beginning with blocks that came in. -/
import Derived.Test.YtgjggcgdilahdaaX26
set_option linter.unusedVariables false
set_option linter.unusedSimpArgs false
set_option linter.constructorNameAsVariable false
set_option linter.unusedVariables false
set_option linter.unusedSimpArgs false
namespace Go.Xe
open Go.RowKit

end Go.Xe
