/- One call of the law's own examples, by the kernel. -/
import Derived.Test.YtojghbipoihboaaGreatVK
import Derived.Test.YtojghbipoihboaaGreatTabP
set_option linter.unusedVariables false
set_option linter.unusedSimpArgs false
set_option linter.unusedSectionVars false
namespace Go.Abs
set_option maxRecDepth 100000
theorem pk3 : tab 100000 39 12 kx3 kst4 = some (.ret kv3 kst4) := by kernel_rfl
end Go.Abs
