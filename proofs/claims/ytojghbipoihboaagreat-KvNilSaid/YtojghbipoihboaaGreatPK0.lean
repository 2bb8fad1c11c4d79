/- One call of the law's own examples, by the kernel. -/
import Derived.Test.YtojghbipoihboaaGreatVK
import Derived.Test.YtojghbipoihboaaGreatTabP
set_option linter.unusedVariables false
set_option linter.unusedSimpArgs false
set_option linter.unusedSectionVars false
namespace Go.Abs
set_option maxRecDepth 100000
theorem pk0 : tab 100000 39 37 kx0 kst0 = some (.ret kv0 kst1) := by kernel_rfl
end Go.Abs
