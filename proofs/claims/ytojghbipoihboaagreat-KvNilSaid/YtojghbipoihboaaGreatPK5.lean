/- One call of the law's own examples, by the kernel. -/
import Derived.Test.YtojghbipoihboaaGreatVK
import Derived.Test.YtojghbipoihboaaGreatTabP
set_option linter.unusedVariables false
set_option linter.unusedSimpArgs false
set_option linter.unusedSectionVars false
namespace Go.Abs
set_option maxRecDepth 100000
theorem pk5 : tab 100000 39 5 kx5 kst5 = some (.ret kv5 kst6) := by kernel_rfl
end Go.Abs
