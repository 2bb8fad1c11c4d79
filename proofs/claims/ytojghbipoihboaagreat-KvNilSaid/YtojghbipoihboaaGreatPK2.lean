/- One call of the law's own examples, by the kernel. -/
import Derived.Test.YtojghbipoihboaaGreatVK
import Derived.Test.YtojghbipoihboaaGreatTabP
set_option linter.unusedVariables false
set_option linter.unusedSimpArgs false
set_option linter.unusedSectionVars false
namespace Go.Abs
set_option maxRecDepth 100000
theorem pk2 : tab 100000 39 6 kx2 kst3 = some (.ret kv2 kst4) := by kernel_rfl
end Go.Abs
