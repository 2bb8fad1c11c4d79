/- THE LAW's OWN EXAMPLES, by the kernel. -/
import Derived.Test.YtafmbianlodemaaTab
import Derived.KernelRfl
namespace Go.Abs
set_option linter.unusedVariables false
set_option linter.unusedSimpArgs false
set_option linter.unusedSectionVars false
theorem lives26 (sg : Sg) : tab 6 14 [] sg = some (.ret (.at (.bool true)) sg) := by kernel_rfl
end Go.Abs
