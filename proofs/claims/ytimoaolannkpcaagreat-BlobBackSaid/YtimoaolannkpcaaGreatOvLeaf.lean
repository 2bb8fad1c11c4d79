/- All leaves. -/
import Derived.Test.YtimoaolannkpcaaGreatLeaf
set_option linter.unusedVariables false
set_option linter.unusedSimpArgs false
set_option linter.unusedSectionVars false
