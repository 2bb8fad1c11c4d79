/- All leaves. -/
import Derived.Test.YtimoaolannkpcaaGreatOvTry
import Derived.Test.YtimoaolannkpcaaGreatOvPage
set_option linter.unusedVariables false
set_option linter.unusedSimpArgs false
set_option linter.unusedSectionVars false
