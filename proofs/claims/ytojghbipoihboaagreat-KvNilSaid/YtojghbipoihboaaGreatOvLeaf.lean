/- All leaves. -/
import Derived.Test.YtojghbipoihboaaGreatOvTry
import Derived.Test.YtojghbipoihboaaGreatOvDel
import Derived.Test.YtojghbipoihboaaGreatOvBlank
set_option linter.unusedVariables false
set_option linter.unusedSimpArgs false
set_option linter.unusedSectionVars false
