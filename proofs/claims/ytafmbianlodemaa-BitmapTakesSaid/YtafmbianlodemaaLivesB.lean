/- THE LAW's OWN EXAMPLES, by the kernel. -/
import Derived.Test.YtafmbianlodemaaTabB
import Derived.KernelRfl
namespace Go.Abs
set_option linter.unusedVariables false
set_option linter.unusedSimpArgs false
set_option linter.unusedSectionVars false
def valOf (r : R) : Option AVal := match r with
  | some (.ret v _) => some v
  | _ => none
theorem lives10v : valOf (tab 8 16 [] []) = some (.at (.bool true)) := by kernel_rfl
theorem lives10 : ∃ sg, tab 8 16 [] [] = some (.ret (.at (.bool true)) sg) := by
  have h := lives10v
  unfold valOf at h
  split at h
  · rename_i v sg e
    cases h
    exact ⟨sg, e⟩
  · cases h
end Go.Abs
