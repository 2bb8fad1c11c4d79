/- THE LAW's OWN EXAMPLES, by the kernel. -/
import Derived.Test.YtimoaolannkpcaaGreatTabP
set_option linter.unusedVariables false
set_option linter.unusedSimpArgs false
set_option linter.unusedSectionVars false
namespace Go.Abs
open Go.Proofs
set_option maxRecDepth 100000
def valOf (r : R) : Option AVal := match r with
  | some (.ret v _) => some v
  | _ => none
theorem of_valOf {r : R} {v : AVal} (h : valOf r = some v) : ∃ sg, r = some (.ret v sg) := by
  unfold valOf at h
  split at h
  · rename_i v sg
    cases h
    exact ⟨sg, rfl⟩
  · cases h
theorem lives9v : valOf (tab 100000 40 40 [] []) = some (.at (.bool true)) := by kernel_rfl
theorem lives9 : ∃ sg, tab 100000 40 40 [] [] = some (.ret (.at (.bool true)) sg) := of_valOf lives9v
end Go.Abs
