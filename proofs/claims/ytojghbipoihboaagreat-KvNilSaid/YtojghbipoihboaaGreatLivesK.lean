/- The law's own examples. Printed by a program of my own. -/
import Derived.Test.YtojghbipoihboaaGreatPK0
import Derived.Test.YtojghbipoihboaaGreatPK1
import Derived.Test.YtojghbipoihboaaGreatPK2
import Derived.Test.YtojghbipoihboaaGreatPK3
import Derived.Test.YtojghbipoihboaaGreatPK4
import Derived.Test.YtojghbipoihboaaGreatPK5
import Derived.Test.YtojghbipoihboaaGreatPK6
import Derived.Test.YtojghbipoihboaaGreatPK7
import Derived.Test.YtojghbipoihboaaGreatPK8
import Derived.Test.YtojghbipoihboaaGreatPK9
import Derived.Test.YtojghbipoihboaaGreatPK10
set_option linter.unusedVariables false
set_option linter.unusedSimpArgs false
set_option linter.unusedSectionVars false
namespace Go.Abs
open Go.Proofs
set_option maxRecDepth 100000
theorem leafT {f : Nat} {g : List AVal → Sg → R} (h : ∀ xs sg out, g xs sg = some out → ∃ d, tab 100000 d f xs sg = some out) : Good f (fun _ _ xs sg => g xs sg) := by
  intro C N xs sg out _ e
  obtain ⟨d, hd⟩ := h xs sg out e
  exact tab_sound 100000 d f xs sg out hd
def ko37 (xs : List AVal) (sg : Sg) : R := bif eqAs xs kx0 && eqSg sg kst0 then some (.ret kv0 kst1) else none
theorem ko37_ok : Good 37 (fun _ _ xs sg => ko37 xs sg) := leafT fun xs sg out h => by
  unfold ko37 at h
  rcases bif_or h with ⟨hc, h⟩ | ⟨_, h⟩
  · simp only [Bool.and_eq_true] at hc
    rw [eqAs_eq hc.1, eqSg_eq hc.2, ← h]
    exact ⟨39, pk0⟩
  cases h
def ko6 (xs : List AVal) (sg : Sg) : R := bif eqAs xs kx1 && eqSg sg kst2 then some (.ret kv1 kst3) else bif eqAs xs kx2 && eqSg sg kst3 then some (.ret kv2 kst4) else none
theorem ko6_ok : Good 6 (fun _ _ xs sg => ko6 xs sg) := leafT fun xs sg out h => by
  unfold ko6 at h
  rcases bif_or h with ⟨hc, h⟩ | ⟨_, h⟩
  · simp only [Bool.and_eq_true] at hc
    rw [eqAs_eq hc.1, eqSg_eq hc.2, ← h]
    exact ⟨39, pk1⟩
  rcases bif_or h with ⟨hc, h⟩ | ⟨_, h⟩
  · simp only [Bool.and_eq_true] at hc
    rw [eqAs_eq hc.1, eqSg_eq hc.2, ← h]
    exact ⟨39, pk2⟩
  cases h
def ko12 (xs : List AVal) (sg : Sg) : R := bif eqAs xs kx3 && eqSg sg kst4 then some (.ret kv3 kst4) else none
theorem ko12_ok : Good 12 (fun _ _ xs sg => ko12 xs sg) := leafT fun xs sg out h => by
  unfold ko12 at h
  rcases bif_or h with ⟨hc, h⟩ | ⟨_, h⟩
  · simp only [Bool.and_eq_true] at hc
    rw [eqAs_eq hc.1, eqSg_eq hc.2, ← h]
    exact ⟨39, pk3⟩
  cases h
def ko10 (xs : List AVal) (sg : Sg) : R := bif eqAs xs kx4 && eqSg sg kst4 then some (.ret kv4 kst5) else none
theorem ko10_ok : Good 10 (fun _ _ xs sg => ko10 xs sg) := leafT fun xs sg out h => by
  unfold ko10 at h
  rcases bif_or h with ⟨hc, h⟩ | ⟨_, h⟩
  · simp only [Bool.and_eq_true] at hc
    rw [eqAs_eq hc.1, eqSg_eq hc.2, ← h]
    exact ⟨39, pk4⟩
  cases h
def ko5 (xs : List AVal) (sg : Sg) : R := bif eqAs xs kx5 && eqSg sg kst5 then some (.ret kv5 kst6) else none
theorem ko5_ok : Good 5 (fun _ _ xs sg => ko5 xs sg) := leafT fun xs sg out h => by
  unfold ko5 at h
  rcases bif_or h with ⟨hc, h⟩ | ⟨_, h⟩
  · simp only [Bool.and_eq_true] at hc
    rw [eqAs_eq hc.1, eqSg_eq hc.2, ← h]
    exact ⟨39, pk5⟩
  cases h
def ko45 (xs : List AVal) (sg : Sg) : R := bif eqAs xs kx6 && eqSg sg kst6 then some (.ret kv6 kst7) else none
theorem ko45_ok : Good 45 (fun _ _ xs sg => ko45 xs sg) := leafT fun xs sg out h => by
  unfold ko45 at h
  rcases bif_or h with ⟨hc, h⟩ | ⟨_, h⟩
  · simp only [Bool.and_eq_true] at hc
    rw [eqAs_eq hc.1, eqSg_eq hc.2, ← h]
    exact ⟨39, pk6⟩
  cases h
def ko44 (xs : List AVal) (sg : Sg) : R := bif eqAs xs kx7 && eqSg sg kst8 then some (.ret kv7 kst8) else none
theorem ko44_ok : Good 44 (fun _ _ xs sg => ko44 xs sg) := leafT fun xs sg out h => by
  unfold ko44 at h
  rcases bif_or h with ⟨hc, h⟩ | ⟨_, h⟩
  · simp only [Bool.and_eq_true] at hc
    rw [eqAs_eq hc.1, eqSg_eq hc.2, ← h]
    exact ⟨39, pk7⟩
  cases h
def ko14 (xs : List AVal) (sg : Sg) : R := bif eqAs xs kx8 && eqSg sg kst8 then some (.ret kv8 kst9) else bif eqAs xs kx9 && eqSg sg kst9 then some (.ret kv9 kst10) else none
theorem ko14_ok : Good 14 (fun _ _ xs sg => ko14 xs sg) := leafT fun xs sg out h => by
  unfold ko14 at h
  rcases bif_or h with ⟨hc, h⟩ | ⟨_, h⟩
  · simp only [Bool.and_eq_true] at hc
    rw [eqAs_eq hc.1, eqSg_eq hc.2, ← h]
    exact ⟨39, pk8⟩
  rcases bif_or h with ⟨hc, h⟩ | ⟨_, h⟩
  · simp only [Bool.and_eq_true] at hc
    rw [eqAs_eq hc.1, eqSg_eq hc.2, ← h]
    exact ⟨39, pk9⟩
  cases h
def ko13 (xs : List AVal) (sg : Sg) : R := bif eqAs xs kx10 && eqSg sg kst10 then some (.ret kv10 kst11) else none
theorem ko13_ok : Good 13 (fun _ _ xs sg => ko13 xs sg) := leafT fun xs sg out h => by
  unfold ko13 at h
  rcases bif_or h with ⟨hc, h⟩ | ⟨_, h⟩
  · simp only [Bool.and_eq_true] at hc
    rw [eqAs_eq hc.1, eqSg_eq hc.2, ← h]
    exact ⟨39, pk10⟩
  cases h
def treeK : Tr := (.node 13 (.node 10 (.node 6 (.leaf 5 fun _ _ xs sg => ko5 xs sg) (.leaf 6 fun _ _ xs sg => ko6 xs sg)) (.node 12 (.leaf 10 fun _ _ xs sg => ko10 xs sg) (.leaf 12 fun _ _ xs sg => ko12 xs sg))) (.node 37 (.node 14 (.leaf 13 fun _ _ xs sg => ko13 xs sg) (.leaf 14 fun _ _ xs sg => ko14 xs sg)) (.node 44 (.leaf 37 fun _ _ xs sg => ko37 xs sg) (.node 45 (.leaf 44 fun _ _ xs sg => ko44 xs sg) (.leaf 45 fun _ _ xs sg => ko45 xs sg)))))
theorem treeK_good : treeK.All Good := ⟨⟨⟨ko5_ok, ko6_ok⟩, ⟨ko10_ok, ko12_ok⟩⟩, ⟨⟨ko13_ok, ko14_ok⟩, ⟨ko37_ok, ⟨ko44_ok, ko45_ok⟩⟩⟩⟩
def CL : CallF := fun f xs sg => treeK.run f (fun _ _ _ => none) 0 xs sg
theorem CL_sound : SoundC Tryz.prog CL := fun f xs sg out h => by
  obtain ⟨g, hg, h⟩ := Tr.run_some treeK_good h
  exact hg _ _ _ _ _ (fun f args sg out h => by cases h) h
def valOf (r : R) : Option AVal := match r with
  | some (.ret v _) => some v
  | _ => none
theorem of_valOf {r : R} {v : AVal} (h : valOf r = some v) : ∃ sg, r = some (.ret v sg) := by
  unfold valOf at h
  split at h
  · rename_i v sg
    cases h
    exact ⟨sg, rfl⟩
  · cases h
theorem livesv : valOf (evalF CL 1000 law15_lives.a [] []) = some (.at (.bool true)) := by kernel_rfl
theorem lives15 : ∃ sg, evalF CL 1000 law15_lives.a [] [] = some (.ret (.at (.bool true)) sg) := of_valOf livesv
end Go.Abs
