/- wharfagelaw09.PagesNil: what it evaluates to. -/
import Derived.Test.YtimoaolannkpcaaGreatLivesP
import Derived.Test.YtimoaolannkpcaaGreatRsPN
set_option linter.unusedVariables false
set_option linter.unusedSimpArgs false
set_option linter.unusedSectionVars false
namespace Go.Abs
open Go.Proofs
set_option maxRecDepth 100000
set_option linter.unusedVariables false
set_option linter.unusedSimpArgs false
abbrev I (n : Int) : AVal := .at (.int .i64 n)
abbrev NP : AVal := .at (.pointer none)
theorem tab_succ (N d f : Nat) (xs : List AVal) (sg : Sg) : tab N (d + 1) f xs sg = tree.run f (tab N d) N xs sg := rfl
theorem run148 (C : CallF) (N : Nat) (xs : List AVal) (sg : Sg) : tree.run 148 C N xs sg = evalF C N pages_sizes.a xs sg := rfl
theorem run41 (C : CallF) (N : Nat) (xs : List AVal) (sg : Sg) : tree.run 41 C N xs sg = evalF C N pages_Size.a xs sg := rfl
theorem run29 (C : CallF) (N : Nat) (xs : List AVal) (sg : Sg) : tree.run 29 C N xs sg = evalF C N pages_Format.a xs sg := rfl
theorem run31 (C : CallF) (N : Nat) (xs : List AVal) (sg : Sg) : tree.run 31 C N xs sg = evalF C N pages_Store_Read.a xs sg := rfl
theorem blt_t {f : Nat} (h : Nat.blt f 1000000 = true) {C : CallF} {xs : List AVal} {sg : Sg} : (bif Nat.blt f 1000000 then C f xs sg else none) = C f xs sg := by rw [h]; rfl
def szB (a b : Int) : Bool := decide (a ≥ 8) && decide (a ≤ 3840) && decide (b ≥ 4) && decide (b ≤ 1024)
theorem h148 (N d : Nat) (a b : Int) (sg : Sg) : tab N (d + 1) 148 [I a, I b] sg = some (.ret (.at (.bool (szB a b))) sg) := by
  rw [tab_succ, run148, pages_sizes.main]
  unfold szB
  cases decide (a ≥ 8) <;> cases decide (a ≤ 3840) <;> cases decide (b ≥ 4) <;> simp
theorem h41 (N d : Nat) (a b : Int) (sg : Sg) : tab N (d + 2) 41 [I a, I b] sg = some (.ret (if szB a b = true then .tup [I (IntKind.i64.wrap (IntKind.i64.wrap (1 + b) + a)), I 0] else .tup [I 0, I 18]) sg) := by
  rw [tab_succ, run41, pages_Size.main, blt_t rfl, h148]
  cases szB a b <;> rfl
theorem h129 (N d : Nat) (sg : Sg) : tab N (d + 1) 129 [NP] sg = some (.ret (I 0) sg) := by kernel_rfl
theorem h35 (N d : Nat) (sg : Sg) : tab N (d + 1) 35 [NP] sg = some (.ret (I 0) sg) := by kernel_rfl
theorem h29 (N d : Nat) (a b : Int) (sg : Sg) : tab N (d + 3) 29 [NP, I a, I b] sg = some (.ret (.tup [NP, I 18]) sg) := by
  rw [tab_succ, run29, pages_Format.main, blt_t rfl, h41]
  cases hs : szB a b with
  | false => rfl
  | true =>
    have hw : IntKind.i64.wrap (IntKind.i64.wrap (1 + b) + a) ≠ 0 := by
      simp only [szB, Bool.and_eq_true, decide_eq_true_eq] at hs
      rw [i64_id (n := 1 + b) (by omega), i64_id (by omega)]
      omega
    rw [if_pos rfl]
    rw [blt_t (f := 129) rfl, h129]
    exact if_pos (c := ((0 : Int) != IntKind.i64.wrap (IntKind.i64.wrap (1 + b) + a)) = true) (by rw [bne_iff_ne]; exact fun e => hw e.symm)
theorem h31 (N d : Nat) (n : Int) (sg : Sg) : tab N (d + 2) 31 [NP, I n] sg = some (.ret (.tup [.at (.string ⟨#[]⟩), I 18]) sg) := by
  rw [tab_succ, run31, pages_Store_Read.main, blt_t rfl, h35]
  cases h : decide (n < 0) with
  | true => rfl
  | false =>
    rw [if_pos rfl]
    exact if_pos (c := decide (n ≥ 0) = true) (by simp at h ⊢; omega)

def ov29 (xs : List AVal) (sg : Sg) : R := match xs with
  | [.at (.pointer none), .at (.int .i64 _), .at (.int .i64 _)] => some (.ret (.tup [NP, I 18]) sg)
  | _ => none
def ov31 (xs : List AVal) (sg : Sg) : R := match xs with
  | [.at (.pointer none), .at (.int .i64 _)] => some (.ret (.tup [.at (.string ⟨#[]⟩), I 18]) sg)
  | _ => none
noncomputable def sgL : Sg := Classical.choose lives9
theorem sgL_spec : tab 100000 40 40 [] [] = some (.ret (.at (.bool true)) sgL) := Classical.choose_spec lives9
noncomputable def ov40 (xs : List AVal) (sg : Sg) : R := match xs, sg with
  | [], [] => some (.ret (.at (.bool true)) sgL)
  | _, _ => none
theorem leafT {f : Nat} {g : List AVal → Sg → R} (h : ∀ xs sg out, g xs sg = some out → ∃ d, tab 100000 d f xs sg = some out) : Good f (fun _ _ xs sg => g xs sg) := by
  intro C N xs sg out _ e
  obtain ⟨d, hd⟩ := h xs sg out e
  exact tab_sound 100000 d f xs sg out hd
theorem leaf29 : Good 29 (fun _ _ xs sg => ov29 xs sg) := leafT fun xs sg out h => by
  unfold ov29 at h
  split at h
  · cases h; exact ⟨3, h29 100000 0 _ _ _⟩
  · cases h
theorem leaf31 : Good 31 (fun _ _ xs sg => ov31 xs sg) := leafT fun xs sg out h => by
  unfold ov31 at h
  split at h
  · cases h; exact ⟨2, h31 100000 0 _ _⟩
  · cases h
theorem leaf40 : Good 40 (fun _ _ xs sg => ov40 xs sg) := leafT fun xs sg out h => by
  have key : ∀ (xs : List AVal) (sg : Sg) (T : R), tab 100000 40 40 [] [] = T → T = some (.ret (.at (.bool true)) sgL) → ov40 xs sg = some out → xs = [] ∧ sg = [] ∧ T = some out := by
    intro xs sg T _ e h
    unfold ov40 at h
    split at h
    · exact ⟨rfl, rfl, e.trans h⟩
    · cases h
  obtain ⟨rfl, rfl, e⟩ := key xs sg _ rfl sgL_spec h
  exact ⟨40, e⟩
theorem leafS (f : Nat) : Good f (fun _ _ xs sg => tab 100000 20 f xs sg) := leafT (g := fun xs sg => tab 100000 20 f xs sg) fun xs sg out h => ⟨20, h⟩
noncomputable def treeN : Tr := .node 31 (.node 30 (.leaf 29 fun _ _ xs sg => ov29 xs sg) (.leaf 30 fun _ _ xs sg => tab 100000 20 30 xs sg)) (.node 32 (.leaf 31 fun _ _ xs sg => ov31 xs sg) (.node 33 (.leaf 32 fun _ _ xs sg => tab 100000 20 32 xs sg) (.node 34 (.leaf 33 fun _ _ xs sg => tab 100000 20 33 xs sg)
  (.node 35 (.leaf 34 fun _ _ xs sg => tab 100000 20 34 xs sg) (.node 36 (.leaf 35 fun _ _ xs sg => tab 100000 20 35 xs sg) (.node 37 (.leaf 36 fun _ _ xs sg => tab 100000 20 36 xs sg) (.node 38 (.leaf 37 fun _ _ xs sg => tab 100000 20 37 xs sg)
  (.node 39 (.leaf 38 fun _ _ xs sg => tab 100000 20 38 xs sg) (.node 40 (.leaf 39 fun _ _ xs sg => tab 100000 20 39 xs sg) (.leaf 40 fun _ _ xs sg => ov40 xs sg))))))))))
theorem treeN_good : treeN.All Good := ⟨⟨leaf29, leafS 30⟩, leaf31, leafS 32, leafS 33, leafS 34, leafS 35, leafS 36, leafS 37, leafS 38, leafS 39, leaf40⟩
noncomputable def CN : CallF := fun f xs sg => treeN.run f (fun _ _ _ => none) 0 xs sg
theorem CN_sound : SoundC Tryz.prog CN := fun f xs sg out h => by
  obtain ⟨g, hg, h⟩ := Tr.run_some treeN_good h
  exact hg _ _ _ _ _ (fun f args sg out h => by cases h) h
theorem nil_ev (a b n : Int) : evalF CN 10 law09_PagesNil.a [I a, I b, I n] [] = some (.ret (.at (.bool true)) []) := by kernel_rfl
theorem nil_ok (a b n : Int) : CallOK Tryz.prog 4 [I a, I b, I n] [] (.ret (.at (.bool true)) []) :=
  eval_ok CN_sound mixed Tryz.func4 law09_PagesNil.made law09_PagesNil.fine (nil_ev a b n)
end Go.Abs
