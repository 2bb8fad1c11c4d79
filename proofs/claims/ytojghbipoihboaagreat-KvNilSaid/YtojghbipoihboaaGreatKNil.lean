/- wharfagelaw15.KvNil: what it evaluates to. -/
import Derived.Test.YtojghbipoihboaaGreatLivesK
import Derived.Test.YtojghbipoihboaaGreatRsPN
set_option linter.unusedVariables false
set_option linter.unusedSimpArgs false
set_option linter.unusedSectionVars false
namespace Go.Abs
open Go.Proofs
set_option maxRecDepth 100000
set_option linter.unusedVariables false
set_option linter.unusedSimpArgs false
abbrev I (n : Int) : AVal := .at (.int .i64 n)
abbrev NP : AVal := .at (.pointer none)
theorem tab_succ (N d f : Nat) (xs : List AVal) (sg : Sg) : tab N (d + 1) f xs sg = tree.run f (tab N d) N xs sg := rfl
theorem run85 (C : CallF) (N : Nat) (xs : List AVal) (sg : Sg) : tree.run 85 C N xs sg = evalF C N pages_sizes.a xs sg := rfl
theorem run46 (C : CallF) (N : Nat) (xs : List AVal) (sg : Sg) : tree.run 46 C N xs sg = evalF C N pages_Size.a xs sg := rfl
theorem run18 (C : CallF) (N : Nat) (xs : List AVal) (sg : Sg) : tree.run 18 C N xs sg = evalF C N pages_Format.a xs sg := rfl
theorem blt_t {f : Nat} (h : Nat.blt f 1000000 = true) {C : CallF} {xs : List AVal} {sg : Sg} : (bif Nat.blt f 1000000 then C f xs sg else none) = C f xs sg := by rw [h]; rfl
def szB (a b : Int) : Bool := decide (a ≥ 8) && decide (a ≤ 3840) && decide (b ≥ 4) && decide (b ≤ 1024)
theorem h85 (N d : Nat) (a b : Int) (sg : Sg) : tab N (d + 1) 85 [I a, I b] sg = some (.ret (.at (.bool (szB a b))) sg) := by
  rw [tab_succ, run85, pages_sizes.main]
  unfold szB
  cases decide (a ≥ 8) <;> cases decide (a ≤ 3840) <;> cases decide (b ≥ 4) <;> simp
theorem h46 (N d : Nat) (a b : Int) (sg : Sg) : tab N (d + 2) 46 [I a, I b] sg = some (.ret (if szB a b = true then .tup [I (IntKind.i64.wrap (IntKind.i64.wrap (1 + b) + a)), I 0] else .tup [I 0, I 18]) sg) := by
  rw [tab_succ, run46, pages_Size.main, blt_t rfl, h85]
  cases szB a b <;> rfl
theorem h47 (N d : Nat) (sg : Sg) : tab N (d + 1) 47 [NP] sg = some (.ret (I 0) sg) := by kernel_rfl
theorem h18 (N d : Nat) (a b : Int) (sg : Sg) : tab N (d + 3) 18 [NP, I a, I b] sg = some (.ret (.tup [NP, I 18]) sg) := by
  rw [tab_succ, run18, pages_Format.main, blt_t rfl, h46]
  cases hs : szB a b with
  | false => rfl
  | true =>
    have hw : IntKind.i64.wrap (IntKind.i64.wrap (1 + b) + a) ≠ 0 := by
      simp only [szB, Bool.and_eq_true, decide_eq_true_eq] at hs
      rw [i64_id (n := 1 + b) (by omega), i64_id (by omega)]
      omega
    rw [if_pos rfl]
    rw [blt_t (f := 47) rfl, h47]
    exact if_pos (c := ((0 : Int) != IntKind.i64.wrap (IntKind.i64.wrap (1 + b) + a)) = true) (by rw [bne_iff_ne]; exact fun e => hw e.symm)

def ov18 (xs : List AVal) (sg : Sg) : R := match xs with
  | [.at (.pointer none), .at (.int .i64 _), .at (.int .i64 _)] => some (.ret (.tup [NP, I 18]) sg)
  | _ => none
theorem leaf18 : Good 18 (fun _ _ xs sg => ov18 xs sg) := leafT fun xs sg out h => by
  unfold ov18 at h
  split at h
  · cases h; exact ⟨3, h18 100000 0 _ _ _⟩
  · cases h
theorem leafS (f : Nat) : Good f (fun _ _ xs sg => tab 100000 20 f xs sg) := leafT (g := fun xs sg => tab 100000 20 f xs sg) fun xs sg out h => ⟨20, h⟩
def tree4 : Tr := .node 18 (.leaf 17 fun _ _ xs sg => tab 100000 20 17 xs sg) (.leaf 18 fun _ _ xs sg => ov18 xs sg)
theorem tree4_good : tree4.All Good := ⟨leafS 17, leaf18⟩
def C4 : CallF := fun f xs sg => tree4.run f (fun _ _ _ => none) 0 xs sg
theorem C4_sound : SoundC Tryz.prog C4 := fun f xs sg out h => by
  obtain ⟨g, hg, h⟩ := Tr.run_some tree4_good h
  exact hg _ _ _ _ _ (fun f args sg out h => by cases h) h
theorem fmt_ev (a b : Int) (sg : Sg) : evalF C4 10 kv_Format.a [NP, I a, I b] sg = some (.ret (.tup [NP, I 18]) sg) := by kernel_rfl
def ov4 (xs : List AVal) (sg : Sg) : R := match xs with
  | [.at (.pointer none), .at (.int .i64 _), .at (.int .i64 _)] => some (.ret (.tup [NP, I 18]) sg)
  | _ => none
theorem leaf4 : Good 4 (fun _ _ xs sg => ov4 xs sg) := by
  intro C N xs sg out _ h
  replace h : ov4 xs sg = some out := h
  unfold ov4 at h
  split at h
  case h_2 => cases h
  rename_i a b
  cases h
  exact leafF Tryz.func4 kv_Format.made kv_Format.fine (nb (by kernel_rfl)) (ne_of_beq (by kernel_rfl)) (by kernel_rfl) C4 10 _ _ _ C4_sound (fmt_ev a b sg)

noncomputable def sgL : Sg := Classical.choose lives15
theorem sgL_spec : evalF CL 1000 law15_lives.a [] [] = some (.ret (.at (.bool true)) sgL) := Classical.choose_spec lives15
noncomputable def ov16 (xs : List AVal) (sg : Sg) : R := match xs, sg with
  | [], [] => some (.ret (.at (.bool true)) sgL)
  | _, _ => none
theorem leaf16 : Good 16 (fun _ _ xs sg => ov16 xs sg) := by
  intro C N xs sg out _ h
  replace h : ov16 xs sg = some out := h
  have key : ∀ (xs : List AVal) (sg : Sg) (T : R), T = some (.ret (.at (.bool true)) sgL) → ov16 xs sg = some out → xs = [] ∧ sg = [] ∧ T = some out := by
    intro xs sg T e h
    unfold ov16 at h
    split at h
    · exact ⟨rfl, rfl, e.trans h⟩
    · cases h
  obtain ⟨rfl, rfl, e⟩ := key xs sg _ sgL_spec h
  exact leafF Tryz.func16 law15_lives.made law15_lives.fine (nb (by kernel_rfl)) (ne_of_beq (by kernel_rfl)) (by kernel_rfl) CL 1000 _ _ _ CL_sound e
noncomputable def treeN : Tr := .node 11 (.node 6 (.node 5 (.leaf 4 fun _ _ xs sg => ov4 xs sg) (.leaf 5 fun _ _ xs sg => tab 100000 20 5 xs sg)) (.node 8 (.leaf 6 fun _ _ xs sg => tab 100000 20 6 xs sg) (.node 10 (.leaf 8 fun _ _ xs sg => tab 100000 20 8 xs sg) (.leaf 10 fun _ _ xs sg => tab 100000 20 10 xs sg))))
  (.node 13 (.node 12 (.leaf 11 fun _ _ xs sg => tab 100000 20 11 xs sg) (.leaf 12 fun _ _ xs sg => tab 100000 20 12 xs sg)) (.node 14 (.leaf 13 fun _ _ xs sg => tab 100000 20 13 xs sg) (.node 16 (.leaf 14 fun _ _ xs sg => tab 100000 20 14 xs sg) (.leaf 16 fun _ _ xs sg => ov16 xs sg))))
theorem treeN_good : treeN.All Good := ⟨⟨⟨leaf4, leafS 5⟩, leafS 6, leafS 8, leafS 10⟩, ⟨leafS 11, leafS 12⟩, leafS 13, leafS 14, leaf16⟩
noncomputable def CN : CallF := fun f xs sg => treeN.run f (fun _ _ _ => none) 0 xs sg
theorem CN_sound : SoundC Tryz.prog CN := fun f xs sg out h => by
  obtain ⟨g, hg, h⟩ := Tr.run_some treeN_good h
  exact hg _ _ _ _ _ (fun f args sg out h => by cases h) h
theorem nil_ev (a b : Int) : valOf (evalF CN 10 law15_KvNil.a [I a, I b] []) = some (.at (.bool true)) := by kernel_rfl
theorem nil_ok (a b : Int) : ∃ sg, CallOK Tryz.prog 3 [I a, I b] [] (.ret (.at (.bool true)) sg) := by
  obtain ⟨sg, h⟩ := of_valOf (nil_ev a b)
  exact ⟨sg, eval_ok CN_sound mixed Tryz.func3 law15_KvNil.made law15_KvNil.fine h⟩
end Go.Abs
