/- WHAT IS PROVED: whatever two numbers, whatever list of numbers and whatever list of truth values come in, wharfagelaw14.BlobBack returns true, and the arguments read as they did. No condition. -/
import Derived.Test.YtimoaolannkpcaaGreatRows
import Derived.Test.YtimoaolannkpcaaGreatTxtD
import Derived.Test.YtimoaolannkpcaaGreatBBackC
import Derived.ChangeMaps5
set_option linter.unusedVariables false
set_option linter.unusedSimpArgs false
set_option linter.unusedSectionVars false
namespace Go.Proofs.YtimoaolannkpcaaGreat
set_option linter.unusedVariables false
set_option linter.unusedSimpArgs false
set_option linter.unusedSectionVars false
open Go.ChangeShapes Go.WideShapes Go.ChangeAt Go.RowKit Go.ChangeMaps Go.Abs
theorem own : ownKnob Tryz.prog.godebug = none := by kernel_rfl
theorem laidOut : laidOutB Tryz.prog = true := blobBack_c1
theorem ints_of {L : List (List Value)} (h : ∀ cs ∈ L, Flats [.int .i64] cs) : ∃ l : List Int, L.map (elA false) = l.map vI := by
  induction L with
  | nil => exact ⟨[], rfl⟩
  | cons cs L ih =>
    obtain ⟨l, hl⟩ := ih fun cs hcs => h cs (by simp [hcs])
    have hf : Flats (List.replicate 1 (.int .i64)) cs := h cs (by simp)
    obtain ⟨m, h1, rfl, _⟩ := hf.ints
    match m, h1 with
    | [x], _ => exact ⟨x :: l, by rw [List.map_cons, hl]; rfl⟩
theorem bools_of {L : List (List Value)} (h : ∀ cs ∈ L, Flats [.bool] cs) : ∃ l : List Bool, L.map (elA false) = l.map vB := by
  induction L with
  | nil => exact ⟨[], rfl⟩
  | cons cs L ih =>
    obtain ⟨l, hl⟩ := ih fun cs hcs => h cs (by simp [hcs])
    have hf : Flats [.bool] cs := h cs (by simp)
    match cs, hf with
    | [v], hf =>
      obtain ⟨h1, _⟩ := hf
      cases h1 with
      | bool => rename_i x; exact ⟨x :: l, by rw [List.map_cons, hl]; rfl⟩
set_option maxRecDepth 100000 in
theorem bback_lifted (os : Os) (started : os.Started) (H : Type) (enc : TypeId × Value → H) :
    ReturnsInHanded {} Tryz.checked os 7 .any (Rows.blobBackSpec.pre6 enc Tryz.prog Tryz.f7 Rows.blobBackRow.domain false) (Rows.blobBackSpec.post enc Tryz.prog Tryz.f7 false true false false) := by
  refine returnsInHanded_of_change (C := Tryz.checked) own started (by kernel_rfl) Tryz.func7
    (ChangeSpec.witness6 (enc := enc) (C := Tryz.checked) false ⟨#[], #[.int .i64 0, .int .i64 0, .slice none 0 0, .slice none 0 0], []⟩ 4 (by kernel_rfl) (by kernel_rfl) (by kernel_rfl) (by kernel_rfl)) ?_
  intro W base args ds gs before hval0 hW hcnd _
  have hval : ∀ (j : Nat) t v, Tryz.f7.params[j]? = some t → args[j]? = some v → Value.okWide Tryz.prog W .any base t v := hval0
  have hW' := hW
  obtain ⟨p, q, hA0, hV, rfl, hfz, hnd⟩ := hW
  have hA : DataW.TrodAll enc Tryz.prog W 0 (fun _ => true) true Tryz.f7.params.toList args.toList ds p := hA0
  rw [Tryz.params7] at hA hval
  obtain ⟨v0, vs0, d0, ds0, p0, q0, e1, rfl, rfl, h0, r0⟩ := trodAll_cons hA
  obtain ⟨v1, vs1, d1, ds1, p1, q1, rfl, rfl, rfl, h1, r1⟩ := trodAll_cons r0
  obtain ⟨v2, vs2, d2, ds2, p2, q2, rfl, rfl, rfl, h2, r2⟩ := trodAll_cons r1
  obtain ⟨v3, vs3, d3, ds3, p3, q3, rfl, rfl, rfl, h3, r3⟩ := trodAll_cons r2
  obtain ⟨rfl, rfl, rfl⟩ := trodAll_nil r3
  obtain rfl : args = #[v0, v1, v2, v3] := by cases args; simp_all
  obtain ⟨a, rfl, -, -, ha⟩ := open_int Tryz.underlying3 (hval 0 3 v0 rfl rfl) h0
  obtain ⟨b, rfl, -, -, hb⟩ := open_int Tryz.underlying3 (hval 1 3 v1 rfl rfl) h1
  obtain ⟨n1, L1, -, -, f1, V1⟩ := arg_slice (e := 3) (ks := [.int .i64]) (agg := false) Tryz.underlying108 (by kernel_rfl) (by kernel_rfl) (by simp) (hval 2 108 v2 rfl rfl) h2
  obtain ⟨n2, L2, -, -, f2, V2⟩ := arg_slice (e := 4) (ks := [.bool]) (agg := false) Tryz.underlying69 (by kernel_rfl) (by kernel_rfl) (by simp) (hval 3 69 v3 rfl rfl) h3
  obtain ⟨l, hl⟩ := ints_of f1
  obtain ⟨dl, hdl⟩ := bools_of f2
  rw [hl] at V1
  rw [hdl] at V2
  obtain ⟨sgE, hev⟩ := law_ok a b n2 n1 l dl
  have hok := ((tab_sound 3000000 13 _ _ _ _ hev).1.1 (by decide)).2
  refine row_true (fn := Tryz.f7) (s := Rows.blobBackSpec) (tb := 4) (sg := sgE) laidOut hW' rfl rfl (by kernel_rfl) Tryz.underlying4 (by rw [Tryz.params7]; intro t ht; simp at ht; rcases ht with rfl | rfl | rfl | rfl <;> exact ⟨by kernel_rfl, of_decide_eq_true (by kernel_rfl)⟩) hok rfl ?_
  intro j x v hx hv
  match j with
  | 0 => simp at hx hv; subst hx; subst hv; exact ⟨.at rfl, by simp⟩
  | 1 => simp at hx hv; subst hx; subst hv; exact ⟨.at rfl, by simp⟩
  | 2 => simp at hx hv; subst hx; subst hv; exact ⟨V1, by simp⟩
  | 3 => simp at hx hv; subst hx; subst hv; exact ⟨V2, by simp⟩
  | j + 4 => simp at hx
theorem bback_holds : Rows.BlobBackSaid :=
  OpenClaim.holds_of_wide 7 Tryz.f7 rfl rfl rfl rfl rfl rfl rfl ⟨rfl, rfl, rfl, rfl, rfl⟩ rfl rfl rfl rfl rfl blobBackFn Tryz.func7 blobBackClosed blobBackInst blobBackWrap
    (fun os started H enc _ => bback_lifted os started H enc)
#print axioms bback_holds
end Go.Proofs.YtimoaolannkpcaaGreat
