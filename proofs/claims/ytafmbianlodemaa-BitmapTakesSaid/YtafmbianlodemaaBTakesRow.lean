/- WHAT IS PROVED: whatever string, range, number and list of pages come in, wharfagelaw10.BitmapTakes returns true, and the arguments read as they did. No condition. -/
import Derived.Test.YtafmbianlodemaaRows
import Derived.Test.YtafmbianlodemaaBitV
import Derived.ChangeMaps5
namespace Go.Proofs.Ytafmbianlodemaa
set_option linter.unusedVariables false
set_option linter.unusedSimpArgs false
set_option linter.unusedSectionVars false
open Go.ChangeShapes Go.WideShapes Go.ChangeAt Go.RowKit Go.ChangeMaps Go.Abs

theorem own : ownKnob Try.prog.godebug = none := by kernel_rfl
theorem laidOut : laidOutB Try.prog = true := by kernel_rfl

theorem list_of {L : List (List Value)} (h : ∀ cs ∈ L, Flats [.int .i64] cs) : ∃ l : List Int, L.map (elA false) = il l := by
  induction L with
  | nil => exact ⟨[], rfl⟩
  | cons cs L ih =>
    obtain ⟨l, hl⟩ := ih fun cs hcs => h cs (by simp [hcs])
    have hf : Flats (List.replicate 1 (.int .i64)) cs := h cs (by simp)
    obtain ⟨m, h1, rfl, _⟩ := hf.ints
    match m, h1 with
    | [x], _ => exact ⟨x :: l, by rw [List.map_cons, hl]; rfl⟩
set_option maxRecDepth 100000 in
theorem btakes_lifted (os : Os) (started : os.Started) (H : Type) (enc : TypeId × Value → H) :
    ReturnsInHanded {} Try.checked os 7 .any (Rows.bitmapTakesSpec.pre6 enc Try.prog Try.f7 Rows.bitmapTakesRow.domain false) (Rows.bitmapTakesSpec.post enc Try.prog Try.f7 false true false false) := by
  refine returnsInHanded_of_change (C := Try.checked) own started (by kernel_rfl) Try.func7
    (ChangeSpec.witness6 (enc := enc) (C := Try.checked) false ⟨#[], #[.string ⟨#[]⟩, .int .i64 0, .int .i64 0, .int .i64 0, .slice none 0 0], []⟩ 8 (by kernel_rfl) (by kernel_rfl) (by kernel_rfl) (by kernel_rfl)) ?_
  intro W base args ds gs before hval0 hW hcnd _
  have hval : ∀ (j : Nat) t v, Try.f7.params[j]? = some t → args[j]? = some v → Value.okWide Try.prog W .any base t v := hval0
  have hW' := hW
  obtain ⟨p, q, hA0, hV, rfl, hfz, hnd⟩ := hW
  have hA : DataW.TrodAll enc Try.prog W 0 (fun _ => true) true Try.f7.params.toList args.toList ds p := hA0
  rw [Try.params7] at hA hval
  obtain ⟨v0, vs0, d0, ds0, p0, q0, e1, rfl, rfl, h0, r0⟩ := trodAll_cons hA
  obtain ⟨v1, vs1, d1, ds1, p1, q1, rfl, rfl, rfl, h1, r1⟩ := trodAll_cons r0
  obtain ⟨v2, vs2, d2, ds2, p2, q2, rfl, rfl, rfl, h2, r2⟩ := trodAll_cons r1
  obtain ⟨v3, vs3, d3, ds3, p3, q3, rfl, rfl, rfl, h3, r3⟩ := trodAll_cons r2
  obtain ⟨v4, vs4, d4, ds4, p4, q4, rfl, rfl, rfl, h4, r4⟩ := trodAll_cons r3
  obtain ⟨rfl, rfl, rfl⟩ := trodAll_nil r4
  obtain rfl : args = #[v0, v1, v2, v3, v4] := by cases args; simp_all
  obtain ⟨s, rfl, -, -, -⟩ := open_string Try.underlying9 (hval 0 9 v0 rfl rfl) h0
  obtain ⟨a, rfl, -, -, ha⟩ := open_int Try.underlying3 (hval 1 3 v1 rfl rfl) h1
  obtain ⟨b, rfl, -, -, hb⟩ := open_int Try.underlying3 (hval 2 3 v2 rfl rfl) h2
  obtain ⟨k, rfl, -, -, hk⟩ := open_int Try.underlying3 (hval 3 3 v3 rfl rfl) h3
  obtain ⟨nn, L, -, -, f4, V4⟩ := arg_slice (e := 3) (ks := [.int .i64]) (agg := false) Try.underlying39 (by kernel_rfl) (by kernel_rfl) (by simp) (hval 4 39 v4 rfl rfl) h4
  obtain ⟨l, hl⟩ := list_of f4
  rw [hl] at V4
  have ev := t7 s a b k nn l []
  refine row_true (fn := Try.f7) (s := Rows.bitmapTakesSpec) (tb := 4) (sg := []) laidOut hW' rfl rfl (by kernel_rfl) Try.underlying4 (by rw [Try.params7]; intro t ht; simp at ht; rcases ht with rfl | rfl | rfl <;> exact ⟨by kernel_rfl, of_decide_eq_true (by kernel_rfl)⟩) (tab_sound 9 _ _ _ _ ev).2 rfl ?_
  intro j x v hx hv
  match j with
  | 0 => simp at hx hv; subst hx; subst hv; exact ⟨.at rfl, by simp⟩
  | 1 => simp at hx hv; subst hx; subst hv; exact ⟨.at rfl, by simp⟩
  | 2 => simp at hx hv; subst hx; subst hv; exact ⟨.at rfl, by simp⟩
  | 3 => simp at hx hv; subst hx; subst hv; exact ⟨.at rfl, by simp⟩
  | 4 => simp at hx hv; subst hx; subst hv; exact ⟨V4, by simp⟩
  | j + 5 => simp at hx

theorem btakes_holds : Rows.BitmapTakesSaid :=
  OpenClaim.holds_of_wide 7 Try.f7 rfl rfl rfl rfl rfl rfl rfl ⟨rfl, rfl, rfl, rfl, rfl⟩ rfl rfl rfl rfl rfl (by kernel_rfl) Try.func7 (by kernel_rfl)
    (of_decide_eq_true (by kernel_rfl)) (by unfold Func.isWrapper; first | (rw [if_pos (by decide +kernel)]; kernel_rfl) | (rw [if_neg (by decide +kernel)]; exact ⟨rfl, rfl⟩))
    (fun os started H enc _ => btakes_lifted os started H enc)
#print axioms btakes_holds
end Go.Proofs.Ytafmbianlodemaa
