/- WHAT IS PROVED: whatever turns, rounds and number come in, wharfagelaw26.DrrNobody returns true, and the arguments read as they did. No condition. -/
import Derived.Test.YtafmbianlodemaaRows
import Derived.Test.YtafmbianlodemaaDrrT
namespace Go.Proofs.Ytafmbianlodemaa
set_option linter.unusedVariables false
set_option linter.unusedSimpArgs false
set_option linter.unusedSectionVars false
open Go.ChangeShapes Go.WideShapes Go.ChangeAt Go.RowKit Go.Abs

theorem own : ownKnob Try.prog.godebug = none := by kernel_rfl
theorem laidOut : laidOutB Try.prog = true := by kernel_rfl

set_option maxRecDepth 100000 in
theorem nobody_lifted (os : Os) (started : os.Started) (H : Type) (enc : TypeId × Value → H) :
    ReturnsInHanded {} Try.checked os 5 .any (Rows.drrNobodySpec.pre6 enc Try.prog Try.f5 Rows.drrNobodyRow.domain false) (Rows.drrNobodySpec.post enc Try.prog Try.f5 false true false false) := by
  refine returnsInHanded_of_change (C := Try.checked) own started (by kernel_rfl) Try.func5
    (ChangeSpec.witness6 (enc := enc) (C := Try.checked) false ⟨#[], #[.agg (Array.replicate 11 (.int .i64 0)), .slice none 0 0, .int .u8 0], []⟩ 8 (by kernel_rfl) (by kernel_rfl) (by kernel_rfl) (by kernel_rfl)) ?_
  intro W base args ds gs before hval0 hW hcnd _
  have hval : ∀ (j : Nat) t v, Try.f5.params[j]? = some t → args[j]? = some v → Value.okWide Try.prog W .any base t v := hval0
  have hW' := hW
  obtain ⟨p, q, hA0, hV, rfl, hfz, hnd⟩ := hW
  have hA : DataW.TrodAll enc Try.prog W 0 (fun _ => true) true Try.f5.params.toList args.toList ds p := hA0
  rw [Try.params5] at hA hval
  obtain ⟨v0, vs0, d0, ds0, p0, q0, e1, rfl, rfl, h0, r0⟩ := trodAll_cons hA
  obtain ⟨v1, vs1, d1, ds1, p1, q1, rfl, rfl, rfl, h1, r1⟩ := trodAll_cons r0
  obtain ⟨v2, vs2, d2, ds2, p2, q2, rfl, rfl, rfl, h2, r2⟩ := trodAll_cons r1
  obtain ⟨rfl, rfl, rfl⟩ := trodAll_nil r2
  obtain rfl : args = #[v0, v1, v2] := by cases args; simp_all
  obtain ⟨cs, f0, rfl, V0⟩ := arg_flat (ks := List.replicate 11 (.int .i64)) (by kernel_rfl) (by kernel_rfl) (by kernel_rfl) (hval 0 24 v0 rfl rfl) h0
  obtain ⟨nn, L, -, -, f1, V1⟩ := arg_slice (e := 22) (ks := List.replicate 8 (.int .i64)) (agg := true) Try.underlying38 (by kernel_rfl) (by kernel_rfl) (by simp) (hval 1 38 v1 rfl rfl) h1
  obtain ⟨w, rfl, -, -, hw⟩ := open_int Try.underlying5 (hval 2 5 v2 rfl rfl) h2
  obtain ⟨t, tl8, et⟩ := turns_of f0
  obtain ⟨R, hR, eR, -⟩ := rounds_of f1
  have ec : Try.prog.cellsOf 22 = 8 := by kernel_rfl
  rw [ec, eR] at V1
  rw [et] at V0
  have hw' : 0 ≤ w ∧ w ≤ 255 := by
    simpa [Lit.wf, IntKind.min, IntKind.max, IntKind.signed, IntKind.bits] using hw
  have ev := t5 tl8 hR nn hw' []
  refine row_true (fn := Try.f5) (s := Rows.drrNobodySpec) (tb := 4) (sg := []) laidOut hW' rfl rfl (by kernel_rfl) Try.underlying4 (by rw [Try.params5]; intro t ht; simp at ht; rcases ht with rfl | rfl | rfl <;> exact ⟨by kernel_rfl, of_decide_eq_true (by kernel_rfl)⟩) (tab_sound 7 _ _ _ _ ev).2 rfl ?_
  intro i a v ha hv
  match i with
  | 0 => simp at ha hv; subst ha; subst hv; exact ⟨V0, by simp⟩
  | 1 => simp at ha hv; subst ha; subst hv; exact ⟨V1, by simp⟩
  | 2 => simp at ha hv; subst ha; subst hv; exact ⟨.at rfl, by simp⟩
  | i + 3 => simp at ha

theorem nobody_holds : Rows.DrrNobodySaid :=
  OpenClaim.holds_of_wide 5 Try.f5 rfl rfl rfl rfl rfl rfl rfl ⟨rfl, rfl, rfl, rfl, rfl⟩ rfl rfl rfl rfl rfl (by kernel_rfl) Try.func5 (by kernel_rfl)
    (of_decide_eq_true (by kernel_rfl)) (by unfold Func.isWrapper; first | (rw [if_pos (by decide +kernel)]; kernel_rfl) | (rw [if_neg (by decide +kernel)]; exact ⟨rfl, rfl⟩))
    (fun os started H enc _ => nobody_lifted os started H enc)
#print axioms nobody_holds
end Go.Proofs.Ytafmbianlodemaa
