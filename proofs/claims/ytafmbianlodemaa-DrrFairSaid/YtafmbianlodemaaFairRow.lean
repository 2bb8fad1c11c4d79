/- WHAT IS PROVED: whatever numbers and rounds come in, wharfagelaw26.DrrFair returns true, and the arguments read as they did. No condition. -/
import Derived.Test.YtafmbianlodemaaRows
import Derived.Test.YtafmbianlodemaaDrrT
import Derived.Test.YtafmbianlodemaaDrrF
namespace Go.Abs
set_option linter.unusedVariables false
set_option linter.unusedSimpArgs false
set_option linter.unusedSectionVars false
open Go.Drr
theorem t4 {n q : Int} (hn : -9223372036854775808 ≤ n ∧ n ≤ 9223372036854775807) {L : List (List Int)} (hL : ∀ c ∈ L, c.length = 8) (nb : Bool) {a b : Int} (ha : 0 ≤ a ∧ a ≤ 255) (hb : 0 ≤ b ∧ b ≤ 255) (sg : Sg) :
    tab 7 4 [I n, I q, .sl nb 8 (rl L), .at (.int .u8 a), .at (.int .u8 b)] sg = some (.ret (B true) sg) := by
  rw [tab_at (af := law26_DrrFair.a) rfl]
  exact fair_ev lives26 (t9 3) (fun t sg hl => t15 4 t sg hl) (fun n q sg hn => t12 3 hn sg) hn hL nb ha hb (by have := NN_big; omega) sg
end Go.Abs
namespace Go.Proofs.Ytafmbianlodemaa
open Go.ChangeShapes Go.WideShapes Go.ChangeAt Go.RowKit Go.Abs

theorem own : ownKnob Try.prog.godebug = none := by kernel_rfl
theorem laidOut : laidOutB Try.prog = true := by kernel_rfl

set_option maxRecDepth 100000 in
theorem fair_lifted (os : Os) (started : os.Started) (H : Type) (enc : TypeId × Value → H) :
    ReturnsInHanded {} Try.checked os 4 .any (Rows.drrFairSpec.pre6 enc Try.prog Try.f4 Rows.drrFairRow.domain false) (Rows.drrFairSpec.post enc Try.prog Try.f4 false true false false) := by
  refine returnsInHanded_of_change (C := Try.checked) own started (by kernel_rfl) Try.func4
    (ChangeSpec.witness6 (enc := enc) (C := Try.checked) false ⟨#[], #[.int .i64 0, .int .i64 0, .slice none 0 0, .int .u8 0, .int .u8 0], []⟩ 8 (by kernel_rfl) (by kernel_rfl) (by kernel_rfl) (by kernel_rfl)) ?_
  intro W base args ds gs before hval0 hW hcnd _
  have hval : ∀ (j : Nat) t v, Try.f4.params[j]? = some t → args[j]? = some v → Value.okWide Try.prog W .any base t v := hval0
  have hW' := hW
  obtain ⟨p, q, hA0, hV, rfl, hfz, hnd⟩ := hW
  have hA : DataW.TrodAll enc Try.prog W 0 (fun _ => true) true Try.f4.params.toList args.toList ds p := hA0
  rw [Try.params4] at hA hval
  obtain ⟨v0, vs0, d0, ds0, p0, q0, e1, rfl, rfl, h0, r0⟩ := trodAll_cons hA
  obtain ⟨v1, vs1, d1, ds1, p1, q1, rfl, rfl, rfl, h1, r1⟩ := trodAll_cons r0
  obtain ⟨v2, vs2, d2, ds2, p2, q2, rfl, rfl, rfl, h2, r2⟩ := trodAll_cons r1
  obtain ⟨v3, vs3, d3, ds3, p3, q3, rfl, rfl, rfl, h3, r3⟩ := trodAll_cons r2
  obtain ⟨v4, vs4, d4, ds4, p4, q4, rfl, rfl, rfl, h4, r4⟩ := trodAll_cons r3
  obtain ⟨rfl, rfl, rfl⟩ := trodAll_nil r4
  obtain rfl : args = #[v0, v1, v2, v3, v4] := by cases args; simp_all
  obtain ⟨n, rfl, -, -, hn⟩ := open_int Try.underlying3 (hval 0 3 v0 rfl rfl) h0
  obtain ⟨qq, rfl, -, -, -⟩ := open_int Try.underlying3 (hval 1 3 v1 rfl rfl) h1
  obtain ⟨nn, L, -, -, f2, V2⟩ := arg_slice (e := 22) (ks := List.replicate 8 (.int .i64)) (agg := true) Try.underlying38 (by kernel_rfl) (by kernel_rfl) (by simp) (hval 2 38 v2 rfl rfl) h2
  obtain ⟨a, rfl, -, -, ha⟩ := open_int Try.underlying5 (hval 3 5 v3 rfl rfl) h3
  obtain ⟨b, rfl, -, -, hb⟩ := open_int Try.underlying5 (hval 4 5 v4 rfl rfl) h4
  obtain ⟨R, hR, eR, -⟩ := rounds_of f2
  have ec : Try.prog.cellsOf 22 = 8 := by kernel_rfl
  rw [ec, eR] at V2
  have hn' : -9223372036854775808 ≤ n ∧ n ≤ 9223372036854775807 := by
    simpa [Lit.wf, IntKind.min, IntKind.max, IntKind.signed, IntKind.bits] using hn
  have ha' : 0 ≤ a ∧ a ≤ 255 := by
    simpa [Lit.wf, IntKind.min, IntKind.max, IntKind.signed, IntKind.bits] using ha
  have hb' : 0 ≤ b ∧ b ≤ 255 := by
    simpa [Lit.wf, IntKind.min, IntKind.max, IntKind.signed, IntKind.bits] using hb
  have ev := t4 (q := qq) hn' hR nn ha' hb' []
  refine row_true (fn := Try.f4) (s := Rows.drrFairSpec) (tb := 4) (sg := []) laidOut hW' rfl rfl (by kernel_rfl) Try.underlying4 (by rw [Try.params4]; intro t ht; simp at ht; rcases ht with rfl | rfl | rfl <;> exact ⟨by kernel_rfl, of_decide_eq_true (by kernel_rfl)⟩) (tab_sound 7 _ _ _ _ ev).2 rfl ?_
  intro i a v ha hv
  match i with
  | 0 => simp at ha hv; subst ha; subst hv; exact ⟨.at rfl, by simp⟩
  | 1 => simp at ha hv; subst ha; subst hv; exact ⟨.at rfl, by simp⟩
  | 2 => simp at ha hv; subst ha; subst hv; exact ⟨V2, by simp⟩
  | 3 => simp at ha hv; subst ha; subst hv; exact ⟨.at rfl, by simp⟩
  | 4 => simp at ha hv; subst ha; subst hv; exact ⟨.at rfl, by simp⟩
  | i + 5 => simp at ha

theorem fair_holds : Rows.DrrFairSaid :=
  OpenClaim.holds_of_wide 4 Try.f4 rfl rfl rfl rfl rfl rfl rfl ⟨rfl, rfl, rfl, rfl, rfl⟩ rfl rfl rfl rfl rfl (by kernel_rfl) Try.func4 (by kernel_rfl)
    (of_decide_eq_true (by kernel_rfl)) (by unfold Func.isWrapper; first | (rw [if_pos (by decide +kernel)]; kernel_rfl) | (rw [if_neg (by decide +kernel)]; exact ⟨rfl, rfl⟩))
    (fun os started H enc _ => fair_lifted os started H enc)
#print axioms fair_holds
end Go.Proofs.Ytafmbianlodemaa
