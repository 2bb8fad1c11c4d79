/- WHAT IS PROVED: whatever turns, costs and numbers come in, wharfagelaw26.DrrTells returns true, and the arguments read as they did. No condition. -/
import Derived.Test.YtafmbianlodemaaRows
import Derived.Test.YtafmbianlodemaaDrrT
import Derived.Test.YtafmbianlodemaaDrrE
namespace Go.Abs
set_option linter.unusedVariables false
set_option linter.unusedSimpArgs false
set_option linter.unusedSectionVars false
open Go.Drr
theorem t35 (d : Nat) {q x : Int} (hq : 1 ≤ q) (sg : Sg) : tab (d + 1) 35 [I q, I x] sg = some (.ret (I (min (max x 0) q)) sg) := by
  rw [tab_at (af := ref26_Cost.a) rfl]; exact rcost_ev hq sg
theorem t11 (d : Nat) (u : T) (c : List Int) (sg : Sg) (hl : u.cr.length = 8) (hc : c.length = 8) : tab (d + 2) 11 [.agg (tl u), .agg (cl c)] sg = some (.ret (.tup [.agg (tl (nextS u c).1), I (nextS u c).2.1, B (nextS u c).2.2]) sg) := by
  rw [tab_at (af := ref26_Next.a) rfl]; exact rnext_ev hl hc (t13 d) (fun q x sg hq => t35 d hq sg) (by have := NN_big; omega) sg
theorem t3 {t : T} {c : List Int} (hl : t.cr.length = 8) (hc : c.length = 8) {n q : Int} (hn : -9223372036854775808 ≤ n ∧ n ≤ 9223372036854775807) (sg : Sg) :
    tab 7 3 [.agg (tl t), .agg (cl c), I n, I q] sg = some (.ret (B true) sg) := by
  rw [tab_at (af := law26_DrrTells.a) rfl]
  exact tells_ev lives26 (t9 3) (fun u c sg h1 h2 => t11 4 u c sg h1 h2) (fun t sg hl => t15 4 t sg hl) (t13 5) (t10 5) (fun n q sg hn => t12 3 hn sg) hl hc hn sg
end Go.Abs
namespace Go.Proofs.Ytafmbianlodemaa
open Go.ChangeShapes Go.WideShapes Go.ChangeAt Go.RowKit Go.Abs

theorem own : ownKnob Try.prog.godebug = none := by kernel_rfl
theorem laidOut : laidOutB Try.prog = true := by kernel_rfl

set_option maxRecDepth 100000 in
theorem tells_lifted (os : Os) (started : os.Started) (H : Type) (enc : TypeId × Value → H) :
    ReturnsInHanded {} Try.checked os 3 .any (Rows.drrTellsSpec.pre6 enc Try.prog Try.f3 Rows.drrTellsRow.domain false) (Rows.drrTellsSpec.post enc Try.prog Try.f3 false true false false) := by
  refine returnsInHanded_of_change (C := Try.checked) own started (by kernel_rfl) Try.func3
    (ChangeSpec.witness6 (enc := enc) (C := Try.checked) false ⟨#[], #[.agg (Array.replicate 11 (.int .i64 0)), .agg (Array.replicate 8 (.int .i64 0)), .int .i64 0, .int .i64 0], []⟩ 8 (by kernel_rfl) (by kernel_rfl) (by kernel_rfl) (by kernel_rfl)) ?_
  intro W base args ds gs before hval0 hW hcnd _
  have hval : ∀ (j : Nat) t v, Try.f3.params[j]? = some t → args[j]? = some v → Value.okWide Try.prog W .any base t v := hval0
  have hW' := hW
  obtain ⟨p, q, hA0, hV, rfl, hfz, hnd⟩ := hW
  have hA : DataW.TrodAll enc Try.prog W 0 (fun _ => true) true Try.f3.params.toList args.toList ds p := hA0
  rw [Try.params3] at hA hval
  obtain ⟨v0, vs0, d0, ds0, p0, q0, e1, rfl, rfl, h0, r0⟩ := trodAll_cons hA
  obtain ⟨v1, vs1, d1, ds1, p1, q1, rfl, rfl, rfl, h1, r1⟩ := trodAll_cons r0
  obtain ⟨v2, vs2, d2, ds2, p2, q2, rfl, rfl, rfl, h2, r2⟩ := trodAll_cons r1
  obtain ⟨v3, vs3, d3, ds3, p3, q3, rfl, rfl, rfl, h3, r3⟩ := trodAll_cons r2
  obtain ⟨rfl, rfl, rfl⟩ := trodAll_nil r3
  obtain rfl : args = #[v0, v1, v2, v3] := by cases args; simp_all
  obtain ⟨cs, f0, rfl, V0⟩ := arg_flat (ks := List.replicate 11 (.int .i64)) (by kernel_rfl) (by kernel_rfl) (by kernel_rfl) (hval 0 24 v0 rfl rfl) h0
  obtain ⟨cs1, f1, rfl, V1⟩ := arg_flat (ks := List.replicate 8 (.int .i64)) (by kernel_rfl) (by kernel_rfl) (by kernel_rfl) (hval 1 22 v1 rfl rfl) h1
  obtain ⟨n, rfl, -, -, hn⟩ := open_int Try.underlying3 (hval 2 3 v2 rfl rfl) h2
  obtain ⟨qq, rfl, -, -, -⟩ := open_int Try.underlying3 (hval 3 3 v3 rfl rfl) h3
  obtain ⟨t, tl8, et⟩ := turns_of f0
  obtain ⟨c, cl8, ec⟩ := costs_of f1
  rw [et] at V0
  rw [ec] at V1
  have hn' : -9223372036854775808 ≤ n ∧ n ≤ 9223372036854775807 := by
    simpa [Lit.wf, IntKind.min, IntKind.max, IntKind.signed, IntKind.bits] using hn
  have ev := t3 (q := qq) tl8 cl8 hn' []
  refine row_true (fn := Try.f3) (s := Rows.drrTellsSpec) (tb := 4) (sg := []) laidOut hW' rfl rfl (by kernel_rfl) Try.underlying4 (by rw [Try.params3]; intro t ht; simp at ht; rcases ht with rfl | rfl | rfl <;> exact ⟨by kernel_rfl, of_decide_eq_true (by kernel_rfl)⟩) (tab_sound 7 _ _ _ _ ev).2 rfl ?_
  intro i a v ha hv
  match i with
  | 0 => simp at ha hv; subst ha; subst hv; exact ⟨V0, by simp⟩
  | 1 => simp at ha hv; subst ha; subst hv; exact ⟨V1, by simp⟩
  | 2 => simp at ha hv; subst ha; subst hv; exact ⟨.at rfl, by simp⟩
  | 3 => simp at ha hv; subst ha; subst hv; exact ⟨.at rfl, by simp⟩
  | i + 4 => simp at ha

theorem tells_holds : Rows.DrrTellsSaid :=
  OpenClaim.holds_of_wide 3 Try.f3 rfl rfl rfl rfl rfl rfl rfl ⟨rfl, rfl, rfl, rfl, rfl⟩ rfl rfl rfl rfl rfl (by kernel_rfl) Try.func3 (by kernel_rfl)
    (of_decide_eq_true (by kernel_rfl)) (by unfold Func.isWrapper; first | (rw [if_pos (by decide +kernel)]; kernel_rfl) | (rw [if_neg (by decide +kernel)]; exact ⟨rfl, rfl⟩))
    (fun os started H enc _ => tells_lifted os started H enc)
#print axioms tells_holds
end Go.Proofs.Ytafmbianlodemaa
