/- WHAT IS PROVED: whatever two numbers and whatever list of acts come in, wharfagelaw09.PagesPrefix returns true, and the arguments read as they did. No condition. -/
import Derived.Test.YtimoaolannkpcaaGreatRows
import Derived.Test.YtimoaolannkpcaaGreatTxtE
import Derived.Test.YtimoaolannkpcaaGreatPPrefixC
import Derived.ChangeMaps5
set_option linter.unusedVariables false
set_option linter.unusedSimpArgs false
set_option linter.unusedSectionVars false
namespace Go.Proofs.YtimoaolannkpcaaGreat
set_option linter.unusedVariables false
set_option linter.unusedSimpArgs false
set_option linter.unusedSectionVars false
open Go.ChangeShapes Go.WideShapes Go.ChangeAt Go.RowKit Go.ChangeMaps Go.Abs

theorem own : ownKnob Tryz.prog.godebug = none := by kernel_rfl
theorem laidOut : laidOutB Tryz.prog = true := pagesPrefix_c1
theorem maxLen_lt {n : Nat} (h : n ≤ maxLen) : n < 9223372036854775808 := by unfold maxLen at h; omega

set_option maxRecDepth 100000 in
theorem pprefix_lifted (os : Os) (started : os.Started) (H : Type) (enc : TypeId × Value → H) :
    ReturnsInHanded {} Tryz.checked os 5 .any (Rows.pagesPrefixSpec.pre6 enc Tryz.prog Tryz.f5 Rows.pagesPrefixRow.domain false) (Rows.pagesPrefixSpec.post enc Tryz.prog Tryz.f5 false true false false) := by
  refine returnsInHanded_of_change (C := Tryz.checked) own started (by kernel_rfl) Tryz.func5
    (ChangeSpec.witness6 (enc := enc) (C := Tryz.checked) false ⟨#[], #[.int .i64 0, .int .i64 0, .slice none 0 0], []⟩ 4 (by kernel_rfl) (by kernel_rfl) (by kernel_rfl) (by kernel_rfl)) ?_
  intro W base args ds gs before hval0 hW hcnd _
  have hval : ∀ (j : Nat) t v, Tryz.f5.params[j]? = some t → args[j]? = some v → Value.okWide Tryz.prog W .any base t v := hval0
  have hW' := hW
  obtain ⟨p, q, hA0, hV, rfl, hfz, hnd⟩ := hW
  have hA : DataW.TrodAll enc Tryz.prog W 0 (fun _ => true) true Tryz.f5.params.toList args.toList ds p := hA0
  rw [Tryz.params5] at hA hval
  obtain ⟨v0, vs0, d0, ds0, p0, q0, e1, rfl, rfl, h0, r0⟩ := trodAll_cons hA
  obtain ⟨v1, vs1, d1, ds1, p1, q1, rfl, rfl, rfl, h1, r1⟩ := trodAll_cons r0
  obtain ⟨v2, vs2, d2, ds2, p2, q2, rfl, rfl, rfl, h2, r2⟩ := trodAll_cons r1
  obtain ⟨rfl, rfl, rfl⟩ := trodAll_nil r2
  obtain rfl : args = #[v0, v1, v2] := by cases args; simp_all
  obtain ⟨a, rfl, -, -, ha⟩ := open_int Tryz.underlying3 (hval 0 3 v0 rfl rfl) h0
  obtain ⟨b, rfl, -, -, hb⟩ := open_int Tryz.underlying3 (hval 1 3 v1 rfl rfl) h1
  obtain ⟨av, hvr, hnt, hsh⟩ := arg_tree Tryz.underlying61 sh61 (hval 2 61 v2 rfl rfl) h2
  obtain ⟨l, hl1, hl2, hl3⟩ := arg_of hsh
  obtain ⟨_, sgE, hev, rfl⟩ := ev_get (law_ev (N := l.length + 1000001) (dp := 0) (a := a) (b := b) hl1 hl2 (maxLen_lt hl3) (by omega))
  have hok := ((tab_sound (l.length + 1000001) 10 _ _ _ _ hev).1.1 (by decide)).2
  refine row_true (fn := Tryz.f5) (s := Rows.pagesPrefixSpec) (tb := 4) (sg := sgE) laidOut hW' rfl rfl (by kernel_rfl) Tryz.underlying4 (by rw [Tryz.params5]; intro t ht; simp at ht; rcases ht with rfl | rfl | rfl <;> exact ⟨by kernel_rfl, of_decide_eq_true (by kernel_rfl)⟩) hok rfl ?_
  intro j x v hx hv
  match j with
  | 0 => simp at hx hv; subst hx; subst hv; exact ⟨.at rfl, by simp⟩
  | 1 => simp at hx hv; subst hx; subst hv; exact ⟨.at rfl, by simp⟩
  | 2 => simp at hx hv; subst hx; subst hv; exact ⟨hvr, hnt⟩
  | j + 3 => simp at hx

theorem pprefix_holds : Rows.PagesPrefixSaid :=
  OpenClaim.holds_of_wide 5 Tryz.f5 rfl rfl rfl rfl rfl rfl rfl ⟨rfl, rfl, rfl, rfl, rfl⟩ rfl rfl rfl rfl rfl pagesPrefixFn Tryz.func5 pagesPrefixClosed pagesPrefixInst pagesPrefixWrap
    (fun os started H enc _ => pprefix_lifted os started H enc)
#print axioms pprefix_holds
end Go.Proofs.YtimoaolannkpcaaGreat
