/- WHAT IS PROVED: whatever three numbers come in, wharfagelaw09.PagesNil returns true, and the arguments read as they did. No condition. -/
import Derived.Test.YtimoaolannkpcaaGreatRows
import Derived.Test.YtimoaolannkpcaaGreatPNil
import Derived.Test.YtimoaolannkpcaaGreatPNilC
import Derived.ChangeMaps5
set_option linter.unusedVariables false
set_option linter.unusedSimpArgs false
set_option linter.unusedSectionVars false
namespace Go.Proofs.YtimoaolannkpcaaGreat
set_option linter.unusedVariables false
set_option linter.unusedSimpArgs false
set_option linter.unusedSectionVars false
open Go.ChangeShapes Go.WideShapes Go.ChangeAt Go.RowKit Go.ChangeMaps Go.Abs

theorem own : ownKnob Tryz.prog.godebug = none := by kernel_rfl
theorem laidOut : laidOutB Tryz.prog = true := pagesNil_c1

set_option maxRecDepth 100000 in
theorem pnil_lifted (os : Os) (started : os.Started) (H : Type) (enc : TypeId × Value → H) :
    ReturnsInHanded {} Tryz.checked os 4 .any (Rows.pagesNilSpec.pre6 enc Tryz.prog Tryz.f4 Rows.pagesNilRow.domain false) (Rows.pagesNilSpec.post enc Tryz.prog Tryz.f4 false true false false) := by
  refine returnsInHanded_of_change (C := Tryz.checked) own started (by kernel_rfl) Tryz.func4
    (ChangeSpec.witness6 (enc := enc) (C := Tryz.checked) false ⟨#[], #[.int .i64 0, .int .i64 0, .int .i64 0], []⟩ 4 (by kernel_rfl) (by kernel_rfl) (by kernel_rfl) (by kernel_rfl)) ?_
  intro W base args ds gs before hval0 hW hcnd _
  have hval : ∀ (j : Nat) t v, Tryz.f4.params[j]? = some t → args[j]? = some v → Value.okWide Tryz.prog W .any base t v := hval0
  have hW' := hW
  obtain ⟨p, q, hA0, hV, rfl, hfz, hnd⟩ := hW
  have hA : DataW.TrodAll enc Tryz.prog W 0 (fun _ => true) true Tryz.f4.params.toList args.toList ds p := hA0
  rw [Tryz.params4] at hA hval
  obtain ⟨v0, vs0, d0, ds0, p0, q0, e1, rfl, rfl, h0, r0⟩ := trodAll_cons hA
  obtain ⟨v1, vs1, d1, ds1, p1, q1, rfl, rfl, rfl, h1, r1⟩ := trodAll_cons r0
  obtain ⟨v2, vs2, d2, ds2, p2, q2, rfl, rfl, rfl, h2, r2⟩ := trodAll_cons r1
  obtain ⟨rfl, rfl, rfl⟩ := trodAll_nil r2
  obtain rfl : args = #[v0, v1, v2] := by cases args; simp_all
  obtain ⟨a, rfl, -, -, ha⟩ := open_int Tryz.underlying3 (hval 0 3 v0 rfl rfl) h0
  obtain ⟨b, rfl, -, -, hb⟩ := open_int Tryz.underlying3 (hval 1 3 v1 rfl rfl) h1
  obtain ⟨n, rfl, -, -, hn⟩ := open_int Tryz.underlying3 (hval 2 3 v2 rfl rfl) h2
  refine row_true (fn := Tryz.f4) (s := Rows.pagesNilSpec) (tb := 4) (sg := []) laidOut hW' rfl rfl (by kernel_rfl) Tryz.underlying4 (by rw [Tryz.params4]; intro t ht; simp at ht; rcases ht with rfl | rfl <;> exact ⟨by kernel_rfl, of_decide_eq_true (by kernel_rfl)⟩) (nil_ok a b n) rfl ?_
  intro j x v hx hv
  match j with
  | 0 => simp at hx hv; subst hx; subst hv; exact ⟨.at rfl, by simp⟩
  | 1 => simp at hx hv; subst hx; subst hv; exact ⟨.at rfl, by simp⟩
  | 2 => simp at hx hv; subst hx; subst hv; exact ⟨.at rfl, by simp⟩
  | j + 3 => simp at hx

theorem pnil_holds : Rows.PagesNilSaid :=
  OpenClaim.holds_of_wide 4 Tryz.f4 rfl rfl rfl rfl rfl rfl rfl ⟨rfl, rfl, rfl, rfl, rfl⟩ rfl rfl rfl rfl rfl pagesNilFn Tryz.func4 pagesNilClosed pagesNilInst pagesNilWrap
    (fun os started H enc _ => pnil_lifted os started H enc)
#print axioms pnil_holds
end Go.Proofs.YtimoaolannkpcaaGreat
