/- WHAT IS PROVED: whatever two numbers come in, wharfagelaw15.KvNil returns true, and the arguments read as they did. No condition. -/
import Derived.Test.YtojghbipoihboaaGreatRows
import Derived.Test.YtojghbipoihboaaGreatKNil
import Derived.Test.YtojghbipoihboaaGreatKNilC
import Derived.ChangeMaps5
set_option linter.unusedVariables false
set_option linter.unusedSimpArgs false
set_option linter.unusedSectionVars false
namespace Go.Proofs.YtojghbipoihboaaGreat
set_option linter.unusedVariables false
set_option linter.unusedSimpArgs false
set_option linter.unusedSectionVars false
open Go.ChangeShapes Go.WideShapes Go.ChangeAt Go.RowKit Go.ChangeMaps Go.Abs

theorem own : ownKnob Tryz.prog.godebug = none := by kernel_rfl
theorem laidOut : laidOutB Tryz.prog = true := kvNil_c1

set_option maxRecDepth 100000 in
theorem kvnil_lifted (os : Os) (started : os.Started) (H : Type) (enc : TypeId × Value → H) :
    ReturnsInHanded {} Tryz.checked os 3 .any (Rows.kvNilSpec.pre6 enc Tryz.prog Tryz.f3 Rows.kvNilRow.domain false) (Rows.kvNilSpec.post enc Tryz.prog Tryz.f3 false true false false) := by
  refine returnsInHanded_of_change (C := Tryz.checked) own started (by kernel_rfl) Tryz.func3
    (ChangeSpec.witness6 (enc := enc) (C := Tryz.checked) false ⟨#[], #[.int .i64 0, .int .i64 0], []⟩ 4 (by kernel_rfl) (by kernel_rfl) (by kernel_rfl) (by kernel_rfl)) ?_
  intro W base args ds gs before hval0 hW hcnd _
  have hval : ∀ (j : Nat) t v, Tryz.f3.params[j]? = some t → args[j]? = some v → Value.okWide Tryz.prog W .any base t v := hval0
  have hW' := hW
  obtain ⟨p, q, hA0, hV, rfl, hfz, hnd⟩ := hW
  have hA : DataW.TrodAll enc Tryz.prog W 0 (fun _ => true) true Tryz.f3.params.toList args.toList ds p := hA0
  rw [Tryz.params3] at hA hval
  obtain ⟨v0, vs0, d0, ds0, p0, q0, e1, rfl, rfl, h0, r0⟩ := trodAll_cons hA
  obtain ⟨v1, vs1, d1, ds1, p1, q1, rfl, rfl, rfl, h1, r1⟩ := trodAll_cons r0
  obtain ⟨rfl, rfl, rfl⟩ := trodAll_nil r1
  obtain rfl : args = #[v0, v1] := by cases args; simp_all
  obtain ⟨a, rfl, -, -, ha⟩ := open_int Tryz.underlying3 (hval 0 3 v0 rfl rfl) h0
  obtain ⟨b, rfl, -, -, hb⟩ := open_int Tryz.underlying3 (hval 1 3 v1 rfl rfl) h1
  obtain ⟨sgE, hok⟩ := nil_ok a b
  refine row_true (fn := Tryz.f3) (s := Rows.kvNilSpec) (tb := 4) (sg := sgE) laidOut hW' rfl rfl (by kernel_rfl) Tryz.underlying4 (by rw [Tryz.params3]; intro t ht; simp at ht; rcases ht with rfl | rfl <;> exact ⟨by kernel_rfl, of_decide_eq_true (by kernel_rfl)⟩) hok rfl ?_
  intro j x v hx hv
  match j with
  | 0 => simp at hx hv; subst hx; subst hv; exact ⟨.at rfl, by simp⟩
  | 1 => simp at hx hv; subst hx; subst hv; exact ⟨.at rfl, by simp⟩
  | j + 2 => simp at hx

theorem kvnil_holds : Rows.KvNilSaid :=
  OpenClaim.holds_of_wide 3 Tryz.f3 rfl rfl rfl rfl rfl rfl rfl ⟨rfl, rfl, rfl, rfl, rfl⟩ rfl rfl rfl rfl rfl kvNilFn Tryz.func3 kvNilClosed kvNilInst kvNilWrap
    (fun os started H enc _ => kvnil_lifted os started H enc)
#print axioms kvnil_holds
end Go.Proofs.YtojghbipoihboaaGreat
