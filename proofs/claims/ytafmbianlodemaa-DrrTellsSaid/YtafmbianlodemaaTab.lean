/- THE TABLE: which function is which abstract code, and that all of it is sound. -/
import Derived.Test.YtafmbianlodemaaProg
import Derived.Test.YtafmbianlodemaaCodeDrr
import Derived.Test.YtafmbianlodemaaRow
import Derived.KernelRfl
namespace Go.Abs
set_option linter.unusedVariables false
set_option linter.unusedSimpArgs false
set_option linter.unusedSectionVars false
open Go.Proofs
theorem law26_DrrTells.made : compF Try.prog law26_DrrTells.pol Try.f3 = some law26_DrrTells.a := by kernel_rfl
theorem law26_DrrTells.fine : fOk Try.f3 law26_DrrTells.a = true := by kernel_rfl
theorem law26_DrrFair.made : compF Try.prog law26_DrrFair.pol Try.f4 = some law26_DrrFair.a := by kernel_rfl
theorem law26_DrrFair.fine : fOk Try.f4 law26_DrrFair.a = true := by kernel_rfl
theorem law26_DrrNobody.made : compF Try.prog law26_DrrNobody.pol Try.f5 = some law26_DrrNobody.a := by kernel_rfl
theorem law26_DrrNobody.fine : fOk Try.f5 law26_DrrNobody.a = true := by kernel_rfl
theorem drr_Next.made : compF Try.prog drr_Next.pol Try.f9 = some drr_Next.a := by kernel_rfl
theorem drr_Next.fine : fOk Try.f9 drr_Next.a = true := by kernel_rfl
theorem law26_ours.made : compF Try.prog law26_ours.pol Try.f10 = some law26_ours.a := by kernel_rfl
theorem law26_ours.fine : fOk Try.f10 law26_ours.a = true := by kernel_rfl
theorem ref26_Next.made : compF Try.prog ref26_Next.pol Try.f11 = some ref26_Next.a := by kernel_rfl
theorem ref26_Next.fine : fOk Try.f11 ref26_Next.a = true := by kernel_rfl
theorem drr_New.made : compF Try.prog drr_New.pol Try.f12 = some drr_New.a := by kernel_rfl
theorem drr_New.fine : fOk Try.f12 drr_New.a = true := by kernel_rfl
theorem ref26_Right.made : compF Try.prog ref26_Right.pol Try.f13 = some ref26_Right.a := by kernel_rfl
theorem ref26_Right.fine : fOk Try.f13 ref26_Right.a = true := by kernel_rfl
theorem law26_lives.made : compF Try.prog law26_lives.pol Try.f14 = some law26_lives.a := by kernel_rfl
theorem law26_lives.fine : fOk Try.f14 law26_lives.a = true := by kernel_rfl
theorem drr_Check.made : compF Try.prog drr_Check.pol Try.f15 = some drr_Check.a := by kernel_rfl
theorem drr_Check.fine : fOk Try.f15 drr_Check.a = true := by kernel_rfl
theorem drr_Turns_some.made : compF Try.prog drr_Turns_some.pol Try.f32 = some drr_Turns_some.a := by kernel_rfl
theorem drr_Turns_some.fine : fOk Try.f32 drr_Turns_some.a = true := by kernel_rfl
theorem drr_Turns_cost.made : compF Try.prog drr_Turns_cost.pol Try.f33 = some drr_Turns_cost.a := by kernel_rfl
theorem drr_Turns_cost.fine : fOk Try.f33 drr_Turns_cost.a = true := by kernel_rfl
theorem drr_Turns_move.made : compF Try.prog drr_Turns_move.pol Try.f34 = some drr_Turns_move.a := by kernel_rfl
theorem drr_Turns_move.fine : fOk Try.f34 drr_Turns_move.a = true := by kernel_rfl
theorem ref26_Cost.made : compF Try.prog ref26_Cost.pol Try.f35 = some ref26_Cost.a := by kernel_rfl
theorem ref26_Cost.fine : fOk Try.f35 ref26_Cost.a = true := by kernel_rfl
theorem drr_Turns_most.made : compF Try.prog drr_Turns_most.pol Try.f36 = some drr_Turns_most.a := by kernel_rfl
theorem drr_Turns_most.fine : fOk Try.f36 drr_Turns_most.a = true := by kernel_rfl
theorem mixed : Try.prog.follows .mixedOrders = true := by kernel_rfl
theorem nb {α : Type} {o : Option α} (h : o.isSome = true) : o ≠ none := by rintro rfl; simp at h
theorem ne_of_beq {a b : String} (h : (a == b) = false) : a ≠ b := by rintro rfl; simp at h
def NN : Nat := 1048576
def fl : List (Nat × AFun) := [(3, law26_DrrTells.a), (4, law26_DrrFair.a), (5, law26_DrrNobody.a), (9, drr_Next.a), (10, law26_ours.a), (11, ref26_Next.a), (12, drr_New.a), (13, ref26_Right.a), (14, law26_lives.a), (15, drr_Check.a), (32, drr_Turns_some.a), (33, drr_Turns_cost.a), (34, drr_Turns_move.a), (35, ref26_Cost.a), (36, drr_Turns_most.a)]
def look : List (Nat × AFun) → Nat → Option AFun
  | [], _ => none
  | (n, a) :: l, f => bif Nat.beq n f then some a else look l f
def tab : Nat → CallF
  | 0 => fun _ _ _ => none
  | d + 1 => fun f args sg => match look fl f with
    | some af => evalF (tab d) NN af args sg
    | none => none

/-- A function that is what it is said to be. -/
def Fine (f : Nat) (af : AFun) : Prop := ∃ p fn, Try.prog.funcs[f]? = some fn ∧ compF Try.prog p fn = some af ∧ fOk fn af = true ∧ fn.body ≠ none ∧ fn.name ≠ "runtime.NumGoroutine"
theorem look_fine : ∀ {l : List (Nat × AFun)}, (∀ x ∈ l, Fine x.1 x.2) → ∀ {f : Nat} {af : AFun}, look l f = some af → Fine f af
  | [], _, f, af, h => by simp [look] at h
  | (n, a) :: l, hl, f, af, h => by
    simp only [look] at h
    cases hb : Nat.beq n f with
    | true =>
      rw [hb] at h
      simp only [cond_true, Option.some.injEq] at h
      subst h
      have := Nat.eq_of_beq_eq_true hb
      subst this
      exact hl (n, a) (by simp)
    | false =>
      rw [hb] at h
      exact look_fine (fun x hx => hl x (by simp [hx])) h
theorem fl_fine : ∀ x ∈ fl, Fine x.1 x.2 := by
  simp only [fl, List.forall_mem_cons, List.not_mem_nil, false_implies, implies_true, and_true]
  exact ⟨⟨_, _, Try.func3, law26_DrrTells.made, law26_DrrTells.fine, nb (by kernel_rfl), ne_of_beq (by kernel_rfl)⟩,
    ⟨_, _, Try.func4, law26_DrrFair.made, law26_DrrFair.fine, nb (by kernel_rfl), ne_of_beq (by kernel_rfl)⟩,
    ⟨_, _, Try.func5, law26_DrrNobody.made, law26_DrrNobody.fine, nb (by kernel_rfl), ne_of_beq (by kernel_rfl)⟩,
    ⟨_, _, Try.func9, drr_Next.made, drr_Next.fine, nb (by kernel_rfl), ne_of_beq (by kernel_rfl)⟩,
    ⟨_, _, Try.func10, law26_ours.made, law26_ours.fine, nb (by kernel_rfl), ne_of_beq (by kernel_rfl)⟩,
    ⟨_, _, Try.func11, ref26_Next.made, ref26_Next.fine, nb (by kernel_rfl), ne_of_beq (by kernel_rfl)⟩,
    ⟨_, _, Try.func12, drr_New.made, drr_New.fine, nb (by kernel_rfl), ne_of_beq (by kernel_rfl)⟩,
    ⟨_, _, Try.func13, ref26_Right.made, ref26_Right.fine, nb (by kernel_rfl), ne_of_beq (by kernel_rfl)⟩,
    ⟨_, _, Try.func14, law26_lives.made, law26_lives.fine, nb (by kernel_rfl), ne_of_beq (by kernel_rfl)⟩,
    ⟨_, _, Try.func15, drr_Check.made, drr_Check.fine, nb (by kernel_rfl), ne_of_beq (by kernel_rfl)⟩,
    ⟨_, _, Try.func32, drr_Turns_some.made, drr_Turns_some.fine, nb (by kernel_rfl), ne_of_beq (by kernel_rfl)⟩,
    ⟨_, _, Try.func33, drr_Turns_cost.made, drr_Turns_cost.fine, nb (by kernel_rfl), ne_of_beq (by kernel_rfl)⟩,
    ⟨_, _, Try.func34, drr_Turns_move.made, drr_Turns_move.fine, nb (by kernel_rfl), ne_of_beq (by kernel_rfl)⟩,
    ⟨_, _, Try.func35, ref26_Cost.made, ref26_Cost.fine, nb (by kernel_rfl), ne_of_beq (by kernel_rfl)⟩,
    ⟨_, _, Try.func36, drr_Turns_most.made, drr_Turns_most.fine, nb (by kernel_rfl), ne_of_beq (by kernel_rfl)⟩⟩
theorem tab_sound : ∀ d, SoundC Try.prog (tab d)
  | 0 => fun f args sg out h => by simp [tab] at h
  | d + 1 => fun f args sg out h => by
    simp only [tab] at h
    split at h
    · rename_i af hf
      obtain ⟨p, fn, h1, h2, h3, h4, h5⟩ := look_fine fl_fine hf
      exact ⟨⟨fn, h1, h4, h5⟩, eval_ok (tab_sound d) mixed h1 h2 h3 h⟩
    · cases h
end Go.Abs
