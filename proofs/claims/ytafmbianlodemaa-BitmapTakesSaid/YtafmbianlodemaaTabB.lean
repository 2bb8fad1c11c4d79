/- THE TABLE: which function is which abstract code, and that all of it is sound. -/
import Derived.Test.YtafmbianlodemaaProg
import Derived.Test.YtafmbianlodemaaCodeBit
import Derived.Test.YtafmbianlodemaaRow
import Derived.KernelRfl
namespace Go.Abs
set_option linter.unusedVariables false
set_option linter.unusedSimpArgs false
set_option linter.unusedSectionVars false
open Go.Proofs
theorem law10_BitmapTells.made : compF Try.prog law10_BitmapTells.pol Try.f6 = some law10_BitmapTells.a := by kernel_rfl
theorem law10_BitmapTells.fine : fOk Try.f6 law10_BitmapTells.a = true := by kernel_rfl
theorem law10_BitmapTakes.made : compF Try.prog law10_BitmapTakes.pol Try.f7 = some law10_BitmapTakes.a := by kernel_rfl
theorem law10_BitmapTakes.fine : fOk Try.f7 law10_BitmapTakes.a = true := by kernel_rfl
theorem law10_BitmapBack.made : compF Try.prog law10_BitmapBack.pol Try.f8 = some law10_BitmapBack.a := by kernel_rfl
theorem law10_BitmapBack.fine : fOk Try.f8 law10_BitmapBack.a = true := by kernel_rfl
theorem law10_lives.made : compF Try.prog law10_lives.pol Try.f16 = some law10_lives.a := by kernel_rfl
theorem law10_lives.fine : fOk Try.f16 law10_lives.a = true := by kernel_rfl
theorem bitmap_Set.made : compF Try.prog bitmap_Set.pol Try.f17 = some bitmap_Set.a := by kernel_rfl
theorem bitmap_Set.fine : fOk Try.f17 bitmap_Set.a = true := by kernel_rfl
theorem ref10_Set.made : compF Try.prog ref10_Set.pol Try.f18 = some ref10_Set.a := by kernel_rfl
theorem ref10_Set.fine : fOk Try.f18 ref10_Set.a = true := by kernel_rfl
theorem bitmap_Used.made : compF Try.prog bitmap_Used.pol Try.f19 = some bitmap_Used.a := by kernel_rfl
theorem bitmap_Used.fine : fOk Try.f19 bitmap_Used.a = true := by kernel_rfl
theorem ref10_Used.made : compF Try.prog ref10_Used.pol Try.f20 = some ref10_Used.a := by kernel_rfl
theorem ref10_Used.fine : fOk Try.f20 ref10_Used.a = true := by kernel_rfl
theorem bitmap_Many.made : compF Try.prog bitmap_Many.pol Try.f21 = some bitmap_Many.a := by kernel_rfl
theorem bitmap_Many.fine : fOk Try.f21 bitmap_Many.a = true := by kernel_rfl
theorem ref10_Many.made : compF Try.prog ref10_Many.pol Try.f22 = some ref10_Many.a := by kernel_rfl
theorem ref10_Many.fine : fOk Try.f22 ref10_Many.a = true := by kernel_rfl
theorem bitmap_Lowest.made : compF Try.prog bitmap_Lowest.pol Try.f23 = some bitmap_Lowest.a := by kernel_rfl
theorem bitmap_Lowest.fine : fOk Try.f23 bitmap_Lowest.a = true := by kernel_rfl
theorem ref10_Lowest.made : compF Try.prog ref10_Lowest.pol Try.f24 = some ref10_Lowest.a := by kernel_rfl
theorem ref10_Lowest.fine : fOk Try.f24 ref10_Lowest.a = true := by kernel_rfl
theorem bitmap_Take.made : compF Try.prog bitmap_Take.pol Try.f25 = some bitmap_Take.a := by kernel_rfl
theorem bitmap_Take.fine : fOk Try.f25 bitmap_Take.a = true := by kernel_rfl
theorem bitmap_Give.made : compF Try.prog bitmap_Give.pol Try.f26 = some bitmap_Give.a := by kernel_rfl
theorem bitmap_Give.fine : fOk Try.f26 bitmap_Give.a = true := by kernel_rfl
theorem ref10_Give.made : compF Try.prog ref10_Give.pol Try.f27 = some ref10_Give.a := by kernel_rfl
theorem ref10_Give.fine : fOk Try.f27 ref10_Give.a = true := by kernel_rfl
theorem ref10_All.made : compF Try.prog ref10_All.pol Try.f28 = some ref10_All.a := by kernel_rfl
theorem ref10_All.fine : fOk Try.f28 ref10_All.a = true := by kernel_rfl
theorem ref10_Same.made : compF Try.prog ref10_Same.pol Try.f29 = some ref10_Same.a := by kernel_rfl
theorem ref10_Same.fine : fOk Try.f29 ref10_Same.a = true := by kernel_rfl
theorem bitmap_Spans.made : compF Try.prog bitmap_Spans.pol Try.f30 = some bitmap_Spans.a := by kernel_rfl
theorem bitmap_Spans.fine : fOk Try.f30 bitmap_Spans.a = true := by kernel_rfl
theorem ref10_Spans.made : compF Try.prog ref10_Spans.pol Try.f31 = some ref10_Spans.a := by kernel_rfl
theorem ref10_Spans.fine : fOk Try.f31 ref10_Spans.a = true := by kernel_rfl
theorem bitmap_is.made : compF Try.prog bitmap_is.pol Try.f37 = some bitmap_is.a := by kernel_rfl
theorem bitmap_is.fine : fOk Try.f37 bitmap_is.a = true := by kernel_rfl
theorem bitmap_page.made : compF Try.prog bitmap_page.pol Try.f38 = some bitmap_page.a := by kernel_rfl
theorem bitmap_page.fine : fOk Try.f38 bitmap_page.a = true := by kernel_rfl
theorem math_bits_OnesCount8.made : compF Try.prog math_bits_OnesCount8.pol Try.f39 = some math_bits_OnesCount8.a := by kernel_rfl
theorem math_bits_OnesCount8.fine : fOk Try.f39 math_bits_OnesCount8.a = true := by kernel_rfl
theorem bitmap_within.made : compF Try.prog bitmap_within.pol Try.f40 = some bitmap_within.a := by kernel_rfl
theorem bitmap_within.fine : fOk Try.f40 bitmap_within.a = true := by kernel_rfl
theorem bitmap_free.made : compF Try.prog bitmap_free.pol Try.f41 = some bitmap_free.a := by kernel_rfl
theorem bitmap_free.fine : fOk Try.f41 bitmap_free.a = true := by kernel_rfl
theorem ref10_Within.made : compF Try.prog ref10_Within.pol Try.f42 = some ref10_Within.a := by kernel_rfl
theorem ref10_Within.fine : fOk Try.f42 ref10_Within.a = true := by kernel_rfl
theorem ref10_Free.made : compF Try.prog ref10_Free.pol Try.f43 = some ref10_Free.a := by kernel_rfl
theorem ref10_Free.fine : fOk Try.f43 ref10_Free.a = true := by kernel_rfl
theorem bitmap_turn.made : compF Try.prog bitmap_turn.pol Try.f44 = some bitmap_turn.a := by kernel_rfl
theorem bitmap_turn.fine : fOk Try.f44 bitmap_turn.a = true := by kernel_rfl
theorem slices_Clip_2int_2int.made : compF Try.prog slices_Clip_2int_2int.pol Try.f45 = some slices_Clip_2int_2int.a := by kernel_rfl
theorem slices_Clip_2int_2int.fine : fOk Try.f45 slices_Clip_2int_2int.a = true := by kernel_rfl
theorem bitmap_turn_1.made : compF Try.prog bitmap_turn_1.pol Try.f46 = some bitmap_turn_1.a := by kernel_rfl
theorem bitmap_turn_1.fine : fOk Try.f46 bitmap_turn_1.a = true := by kernel_rfl
theorem mixed : Try.prog.follows .mixedOrders = true := by kernel_rfl
theorem nb {α : Type} {o : Option α} (h : o.isSome = true) : o ≠ none := by rintro rfl; simp at h
theorem ne_of_beq {a b : String} (h : (a == b) = false) : a ≠ b := by rintro rfl; simp at h
def NN : Nat := 1048576
def fl : List (Nat × AFun) := [(6, law10_BitmapTells.a), (7, law10_BitmapTakes.a), (8, law10_BitmapBack.a), (16, law10_lives.a), (17, bitmap_Set.a), (18, ref10_Set.a), (19, bitmap_Used.a), (20, ref10_Used.a), (21, bitmap_Many.a), (22, ref10_Many.a), (23, bitmap_Lowest.a), (24, ref10_Lowest.a), (25, bitmap_Take.a), (26, bitmap_Give.a), (27, ref10_Give.a), (28, ref10_All.a), (29, ref10_Same.a), (30, bitmap_Spans.a), (31, ref10_Spans.a), (37, bitmap_is.a), (38, bitmap_page.a), (39, math_bits_OnesCount8.a), (40, bitmap_within.a), (41, bitmap_free.a), (42, ref10_Within.a), (43, ref10_Free.a), (44, bitmap_turn.a), (45, slices_Clip_2int_2int.a), (46, bitmap_turn_1.a)]
def look : List (Nat × AFun) → Nat → Option AFun
  | [], _ => none
  | (n, a) :: l, f => bif Nat.beq n f then some a else look l f
def tab : Nat → CallF
  | 0 => fun _ _ _ => none
  | d + 1 => fun f args sg => match look fl f with
    | some af => evalF (tab d) NN af args sg
    | none => none

/-- A function that is what it is said to be. -/
def Fine (f : Nat) (af : AFun) : Prop := ∃ p fn, Try.prog.funcs[f]? = some fn ∧ compF Try.prog p fn = some af ∧ fOk fn af = true ∧ fn.body ≠ none ∧ fn.name ≠ "runtime.NumGoroutine"
theorem look_fine : ∀ {l : List (Nat × AFun)}, (∀ x ∈ l, Fine x.1 x.2) → ∀ {f : Nat} {af : AFun}, look l f = some af → Fine f af
  | [], _, f, af, h => by simp [look] at h
  | (n, a) :: l, hl, f, af, h => by
    simp only [look] at h
    cases hb : Nat.beq n f with
    | true =>
      rw [hb] at h
      simp only [cond_true, Option.some.injEq] at h
      subst h
      have := Nat.eq_of_beq_eq_true hb
      subst this
      exact hl (n, a) (by simp)
    | false =>
      rw [hb] at h
      exact look_fine (fun x hx => hl x (by simp [hx])) h
theorem fl_fine : ∀ x ∈ fl, Fine x.1 x.2 := by
  simp only [fl, List.forall_mem_cons, List.not_mem_nil, false_implies, implies_true, and_true]
  exact ⟨⟨_, _, Try.func6, law10_BitmapTells.made, law10_BitmapTells.fine, nb (by kernel_rfl), ne_of_beq (by kernel_rfl)⟩,
    ⟨_, _, Try.func7, law10_BitmapTakes.made, law10_BitmapTakes.fine, nb (by kernel_rfl), ne_of_beq (by kernel_rfl)⟩,
    ⟨_, _, Try.func8, law10_BitmapBack.made, law10_BitmapBack.fine, nb (by kernel_rfl), ne_of_beq (by kernel_rfl)⟩,
    ⟨_, _, Try.func16, law10_lives.made, law10_lives.fine, nb (by kernel_rfl), ne_of_beq (by kernel_rfl)⟩,
    ⟨_, _, Try.func17, bitmap_Set.made, bitmap_Set.fine, nb (by kernel_rfl), ne_of_beq (by kernel_rfl)⟩,
    ⟨_, _, Try.func18, ref10_Set.made, ref10_Set.fine, nb (by kernel_rfl), ne_of_beq (by kernel_rfl)⟩,
    ⟨_, _, Try.func19, bitmap_Used.made, bitmap_Used.fine, nb (by kernel_rfl), ne_of_beq (by kernel_rfl)⟩,
    ⟨_, _, Try.func20, ref10_Used.made, ref10_Used.fine, nb (by kernel_rfl), ne_of_beq (by kernel_rfl)⟩,
    ⟨_, _, Try.func21, bitmap_Many.made, bitmap_Many.fine, nb (by kernel_rfl), ne_of_beq (by kernel_rfl)⟩,
    ⟨_, _, Try.func22, ref10_Many.made, ref10_Many.fine, nb (by kernel_rfl), ne_of_beq (by kernel_rfl)⟩,
    ⟨_, _, Try.func23, bitmap_Lowest.made, bitmap_Lowest.fine, nb (by kernel_rfl), ne_of_beq (by kernel_rfl)⟩,
    ⟨_, _, Try.func24, ref10_Lowest.made, ref10_Lowest.fine, nb (by kernel_rfl), ne_of_beq (by kernel_rfl)⟩,
    ⟨_, _, Try.func25, bitmap_Take.made, bitmap_Take.fine, nb (by kernel_rfl), ne_of_beq (by kernel_rfl)⟩,
    ⟨_, _, Try.func26, bitmap_Give.made, bitmap_Give.fine, nb (by kernel_rfl), ne_of_beq (by kernel_rfl)⟩,
    ⟨_, _, Try.func27, ref10_Give.made, ref10_Give.fine, nb (by kernel_rfl), ne_of_beq (by kernel_rfl)⟩,
    ⟨_, _, Try.func28, ref10_All.made, ref10_All.fine, nb (by kernel_rfl), ne_of_beq (by kernel_rfl)⟩,
    ⟨_, _, Try.func29, ref10_Same.made, ref10_Same.fine, nb (by kernel_rfl), ne_of_beq (by kernel_rfl)⟩,
    ⟨_, _, Try.func30, bitmap_Spans.made, bitmap_Spans.fine, nb (by kernel_rfl), ne_of_beq (by kernel_rfl)⟩,
    ⟨_, _, Try.func31, ref10_Spans.made, ref10_Spans.fine, nb (by kernel_rfl), ne_of_beq (by kernel_rfl)⟩,
    ⟨_, _, Try.func37, bitmap_is.made, bitmap_is.fine, nb (by kernel_rfl), ne_of_beq (by kernel_rfl)⟩,
    ⟨_, _, Try.func38, bitmap_page.made, bitmap_page.fine, nb (by kernel_rfl), ne_of_beq (by kernel_rfl)⟩,
    ⟨_, _, Try.func39, math_bits_OnesCount8.made, math_bits_OnesCount8.fine, nb (by kernel_rfl), ne_of_beq (by kernel_rfl)⟩,
    ⟨_, _, Try.func40, bitmap_within.made, bitmap_within.fine, nb (by kernel_rfl), ne_of_beq (by kernel_rfl)⟩,
    ⟨_, _, Try.func41, bitmap_free.made, bitmap_free.fine, nb (by kernel_rfl), ne_of_beq (by kernel_rfl)⟩,
    ⟨_, _, Try.func42, ref10_Within.made, ref10_Within.fine, nb (by kernel_rfl), ne_of_beq (by kernel_rfl)⟩,
    ⟨_, _, Try.func43, ref10_Free.made, ref10_Free.fine, nb (by kernel_rfl), ne_of_beq (by kernel_rfl)⟩,
    ⟨_, _, Try.func44, bitmap_turn.made, bitmap_turn.fine, nb (by kernel_rfl), ne_of_beq (by kernel_rfl)⟩,
    ⟨_, _, Try.func45, slices_Clip_2int_2int.made, slices_Clip_2int_2int.fine, nb (by kernel_rfl), ne_of_beq (by kernel_rfl)⟩,
    ⟨_, _, Try.func46, bitmap_turn_1.made, bitmap_turn_1.fine, nb (by kernel_rfl), ne_of_beq (by kernel_rfl)⟩⟩
theorem tab_sound : ∀ d, SoundC Try.prog (tab d)
  | 0 => fun f args sg out h => by simp [tab] at h
  | d + 1 => fun f args sg out h => by
    simp only [tab] at h
    split at h
    · rename_i af hf
      obtain ⟨p, fn, h1, h2, h3, h4, h5⟩ := look_fine fl_fine hf
      exact ⟨⟨fn, h1, h4, h5⟩, eval_ok (tab_sound d) mixed h1 h2 h3 h⟩
    · cases h
end Go.Abs
