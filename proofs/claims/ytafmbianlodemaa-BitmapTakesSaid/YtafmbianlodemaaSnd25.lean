/- THE ENGINE, part 28: what an instruction writes. -/
import Derived.Test.YtafmbianlodemaaSnd24
namespace Go.Abs
set_option linter.unusedVariables false
set_option linter.unusedSimpArgs false
set_option linter.unusedSectionVars false

def inR (W : List Res) (r : Res) : Bool := match W with
  | [] => false
  | x :: l => bif r.is x then true else inR l r
theorem inR_iff {W : List Res} {r : Res} : inR W r = true ↔ r ∈ W := by
  induction W with
  | nil => simp [inR]
  | cons x l ih =>
    simp only [inR]
    cases h : r.is x with
    | true => simp [Res.is_iff.1 h]
    | false =>
      have : r ≠ x := by rintro rfl; rw [Res.is_iff.2 rfl] at h; cases h
      simp [ih, this]

def goodU (W : List Res) : List (Res × RVal) → Bool
  | [] => true
  | (r, _) :: us => inR W r && goodU W us
def good (W : List Res) : Step → Bool
  | .go us => goodU W us
  | .pan _ _ => true

theorem goodU_mono {W W' : List Res} (h : ∀ r ∈ W, r ∈ W') : ∀ {us}, goodU W us = true → goodU W' us = true
  | [], _ => rfl
  | (r, x) :: us, hu => by
    simp only [goodU, Bool.and_eq_true] at hu ⊢
    exact ⟨inR_iff.2 (h _ (inR_iff.1 hu.1)), goodU_mono h hu.2⟩
theorem goodU_mem {W : List Res} : ∀ {us : List (Res × RVal)}, goodU W us = true → ∀ u ∈ us, u.1 ∈ W
  | (r, x) :: us, hu, u, hm => by
    simp only [goodU, Bool.and_eq_true] at hu
    rcases List.mem_cons.1 hm with rfl | hm
    · exact inR_iff.1 hu.1
    · exact goodU_mem hu.2 u hm

theorem goodU_dst (d : Option Nat) (s : Slot) : goodU (ds d) (dstU d s) = true := by
  cases d with
  | none => rfl
  | some d => simp [goodU, dstU, inR, ds, Res.is]
theorem good_dst (d : Option Nat) (s : Slot) : good (ds d) (.go (dstU d s)) = true := goodU_dst d s
theorem good_cons (r : Res) (x : RVal) (d : Option Nat) (s : Slot) : good (r :: ds d) (.go ((r, x) :: dstU d s)) = true := by
  simp only [good, goodU, Bool.and_eq_true]
  exact ⟨inR_iff.2 (by simp), goodU_mono (fun _ h => List.mem_cons_of_mem _ h) (goodU_dst d s)⟩
theorem good_box (d : Nat) (x y : RVal) : good (dl (some d) ++ ds (some d)) (.go [(.l d, x), (.s d, y)]) = true := by
  simp [good, goodU, inR, dl, ds, Res.is]
theorem good_pan (W : List Res) (v : AVal) (sg : Sg) : good W (.pan v sg) = true := rfl
theorem good_l (r : Nat) (x : RVal) (d : Option Nat) : good (rroot (some r) ++ ds d) (.go [(.l r, x)]) = true := by
  simp [good, goodU, inR, rroot, Res.is]
theorem good_g (x : RVal) (d : Option Nat) : good (rroot none ++ ds d) (.go [(.g, x)]) = true := by
  simp [good, goodU, inR, rroot, Res.is]

theorem withBox_root {α : Type} (st : St) (r : Option Nat) (s : Slot) (c : Box → Nat → Option Nat → Option α) : withBox st r s c = withBox st r s fun B off _ => c B off r := by
  unfold withBox; split <;> rfl

theorem sem_good {α : Type} (C : CallF) (d : Option Nat) (o : AOp) (st : St) (c : Step → Option α) : sem C d o st (fun s => bif good (writesOf d o) s then c s else none) = sem C d o st c := by
  cases o with
  | store n r a x =>
    simp only [sem, writesOf]
    rw [withBox_root]; conv => rhs; rw [withBox_root]
    cases r with
    | none => simp only [good_g, cond_true]
    | some r => simp only [good_l, cond_true]
  | boxL x => cases d with
    | none => rfl
    | some d => simp only [sem, writesOf, good_box, cond_true]
  | allocL x => cases d with
    | none => rfl
    | some d => simp only [sem, writesOf, good_box, cond_true]
  | toBytes x => cases d with
    | none => rfl
    | some d => simp only [sem, writesOf, good_box, cond_true]
  | _ => simp only [sem, writesOf, good_dst, good_cons, good_pan, cond_true]

/-- An instruction's step: it looks at what it reads alone, and writes what it writes alone. -/
theorem sem_step {α : Type} {C : CallF} {d : Option Nat} {o : AOp} {st : St} {c : Step → Option α} {out : α} (h : sem C d o st c = some out) :
    ∃ s, c s = some out ∧ good (writesOf d o) s = true ∧ ∀ (st' : St), Agree (readsOf d o) st st' → ∀ {β : Type} (c' : Step → Option β), sem C d o st' c' = c' s := by
  have h1 : ∀ {β : Type} (c' : Step → Option β), sem C d o st c' = (sem C d o st some).bind c' := fun c' => by rw [sem_bind]; rfl
  have h2 := h
  rw [h1] at h2
  cases hs : sem C d o st some with
  | none => rw [hs] at h2; cases h2
  | some s =>
    rw [hs] at h2
    refine ⟨s, h2, ?_, fun st' hag β c' => ?_⟩
    · have := sem_good C d o st (some : Step → Option Step)
      rw [h1, hs] at this
      simp only [Option.bind_some] at this
      cases hg : good (writesOf d o) s with
      | true => rfl
      | false => rw [hg] at this; cases this
    · rw [sem_congr d o c' hag, h1, hs]; rfl
end Go.Abs
