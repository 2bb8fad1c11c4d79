/- The law's arguments, read: a list of transactions. -/
import Derived.Test.YtimoaolannkpcaaGreatProg
import Derived.Test.YtimoaolannkpcaaGreatEngC
import Derived.Test.YtimoaolannkpcaaGreatLwL
set_option linter.unusedVariables false
set_option linter.unusedSimpArgs false
set_option linter.unusedSectionVars false
namespace Go.Abs
open Go Go.Proofs
set_option linter.unusedVariables false
set_option maxRecDepth 100000
theorem c3 : Tryz.prog.cellsOf 3 = 1 := by kernel_rfl
theorem c4 : Tryz.prog.cellsOf 4 = 1 := by kernel_rfl
theorem c5 : Tryz.prog.cellsOf 5 = 1 := by kernel_rfl
theorem c29 : Tryz.prog.cellsOf 29 = 1 := by kernel_rfl
theorem c31 : Tryz.prog.cellsOf 31 = 3 := by kernel_rfl
theorem c39 : Tryz.prog.cellsOf 39 = 4 := by kernel_rfl
theorem g31 : (isAggT Tryz.prog 31 == some true) = true := by kernel_rfl
theorem g39 : (isAggT Tryz.prog 39 == some true) = true := by kernel_rfl
theorem sh22 : shOk Tryz.prog 20 22 = true := by kernel_rfl
theorem sh_int {m : Nat} {l : List AVal} (h : Sh Tryz.prog (m + 1) 3 l) : ∃ n, l = [vI n] := by
  unfold Sh at h
  simp only [Tryz.underlying3] at h
  obtain ⟨n, rfl, _⟩ := h
  exact ⟨n, rfl⟩
theorem sh_u8 {m : Nat} {l : List AVal} (h : Sh Tryz.prog (m + 1) 5 l) : ∃ n, l = [v8 n] := by
  unfold Sh at h
  simp only [Tryz.underlying5] at h
  obtain ⟨n, rfl, _⟩ := h
  exact ⟨n, rfl⟩
theorem sh_bool {m : Nat} {l : List AVal} (h : Sh Tryz.prog (m + 1) 4 l) : ∃ b, l = [vB b] := by
  unfold Sh at h
  simp only [Tryz.underlying4] at h
  exact h
theorem act_of {m : Nat} {cs : List AVal} (h : Sh Tryz.prog (m + 2) 39 cs) : ∃ a : PAct, cs = actC a := by
  unfold Sh at h
  simp only [Tryz.underlying39, c39] at h
  obtain ⟨hl, hf⟩ := h
  match cs, hl with
  | [x0, x1, x2, x3], _ =>
    have h0 := hf { name := "Kind", type := 3, offset := 0, embedded := false, tag := "", pkgPath := "", byteOffset := 0 } (by simp)
    have h1 := hf { name := "N", type := 3, offset := 1, embedded := false, tag := "", pkgPath := "", byteOffset := 8 } (by simp)
    have h2 := hf { name := "Byte", type := 5, offset := 2, embedded := false, tag := "", pkgPath := "", byteOffset := 16 } (by simp)
    have h3 := hf { name := "Short", type := 4, offset := 3, embedded := false, tag := "", pkgPath := "", byteOffset := 17 } (by simp)
    simp only [c3, c4, c5] at h0 h1 h2 h3
    obtain ⟨n0, e0⟩ := sh_int h0
    obtain ⟨n1, e1⟩ := sh_int h1
    obtain ⟨n2, e2⟩ := sh_u8 h2
    obtain ⟨b3, e3⟩ := sh_bool h3
    simp at e0 e1 e2 e3
    subst e0 e1 e2 e3
    exact ⟨⟨n0, n1, n2, b3⟩, rfl⟩
theorem list_of {α : Type} {S : List AVal → Prop} {f : α → List AVal} {Q : α → Prop} {sz : Nat} {a : AVal} (hS : ∀ cs, S cs → ∃ x, cs = f x ∧ Q x) (h : ShSl S true sz a) : ∃ l : List α, LsV sz a (l.map f) ∧ ∀ x, x ∈ l → Q x := by
  rcases h with rfl | ⟨L, rfl, _, hL⟩ | ⟨x, cap, rfl⟩
  · exact ⟨[], .inl ⟨true, rfl⟩, by simp⟩
  · have key : ∀ L : List (List AVal), (∀ cs, cs ∈ L → S cs ∧ cs.length = sz) → ∃ l : List α, L = l.map f ∧ ∀ x, x ∈ l → Q x := by
      intro L
      induction L with
      | nil => intro _; exact ⟨[], rfl, by simp⟩
      | cons c L ih =>
        intro hL
        obtain ⟨l, e, hq⟩ := ih fun cs hcs => hL cs (by simp [hcs])
        obtain ⟨x, ex, hx⟩ := hS c (hL c (by simp)).1
        refine ⟨x :: l, by rw [e, ex]; rfl, fun y hy => ?_⟩
        rcases List.mem_cons.1 hy with rfl | hy
        · exact hx
        · exact hq y hy
    obtain ⟨l, e, hq⟩ := key L hL
    refine ⟨l, .inl ⟨false, ?_⟩, hq⟩
    rw [← e]; rfl
  · exact ⟨[], .inr ⟨rfl, x, cap, rfl⟩, by simp⟩
theorem txn_of {m : Nat} {cs : List AVal} (h : Sh Tryz.prog (m + 4) 31 cs) : ∃ t : PTxn, cs = txnC t ∧ LsV 4 t.av (t.acts.map actC) := by
  unfold Sh at h
  simp only [Tryz.underlying31, c31] at h
  obtain ⟨hl, hf⟩ := h
  match cs, hl with
  | [x0, x1, x2], _ =>
    have h0 := hf { name := "Kind", type := 3, offset := 0, embedded := false, tag := "", pkgPath := "", byteOffset := 0 } (by simp)
    have h1 := hf { name := "Acts", type := 29, offset := 1, embedded := false, tag := "", pkgPath := "", byteOffset := 8 } (by simp)
    have h2 := hf { name := "N", type := 3, offset := 2, embedded := false, tag := "", pkgPath := "", byteOffset := 32 } (by simp)
    simp only [c3, c29] at h0 h1 h2
    obtain ⟨n0, e0⟩ := sh_int h0
    obtain ⟨n2, e2⟩ := sh_int h2
    simp at e0 e2
    subst e0 e2
    unfold Sh at h1
    simp only [Tryz.underlying29, c39, g39] at h1
    obtain ⟨av, e1, hs⟩ := h1
    simp at e1
    subst e1
    obtain ⟨l, hl, _⟩ := list_of (f := actC) (Q := fun _ => True) (fun cs hc => by obtain ⟨x, hx⟩ := act_of hc; exact ⟨x, hx, trivial⟩) hs
    exact ⟨⟨n0, x1, l, n2⟩, rfl, hl⟩
theorem arg_of {a : AVal} (h : ShSl (Sh Tryz.prog 19 31) (isAggT Tryz.prog 31 == some true) (Tryz.prog.cellsOf 31) a) : ∃ l : List PTxn, LsV 3 a (l.map txnC) ∧ ∀ t, t ∈ l → LsV 4 t.av (t.acts.map actC) := by
  rw [g31, c31] at h
  exact list_of (fun cs hc => txn_of hc) h
end Go.Abs
