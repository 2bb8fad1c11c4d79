/- Equality of stores, as a test. -/
import Derived.Test.YtojghbipoihboaaGreatOvProof
set_option linter.unusedVariables false
set_option linter.unusedSimpArgs false
set_option linter.unusedSectionVars false
namespace Go.Abs
def zs : Nat → List UInt8
  | 0 => []
  | n + 1 => 0 :: zs n
def zb (l : List UInt8) (n : Nat) : ByteArray := ⟨⟨l ++ zs n⟩⟩
def eqEs : List (AVal × AVal) → List (AVal × AVal) → Bool
  | [], [] => true
  | (a, b) :: l, (c, d) :: m => eqA a c && (eqA b d && eqEs l m)
  | _, _ => false
def eqBox : Box → Box → Bool
  | .mk a, .mk b => eqAs a b
  | .tmk t e a, .tmk t' e' b => Nat.beq t t' && (e == e' && eqAs a b)
  | .map a, .map b => eqEs a b
  | _, _ => false
def eqSg : Sg → Sg → Bool
  | [], [] => true
  | a :: l, b :: m => eqBox a b && eqSg l m
  | _, _ => false
theorem eqEs_eq : ∀ {a b : List (AVal × AVal)}, eqEs a b = true → a = b
  | [], [], _ => rfl
  | [], _ :: _, h => by simp [eqEs] at h
  | _ :: _, [], h => by simp [eqEs] at h
  | (a, b) :: l, (c, d) :: m, h => by
    simp only [eqEs, Bool.and_eq_true] at h
    rw [eqA_eq h.1, eqA_eq h.2.1, eqEs_eq h.2.2]
theorem eqBox_eq {a b : Box} (h : eqBox a b = true) : a = b := by
  unfold eqBox at h
  split at h
  · rw [eqAs_eq h]
  · simp only [Bool.and_eq_true, beq_iff_eq] at h
    rw [Nat.eq_of_beq_eq_true h.1, h.2.1, eqAs_eq h.2.2]
  · rw [eqEs_eq h]
  · cases h
theorem eqSg_eq : ∀ {a b : Sg}, eqSg a b = true → a = b
  | [], [], _ => rfl
  | [], _ :: _, h => by simp [eqSg] at h
  | _ :: _, [], h => by simp [eqSg] at h
  | a :: l, b :: m, h => by
    simp only [eqSg, Bool.and_eq_true] at h
    rw [eqBox_eq h.1, eqSg_eq h.2]
theorem bif_or {α : Type} {c : Bool} {a b : α} {x : α} (h : (bif c then a else b) = x) : (c = true ∧ a = x) ∨ (c = false ∧ b = x) := by
  cases c
  · exact .inr ⟨rfl, h⟩
  · exact .inl ⟨rfl, h⟩
end Go.Abs
