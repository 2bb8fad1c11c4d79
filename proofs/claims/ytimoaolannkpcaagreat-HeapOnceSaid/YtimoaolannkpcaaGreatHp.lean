/- Looking and writing in the common store: what the residuals' words come to. -/
import Derived.Test.YtimoaolannkpcaaGreatEngC
set_option linter.unusedVariables false
set_option linter.unusedSimpArgs false
set_option linter.unusedSectionVars false
namespace Go.Abs
open Go
theorem wO {α β : Type} (a : β) (c : β → Option α) : withO (some a) c = c a := rfl
theorem wA {α : Type} (a : AVal) (c : AVal → Option α) : withA (some a) c = c a := rfl
theorem wS {α : Type} (a : ByteArray) (c : ByteArray → Option α) : withS (some (.at (.string a))) c = c a := rfl
theorem wB {α : Type} (a : Bool) (c : Bool → Option α) : withB (some (.at (.bool a))) c = c a := rfl
theorem wI {α : Type} (k : IntKind) (a : Int) (c : Int → Option α) : withI k (some (.at (.int k a))) c = c a := by simp only [withI]; cases k <;> rfl
theorem withO_none {α β : Type} (c : β → Option α) : withO none c = none := rfl
theorem withOut_ret {α : Type} (v : AVal) (sg : Sg) (c d : AVal → Sg → Option α) : withOut (some (.ret v sg)) c d = c v sg := rfl
theorem withOut_pan {α : Type} (v : AVal) (sg : Sg) (c d : AVal → Sg → Option α) : withOut (some (.pan v sg)) c d = d v sg := rfl
theorem ne_nil_of_len {α : Type} {l : List α} (h : 0 < l.length) : l.isEmpty = false := by cases l <;> simp_all
theorem loadC_gp {sg : Sg} {g o : Nat} {B : Box} (h : sg[g]? = some B) (h0 : 0 < B.cells.length) : loadC none sg (.gp g o) = some (B.cells, o) := by
  simp only [loadC, h, withO, ne_nil_of_len h0, cond_false]
theorem storeG_gp {sg : Sg} {g o n : Nat} {B : Box} {v : AVal} (h : sg[g]? = some B) (hv : v.cells.length = n) (ho : o + n ≤ B.cells.length) (h0 : 0 < B.cells.length) :
    storeG none sg (.gp g o) n v = some (sg.set g (.mk (splice B.cells o v.cells))) := by
  have e1 : Nat.beq v.cells.length n = true := by rw [hv]; exact Nat.beq_refl n
  simp only [storeG, h, withO, ne_nil_of_len h0, cond_false, e1, Nat.ble_eq_true_of_le ho, cond_true, bindL]
theorem elemV_gs {g sz o len : Nat} {n : Int} (h0 : 0 ≤ n) (h1 : n < len) : elemV sz n (.gs g sz o len) = some (.gp g (o + n.toNat * sz)) := by
  simp only [elemV, Nat.beq_refl, cond_true, if_pos (And.intro h0 h1)]
theorem flatG_gs {sg : Sg} {g sz o n : Nat} {B : Box} (h : sg[g]? = some B) (h1 : o + n * sz ≤ B.cells.length) (h0 : 0 < B.cells.length) :
    flatG sg sz (.gs g sz o n) = some (n, (B.cells.drop o).take (n * sz)) := by
  have e : (Nat.ble (o + n * sz) B.cells.length && Nat.blt 0 B.cells.length) = true := by
    rw [Nat.ble_eq_true_of_le h1]; exact Nat.ble_eq_true_of_le h0
  simp only [flatG, Nat.beq_refl, cond_true, h, e]
theorem flatG_nil {sg : Sg} {sz : Nat} {nn : Bool} : flatG sg sz (.sl nn sz []) = some (0, []) := by simp [flatG, flatA]
theorem app1_nil {ty : Option TypeId} {esz bytes sz m : Nat} {sg : Sg} {fl : List AVal} : app1 ty esz bytes sg (.sl true sz []) m fl = some (.gs sg.length esz 0 m, sg ++ [boxT ty fl]) := rfl
theorem app1_gs {esz bytes n m g : Nat} {sg : Sg} {fl : List AVal} {B : Box} (h : sg[g]? = some B) (ht : okT none B = true) (hl : B.cells.length = n * esz) (h0 : 0 < B.cells.length) (hb : (n + m) * bytes ≤ 35184372088832) :
    app1 none esz bytes sg (.gs g esz 0 n) m fl = some (.gs sg.length esz 0 (n + m), sg.set g (.mk []) ++ [boxT none (B.cells ++ fl)]) := by
  have e : (okT none B && (Nat.beq B.cells.length (n * esz) && Nat.blt 0 B.cells.length)) = true := by
    rw [ht, hl, Nat.beq_refl]; rw [hl] at h0; exact Nat.ble_eq_true_of_le h0
  have e2 : (Nat.beq esz esz && Nat.beq 0 0) = true := by rw [Nat.beq_refl]; rfl
  simp only [app1, e2, cond_true, h, withO, e, if_pos hb]
end Go.Abs
