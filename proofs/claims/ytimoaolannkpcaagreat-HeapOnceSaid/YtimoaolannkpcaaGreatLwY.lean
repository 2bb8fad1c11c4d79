/- What a transaction does to what the law keeps of it. -/
import Derived.Test.YtimoaolannkpcaaGreatLwX
set_option linter.unusedVariables false
set_option linter.unusedSimpArgs false
set_option linter.unusedSectionVars false
namespace Go.Abs
open Go
set_option linter.unusedVariables false
set_option maxRecDepth 100000
/-- The law's books: what was put, which pages are in use. -/
structure TxI (n : Nat) (pgs : List ByteArray) (over put : List (Int × ByteArray)) (met : List (Int × Unit)) : Prop where
  ov : OvOk n over
  nd : (met.map (·.1)).Nodup
  mt : ∀ x : Int, x ∈ met.map (·.1) ↔ (2 ≤ x ∧ x < (n : Int)) ∧ usedS (cur over pgs 1) x = true
  pt : ∀ i : Int, i ≠ 1 → lk i put = lk i over
theorem keys_del {α : Type} {k x : Int} {l : List (Int × α)} (h : (l.map (·.1)).Nodup) : x ∈ (delM k l).map (·.1) ↔ x ≠ k ∧ x ∈ l.map (·.1) := by
  have h1 := lk_del k x h
  have h2 := lk_none (j := x) (l := delM k l)
  have h3 := lk_none (j := x) (l := l)
  by_cases he : x = k
  · rw [if_pos he] at h1
    simp [he, (he ▸ h2.1 h1)]
  · rw [if_neg he] at h1
    rw [h1] at h2
    simp only [he, ne_eq, not_false_eq_true, true_and]
    exact ⟨fun hm => Classical.byContradiction fun hn => (h2.1 (h3.2 hn)) hm, fun hm => Classical.byContradiction fun hn => (h3.1 (h2.2 hn)) hm⟩
variable {n : Nat} {pgs : List ByteArray} {over put : List (Int × ByteArray)} {met : List (Int × Unit)}
theorem TxI.put1 (h : TxI n pgs over put met) {i : Int} {t : ByteArray} (h1 : i ≠ 1) (h0 : 0 ≤ i ∧ i < n) (ht : t.size = 480) : TxI n pgs (insM i t over) (insM i t put) met := by
  refine ⟨h.ov.ins h0 ht, h.nd, fun x => ?_, fun j hj => ?_⟩
  · rw [cur_ins, if_neg (Ne.symm h1)]; exact h.mt x
  · rw [lk_ins, lk_ins, h.pt j hj]
theorem TxI.take1 (h : TxI n pgs over put met) (hb : (cur over pgs 1).size = 480) (hn : n ≤ 3840) {x : Nat} (hx : firstF (cur over pgs 1) (n - 2) 2 = some x) :
    lk (x : Int) met = none ∧ (2 ≤ x ∧ x < n) ∧ TxI n pgs (insM x (zeros 480) (insM 1 (setS (cur over pgs 1) x true) over)) (insM x (zeros 480) put) (insM x () met) := by
  obtain ⟨h1, h2, h3⟩ := firstF_some hx
  have hok := (okI_nat hb (x : Int)).2 ⟨by omega, by omega⟩
  have hx1 : (1 : Int) ≠ x := by omega
  refine ⟨lk_none.2 fun hm => ?_, ⟨by omega, by omega⟩, (h.ov.ins ⟨by omega, by omega⟩ (set_size hok true)).ins ⟨by omega, by omega⟩ (zeros_size _), nodup_ins h.nd, fun y => ?_, fun j hj => ?_⟩
  · have := ((h.mt _).1 hm).2
    rw [h3] at this; cases this
  · rw [cur_ins, if_neg hx1, cur_ins, if_pos rfl, used_set hok, keys_ins, h.mt]
    by_cases he : y = x
    · subst he; simp; omega
    · simp [he]
  · rw [lk_ins, lk_ins, lk_ins, if_neg hj, h.pt j hj]
theorem TxI.give1 (h : TxI n pgs over put met) (hb : (cur over pgs 1).size = 480) (hn : n ≤ 3840) {x : Int} (h0 : 2 ≤ x ∧ x < n) (hu : usedS (cur over pgs 1) x = true) (h8 : 8 ≤ n) :
    lk x met = some () ∧ TxI n pgs (insM 1 (setS (cur over pgs 1) x false) over) put (delM x met) := by
  have hok := (okI_nat hb x).2 ⟨by omega, by omega⟩
  refine ⟨?_, h.ov.ins ⟨by omega, by omega⟩ (set_size hok false), nodup_del h.nd, fun y => ?_, fun j hj => ?_⟩
  · cases hl : lk x met with
    | some u => rfl
    | none => exact absurd ((h.mt x).2 ⟨h0, hu⟩) (lk_none.1 hl)
  · rw [cur_ins, if_pos rfl, used_set hok, keys_del h.nd, h.mt]
    by_cases he : y = x
    · subst he; simp
    · simp [he]
  · rw [lk_ins, if_neg hj, h.pt j hj]
/-- The numbers of the bits that are set. -/
def usedL (s : ByteArray) : Nat → Nat → List Int
  | 0, _ => []
  | n + 1, i => if usedS s (i : Int) = true then (i : Int) :: usedL s n (i + 1) else usedL s n (i + 1)
theorem usedL_len (s : ByteArray) : ∀ n i, (usedL s n i).length = cnt s n i
  | 0, _ => rfl
  | n + 1, i => by
    simp only [usedL, cnt, one1]
    split
    · rw [List.length_cons, usedL_len s n]; omega
    · rw [usedL_len s n]; omega
theorem usedL_mem {s : ByteArray} {x : Int} : ∀ {n i : Nat}, x ∈ usedL s n i ↔ ((i : Int) ≤ x ∧ x < ((i + n : Nat) : Int)) ∧ usedS s x = true
  | 0, i => by simp [usedL]; omega
  | n + 1, i => by
    have ih := usedL_mem (s := s) (x := x) (n := n) (i := i + 1)
    simp only [usedL]
    split
    · rename_i hu
      rw [List.mem_cons, ih]
      constructor
      · rintro (rfl | ⟨h1, h2⟩)
        · exact ⟨⟨by omega, by omega⟩, hu⟩
        · exact ⟨⟨by omega, by omega⟩, h2⟩
      · rintro ⟨h1, h2⟩
        by_cases he : x = i
        · exact .inl he
        · exact .inr ⟨⟨by omega, by omega⟩, h2⟩
    · rename_i hu
      rw [ih]
      constructor
      · rintro ⟨h1, h2⟩
        exact ⟨⟨by omega, by omega⟩, h2⟩
      · rintro ⟨h1, h2⟩
        refine ⟨⟨?_, by omega⟩, h2⟩
        by_cases he : x = i
        · subst he; exact absurd h2 hu
        · omega
theorem usedL_nodup (s : ByteArray) : ∀ n i, (usedL s n i).Nodup
  | 0, _ => List.nodup_nil
  | n + 1, i => by
    simp only [usedL]
    split
    · rw [List.nodup_cons]
      refine ⟨fun hm => ?_, usedL_nodup s n (i + 1)⟩
      have := (usedL_mem.1 hm).1
      omega
    · exact usedL_nodup s n (i + 1)
theorem TxI.card (h : TxI n pgs over put met) (h8 : 8 ≤ n) : met.length = cnt (cur over pgs 1) (n - 2) 2 := by
  have e : (met.map (·.1)).length = met.length := List.length_map ..
  rw [← usedL_len, ← e]
  refine List.Perm.length_eq ((List.perm_ext_iff_of_nodup h.nd (usedL_nodup _ _ _)).2 fun x => ?_)
  rw [h.mt, usedL_mem]
  constructor
  · rintro ⟨h1, h2⟩
    exact ⟨⟨by omega, by omega⟩, h2⟩
  · rintro ⟨h1, h2⟩
    exact ⟨⟨by omega, by omega⟩, h2⟩
end Go.Abs
