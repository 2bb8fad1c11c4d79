/- THE BITMAP: the plain law: pages that are free, taken, given back. -/
import Derived.Test.YtafmbianlodemaaBitE
namespace Go.Abs
set_option linter.unusedSectionVars false
set_option linter.unusedSimpArgs false
set_option linter.unusedVariables false

def freeS (s : ByteArray) : Nat → Nat → List Int
  | 0, _ => []
  | n + 1, i => if usedS s (i : Int) = true then freeS s n (i + 1) else (i : Int) :: freeS s n (i + 1)
theorem free_len (s : ByteArray) : ∀ (n i : Nat), cnt s n i + (freeS s n i).length = n
  | 0, i => rfl
  | n + 1, i => by
    have := free_len s n (i + 1)
    simp only [cnt, freeS, one1]
    split
    · omega
    · rw [List.length_cons]; omega
theorem mem_free {s : ByteArray} {x : Int} : ∀ {n i : Nat}, x ∈ freeS s n i ↔ ∃ j : Nat, x = j ∧ i ≤ j ∧ j < i + n ∧ usedS s (j : Int) = false
  | 0, i => by simp [freeS]; intro j _ h1 h2; omega
  | n + 1, i => by
    simp only [freeS]
    split
    · rename_i h
      rw [mem_free]
      refine ⟨fun ⟨j, h1, h2, h3, h4⟩ => ⟨j, h1, by omega, by omega, h4⟩, fun ⟨j, h1, h2, h3, h4⟩ => ⟨j, h1, ?_, by omega, h4⟩⟩
      have : j ≠ i := by rintro rfl; rw [h] at h4; cases h4
      omega
    · rename_i h
      rw [List.mem_cons, mem_free]
      constructor
      · rintro (rfl | ⟨j, h1, h2, h3, h4⟩)
        · exact ⟨i, rfl, by omega, by omega, by simpa using h⟩
        · exact ⟨j, h1, by omega, by omega, h4⟩
      · rintro ⟨j, h1, h2, h3, h4⟩
        by_cases e : j = i
        · left; omega
        · right; exact ⟨j, h1, by omega, by omega, h4⟩
theorem free_sorted (s : ByteArray) : ∀ (n i : Nat), (freeS s n i).Pairwise (· < ·)
  | 0, i => .nil
  | n + 1, i => by
    simp only [freeS]
    split
    · exact free_sorted s n (i + 1)
    · refine .cons (fun x hx => ?_) (free_sorted s n (i + 1))
      obtain ⟨j, rfl, h2, _, _⟩ := mem_free.1 hx
      omega
theorem nodup_of_sorted {l : List Int} (h : l.Pairwise (· < ·)) : l.Nodup := h.imp fun h => by omega

def chkBit : Bool := (List.range 256).all fun b => (List.range 8).all fun k => (List.range 8).all fun k' => (bitB (newB b k true) k' == (if k' = k then true else bitB b k')) && (bitB (newB b k false) k' == (if k' = k then false else bitB b k'))
theorem chkBit_ok : chkBit = true := by kernel_rfl
theorem bit_new {b k k' : Nat} (hb : b < 256) (hk : k < 8) (hk' : k' < 8) (on : Bool) : bitB (newB b k on) k' = if k' = k then on else bitB b k' := by
  have h1 := List.all_eq_true.1 chkBit_ok b (List.mem_range.2 hb)
  have h2 := List.all_eq_true.1 h1 k (List.mem_range.2 hk)
  have h3 := List.all_eq_true.1 h2 k' (List.mem_range.2 hk')
  rw [Bool.and_eq_true] at h3
  cases on
  · exact eq_of_beq h3.2
  · exact eq_of_beq h3.1
def sumB (b : Nat) : Nat := one1 (bitB b 0) + (2 * one1 (bitB b 1) + (4 * one1 (bitB b 2) + (8 * one1 (bitB b 3) + (16 * one1 (bitB b 4) + (32 * one1 (bitB b 5) + (64 * one1 (bitB b 6) + 128 * one1 (bitB b 7)))))))
def chkSum : Bool := (List.range 256).all fun b => Nat.beq (sumB b) b
theorem chkSum_ok : chkSum = true := by kernel_rfl
theorem sum_bits {b : Nat} (hb : b < 256) : sumB b = b := Nat.eq_of_beq_eq_true (List.all_eq_true.1 chkSum_ok b (List.mem_range.2 hb))

theorem okI_nat {s : ByteArray} (h : s.size = 480) (i : Int) : okI s i = true ↔ 0 ≤ i ∧ i < 3840 := by simp [okI, h]
theorem okI_size {s : ByteArray} {i : Int} (h : okI s i = true) : s.size = 480 := by simp [okI] at h; exact h.1
theorem set_size {s : ByteArray} {i : Int} (h : okI s i = true) (on : Bool) : (setS s i on).size = 480 := by
  have := okI_size h
  unfold setS
  rw [if_pos h]
  show (setL s i on).toArray.size = 480
  rw [List.size_toArray, setL, List.length_set, list_len, this]
theorem newB_lt {b k : Nat} (hb : b < 256) (hk : k < 8) (on : Bool) : newB b k on < 256 := by
  obtain ⟨_, _, h1, h2⟩ := bit_set hb hk
  cases on <;> assumption
theorem byte_set {s : ByteArray} {m : Nat} (h : okI s (m : Int) = true) (on : Bool) {p : Nat} (hp : p < 480) : byteN (setS s m on) p = if p = m / 8 then newB (byteN s (m / 8)) (m % 8) on else byteN s p := by
  have hs := okI_size h
  have hm : m < 3840 := by have := (okI_nat hs _).1 h; omega
  have hl : (setL s m on).length = 480 := by rw [setL, List.length_set, list_len, hs]
  have e : byteN (setS s m on) p = ((setL s m on)[p]'(by omega)).toNat := by
    unfold byteN setS
    rw [if_pos h]
    show ((setL s m on).toArray.getD p 0).toNat = _
    have : p < (setL s m on).length := by omega
    simp [Array.getD, this]
  have e2 : byteN s p = (s.data.toList[p]'(by rw [list_len]; omega)).toNat := by
    have : p < s.size := by omega
    simp [byteN, Array.getD, this]
  rw [e, e2]
  simp only [setL, Int.toNat_natCast]
  rw [List.getElem_set]
  by_cases hq : m / 8 = p
  · rw [if_pos hq, if_pos hq.symm, u8nat (newB_lt (byteN_lt _ _) (Nat.mod_lt _ (by omega)) on)]
  · rw [if_neg hq, if_neg (Ne.symm hq)]
theorem used_set {s : ByteArray} {i : Int} (h : okI s i = true) (on : Bool) (j : Int) : usedS (setS s i on) j = if j = i then on else usedS s j := by
  have hs := okI_size h
  have h0 := (okI_nat hs _).1 h
  have hs2 := set_size h on
  obtain ⟨m, rfl⟩ := Int.eq_ofNat_of_zero_le h0.1
  by_cases hj : 0 ≤ j ∧ j < 3840
  · obtain ⟨q, rfl⟩ := Int.eq_ofNat_of_zero_le hj.1
    have hq : q < 3840 := by omega
    have hm : m < 3840 := by omega
    have a1 := used_at hs2 (p := q / 8) (k := q % 8) (by omega) (Nat.mod_lt _ (by omega))
    have a2 := used_at hs (p := q / 8) (k := q % 8) (by omega) (Nat.mod_lt _ (by omega))
    rw [Nat.div_add_mod] at a1 a2
    rw [a1, a2, byte_set h on (by omega)]
    by_cases e : q / 8 = m / 8
    · rw [if_pos e, bit_new (byteN_lt _ _) (Nat.mod_lt _ (by omega)) (Nat.mod_lt _ (by omega)), e]
      by_cases e2 : q % 8 = m % 8
      · rw [if_pos e2, if_pos (by omega)]
      · rw [if_neg e2, if_neg (by omega)]
    · rw [if_neg e, if_neg (by omega)]
  · have n1 : okI s j = false := by
      cases hh : okI s j
      · rfl
      · exact absurd ((okI_nat hs _).1 hh) hj
    have n2 : okI (setS s m on) j = false := by
      cases hh : okI (setS s m on) j
      · rfl
      · exact absurd ((okI_nat hs2 _).1 hh) hj
    rw [if_neg (by omega)]
    simp [usedS, n1, n2]
theorem ext480 {s t : ByteArray} (hs : s.size = 480) (ht : t.size = 480) (h : ∀ j : Int, usedS s j = usedS t j) : s = t := by
  have hb : ∀ p, p < 480 → byteN s p = byteN t p := by
    intro p hp
    have hu : ∀ k, k < 8 → bitB (byteN s p) k = bitB (byteN t p) k := fun k hk => by
      rw [← used_at hs hp hk, ← used_at ht hp hk]; exact h _
    rw [← sum_bits (byteN_lt s p), ← sum_bits (byteN_lt t p)]
    simp only [sumB, hu 0 (by omega), hu 1 (by omega), hu 2 (by omega), hu 3 (by omega), hu 4 (by omega), hu 5 (by omega), hu 6 (by omega), hu 7 (by omega)]
  have hs' : s.data.size = 480 := hs
  have ht' : t.data.size = 480 := ht
  apply ByteArray.ext
  apply Array.ext
  · omega
  · intro p h1 h2
    have := hb p (by omega)
    simp only [byteN, Array.getD, h1, h2, dif_pos] at this
    exact UInt8.toNat_inj.1 this

def allS (s : ByteArray) (l : List Int) (on : Bool) : ByteArray := l.foldl (fun s i => setS s i on) s
theorem ok_all {s : ByteArray} (hs : s.size = 480) {l : List Int} (h : ∀ i ∈ l, 0 ≤ i ∧ i < 3840) (on : Bool) : (allS s l on).size = 480 ∧ ∀ j, usedS (allS s l on) j = if j ∈ l then on else usedS s j := by
  induction l generalizing s with
  | nil => exact ⟨hs, fun j => by simp [allS]⟩
  | cons i l ih =>
    have hi := (okI_nat hs i).2 (h i (by simp))
    obtain ⟨h1, h2⟩ := ih (set_size hi on) (fun i hi => h i (by simp [hi]))
    refine ⟨h1, fun j => (h2 j).trans ?_⟩
    rw [used_set hi]
    by_cases e1 : j ∈ l
    · simp [e1]
    · by_cases e2 : j = i
      · simp [e1, e2]
      · simp [e1, e2]

def turnS : ByteArray → List Int → Bool → ByteArray × Int
  | s, [], _ => if s.size = 480 then (s, 0) else (⟨#[]⟩, 18)
  | s, i :: l, on => if okI s i = true ∧ usedS s i ≠ on then turnS (setS s i on) l on else (⟨#[]⟩, 18)
def turnable (s : ByteArray) (l : List Int) (on : Bool) : Prop := s.size = 480 ∧ (∀ i ∈ l, (0 ≤ i ∧ i < 3840) ∧ usedS s i ≠ on) ∧ l.Nodup
theorem turn_eq : ∀ (l : List Int) (s : ByteArray) (on : Bool), (turnable s l on → turnS s l on = (allS s l on, 0)) ∧ (¬ turnable s l on → turnS s l on = (⟨#[]⟩, 18))
  | [], s, on => by
    refine ⟨fun h => by simp [turnS, h.1, allS], fun h => ?_⟩
    have : s.size ≠ 480 := fun hs => h ⟨hs, by simp, .nil⟩
    simp [turnS, this]
  | i :: l, s, on => by
    obtain ⟨h1, h2⟩ := turn_eq l (setS s i on) on
    have key : okI s i = true ∧ usedS s i ≠ on → (turnable (setS s i on) l on ↔ turnable s (i :: l) on) := by
      rintro ⟨hi, hu⟩
      have hs := okI_size hi
      constructor
      · rintro ⟨a1, a2, a3⟩
        refine ⟨hs, ?_, List.nodup_cons.2 ⟨fun hm => ?_, a3⟩⟩
        · intro j hj
          rcases List.mem_cons.1 hj with rfl | hj
          · exact ⟨(okI_nat hs _).1 hi, hu⟩
          · obtain ⟨b1, b2⟩ := a2 j hj
            rw [used_set hi] at b2
            refine ⟨b1, ?_⟩
            split at b2
            · exact absurd rfl b2
            · exact b2
        · obtain ⟨_, b2⟩ := a2 i hm
          rw [used_set hi, if_pos rfl] at b2
          exact b2 rfl
      · rintro ⟨a1, a2, a3⟩
        obtain ⟨n1, n2⟩ := List.nodup_cons.1 a3
        refine ⟨set_size hi on, fun j hj => ?_, n2⟩
        obtain ⟨b1, b2⟩ := a2 j (by simp [hj])
        refine ⟨b1, ?_⟩
        rw [used_set hi, if_neg (by rintro rfl; exact n1 hj)]
        exact b2
    by_cases hc : okI s i = true ∧ usedS s i ≠ on
    · simp only [turnS, if_pos hc]
      exact ⟨fun h => h1 ((key hc).2 h), fun h => h2 fun h' => h ((key hc).1 h')⟩
    · simp only [turnS, if_neg hc]
      refine ⟨fun h => absurd ⟨(okI_nat h.1 _).2 (h.2.1 i (by simp)).1, (h.2.1 i (by simp)).2⟩ hc, fun _ => trivial⟩

theorem cnt_congr {s t : ByteArray} (h : ∀ j, usedS s j = usedS t j) : ∀ (n i : Nat), cnt s n i = cnt t n i
  | 0, i => rfl
  | n + 1, i => by simp only [cnt, h, cnt_congr h n (i + 1)]
theorem cnt_set {s : ByteArray} {m : Nat} (h : okI s (m : Int) = true) (hu : usedS s (m : Int) = false) : ∀ (n i : Nat), cnt (setS s m true) n i = cnt s n i + (if i ≤ m ∧ m < i + n then 1 else 0)
  | 0, i => by rw [if_neg (by omega)]; rfl
  | n + 1, i => by
    simp only [cnt, cnt_set h hu n (i + 1), used_set h]
    by_cases e : (i : Int) = m
    · have e' : i = m := by omega
      rw [if_pos e, if_neg (by omega), if_pos (by omega), e, hu]
      simp [one1]; omega
    · rw [if_neg e]
      by_cases e2 : i ≤ m ∧ m < i + (n + 1)
      · rw [if_pos (by omega), if_pos e2]; omega
      · rw [if_neg (by omega), if_neg e2]; omega
theorem cnt_all {n i : Nat} : ∀ {l : List Int} {s : ByteArray}, s.size = 480 → (∀ x ∈ l, (0 ≤ x ∧ x < 3840) ∧ usedS s x ≠ true ∧ (i : Int) ≤ x ∧ x < (i + n : Nat)) → l.Nodup → cnt (allS s l true) n i = cnt s n i + l.length
  | [], s, hs, _, _ => rfl
  | x :: l, s, hs, h, hd => by
    obtain ⟨n1, n2⟩ := List.nodup_cons.1 hd
    obtain ⟨b1, b2, b3, b4⟩ := h x (by simp)
    have hx := (okI_nat hs x).2 b1
    obtain ⟨m, rfl⟩ := Int.eq_ofNat_of_zero_le b1.1
    have ih := cnt_all (n := n) (i := i) (l := l) (s := setS s m true) (set_size hx true) (fun y hy => by
      obtain ⟨c1, c2, c3⟩ := h y (by simp [hy])
      refine ⟨c1, ?_, c3⟩
      rw [used_set hx, if_neg (by rintro rfl; exact n1 hy)]; exact c2) n2
    show cnt (allS (setS s m true) l true) n i = _
    rw [ih, cnt_set hx (by simpa using b2), if_pos (by omega)]
    simp; omega
theorem cnt_full {b : ByteArray} : ∀ {n i : Nat}, (∀ j : Nat, i ≤ j → j < i + n → usedS b (j : Int) = true) → cnt b n i = n
  | 0, i, _ => rfl
  | n + 1, i, h => by
    simp only [cnt, h i (by omega) (by omega), one1, if_true, cnt_full (n := n) (i := i + 1) fun j h1 h2 => h j (by omega) (by omega)]
    omega
/-- Below the last one that is taken, all are taken, or were in use. -/
theorem take_all {s : ByteArray} : ∀ {n i k : Nat} {p : Int}, ((freeS s n i).take (k + 1)).getLast? = some p → ∀ j : Nat, i ≤ j → (j : Int) ≤ p → usedS s (j : Int) = true ∨ (j : Int) ∈ (freeS s n i).take (k + 1)
  | 0, i, k, p, h => by simp [freeS] at h
  | n + 1, i, k, p, h => by
    intro j h1 h2
    simp only [freeS] at h ⊢
    by_cases hu : usedS s (i : Int) = true
    · rw [if_pos hu] at h ⊢
      by_cases e : j = i
      · subst e; exact .inl hu
      · exact take_all h j (by omega) h2
    · rw [if_neg hu] at h ⊢
      rw [List.take_succ_cons] at h ⊢
      by_cases e : j = i
      · subst e; right; simp
      · cases k with
        | zero => simp at h; omega
        | succ k =>
          cases hl : freeS s n (i + 1) with
          | nil => rw [hl] at h; simp at h; omega
          | cons a l =>
            have : ((freeS s n (i + 1)).take (k + 1)).getLast? = some p := by
              rw [hl] at h ⊢
              simpa [List.getLast?_cons] using h
            rcases take_all this j (by omega) h2 with h3 | h3
            · exact .inl h3
            · right
              rw [hl] at h3
              exact List.mem_cons_of_mem _ h3
end Go.Abs
