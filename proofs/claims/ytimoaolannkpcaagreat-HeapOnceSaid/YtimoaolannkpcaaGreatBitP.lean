/- THE BITMAP, in plain words. -/
import Derived.Test.YtimoaolannkpcaaGreatSecX
import Derived.Test.YtimoaolannkpcaaGreatRsC
set_option linter.unusedVariables false
set_option linter.unusedSimpArgs false
set_option linter.unusedSectionVars false
namespace Go.Abs
open Go
set_option linter.unusedVariables false
set_option maxRecDepth 100000
abbrev S (s : ByteArray) : AVal := .at (.string s)
abbrev I (n : Int) : AVal := .at (.int .i64 n)
abbrev B (b : Bool) : AVal := .at (.bool b)
def byteN (s : ByteArray) (j : Nat) : Nat := (s.data.getD j 0).toNat
def bitB (b k : Nat) : Bool := b / 2 ^ k % 2 == 1
def okI (s : ByteArray) (i : Int) : Bool := decide (s.size = 480 ∧ 0 ≤ i ∧ i < 3840)
def usedS (s : ByteArray) (i : Int) : Bool := okI s i && bitB (byteN s (i.toNat / 8)) (i.toNat % 8)
theorem byteN_lt (s : ByteArray) (j : Nat) : byteN s j < 256 := UInt8.toNat_lt _
def chkUsed : Bool := (List.range 256).all fun b => (List.range 8).all fun k => (bitsI .and .u8 (shiftI .shr .u8 (b : Int) (k : Int)) 1 == 1) == bitB b k
theorem chkUsed_ok : chkUsed = true := by kernel_rfl
theorem bit_used {b k : Nat} (hb : b < 256) (hk : k < 8) : (bitsI .and .u8 (shiftI .shr .u8 (b : Int) (k : Int)) 1 == 1) = bitB b k := by
  have h1 := List.all_eq_true.1 chkUsed_ok b (List.mem_range.2 hb)
  have h2 := List.all_eq_true.1 h1 k (List.mem_range.2 hk)
  exact eq_of_beq h2
theorem tdiv8 (m : Nat) : (m : Int).tdiv 8 = ((m / 8 : Nat) : Int) := by
  rw [Int.tdiv_eq_ediv_of_nonneg (by omega)]; omega
theorem tmod8 (m : Nat) : (m : Int).tmod 8 = ((m % 8 : Nat) : Int) := by
  rw [Int.tmod_eq_emod_of_nonneg (by omega)]; omega
def newB (b k : Nat) (on : Bool) : Nat := if on then (if bitB b k then b else b + 2 ^ k) else (if bitB b k then b - 2 ^ k else b)
def setL (s : ByteArray) (i : Int) (on : Bool) : List UInt8 := s.data.toList.set (i.toNat / 8) (UInt8.ofNat (newB (byteN s (i.toNat / 8)) (i.toNat % 8) on))
def setS (s : ByteArray) (i : Int) (on : Bool) : ByteArray := if okI s i = true then ⟨(setL s i on).toArray⟩ else ⟨#[]⟩
def codeS (s : ByteArray) (i : Int) : Int := if okI s i = true then 0 else 18
def chkSet : Bool := (List.range 256).all fun b => (List.range 8).all fun k =>
  (bitsI .andNot .u8 (b : Int) (shiftI .shl .u8 1 (k : Int)) == (newB b k false : Int)) && (bitsI .or .u8 (newB b k false : Int) (shiftI .shl .u8 1 (k : Int)) == (newB b k true : Int)) && Nat.blt (newB b k false) 256 && Nat.blt (newB b k true) 256
theorem chkSet_ok : chkSet = true := by kernel_rfl
theorem bit_set {b k : Nat} (hb : b < 256) (hk : k < 8) : bitsI .andNot .u8 (b : Int) (shiftI .shl .u8 1 (k : Int)) = (newB b k false : Int) ∧ bitsI .or .u8 (newB b k false : Int) (shiftI .shl .u8 1 (k : Int)) = (newB b k true : Int) ∧ newB b k false < 256 ∧ newB b k true < 256 := by
  have h1 := List.all_eq_true.1 chkSet_ok b (List.mem_range.2 hb)
  have h2 := List.all_eq_true.1 h1 k (List.mem_range.2 hk)
  simp only [Bool.and_eq_true, beq_iff_eq] at h2
  obtain ⟨⟨⟨a1, a2⟩, a3⟩, a4⟩ := h2
  exact ⟨a1, a2, Nat.blt_eq ▸ a3, Nat.blt_eq ▸ a4⟩
theorem u8nat {v : Nat} (hv : v < 256) : (UInt8.ofNat v).toNat = v := by
  have : (UInt8.ofNat v).toNat = v % 256 := by simp
  rw [this]; omega
theorem ofB_get (l : List UInt8) (i : Nat) : (ofBytes l)[i]? = l[i]?.map fun b => .at (.int .u8 b.toNat) := by simp [ofBytes]
theorem ofB_len (l : List UInt8) : (ofBytes l).length = l.length := by simp [ofBytes]
theorem ofB_set {l : List UInt8} {p v : Nat} (hp : p < l.length) (hv : v < 256) : splice (ofBytes l) p [.at (.int .u8 (v : Int))] = ofBytes (l.set p (UInt8.ofNat v)) := by
  unfold splice ofBytes
  rw [List.set_eq_take_append_cons_drop, if_pos hp]
  have := u8nat hv
  simp only [List.length_cons, List.length_nil, List.map_append, List.map_take, List.map_cons, List.map_drop, this]
  rfl
theorem bytesOf_ofB : ∀ (l : List UInt8), bytesOf (ofBytes l) = some l
  | [] => rfl
  | b :: l => by
    have := bytesOf_ofB l
    unfold ofBytes at this
    simp only [ofBytes, List.map_cons, bytesOf, this]
    simp
theorem byte_at (s : ByteArray) {p : Nat} (hp : p < s.size) : s.data.toList[p]?.map (fun b => AVal.at (.int .u8 (b.toNat : Int))) = some (.at (.int .u8 (byteN s p : Int))) := by
  have hp' : p < s.data.size := hp
  rw [Array.getElem?_toList, Array.getElem?_eq_getElem hp']
  simp [byteN, Array.getD, hp', hp]
theorem list_len (s : ByteArray) : s.data.toList.length = s.size := by rw [Array.length_toList]; rfl
def one1 (b : Bool) : Nat := if b = true then 1 else 0
def cnt (s : ByteArray) : Nat → Nat → Nat
  | 0, _ => 0
  | n + 1, i => one1 (usedS s (i : Int)) + cnt s n (i + 1)
theorem cnt_add (s : ByteArray) : ∀ (a b i : Nat), cnt s (a + b) i = cnt s a i + cnt s b (i + a)
  | 0, b, i => by simp [cnt]
  | a + 1, b, i => by
    rw [show a + 1 + b = (a + b) + 1 by omega]
    simp only [cnt, cnt_add s a b (i + 1)]
    rw [show i + 1 + a = i + (a + 1) by omega]; omega
theorem cnt_le (s : ByteArray) : ∀ (n i : Nat), cnt s n i ≤ n
  | 0, i => by simp [cnt]
  | n + 1, i => by
    have := cnt_le s n (i + 1)
    simp only [cnt, one1]; split <;> omega
theorem cnt_none {s : ByteArray} (h : s.size ≠ 480) : ∀ (n i : Nat), cnt s n i = 0
  | 0, i => rfl
  | n + 1, i => by
    have : usedS s (i : Int) = false := by simp [usedS, okI, h]
    simp [cnt, one1, this, cnt_none h n (i + 1)]
def popN (b : Nat) : Nat := one1 (bitB b 0) + (one1 (bitB b 1) + (one1 (bitB b 2) + (one1 (bitB b 3) + (one1 (bitB b 4) + (one1 (bitB b 5) + (one1 (bitB b 6) + (one1 (bitB b 7) + 0)))))))
theorem used_at {s : ByteArray} (h : s.size = 480) {p k : Nat} (hp : p < 480) (hk : k < 8) : usedS s ((8 * p + k : Nat) : Int) = bitB (byteN s p) k := by
  have e1 : (8 * p + k) / 8 = p := by omega
  have e2 : (8 * p + k) % 8 = k := by omega
  have : okI s ((8 * p + k : Nat) : Int) = true := by simp only [okI, decide_eq_true_eq]; omega
  simp only [usedS, this, Bool.true_and, Int.toNat_natCast, e1, e2]
theorem cnt_byte {s : ByteArray} (h : s.size = 480) {p : Nat} (hp : p < 480) : cnt s 8 (8 * p) = popN (byteN s p) := by
  have u : ∀ k, k < 8 → usedS s ((8 * p + k : Nat) : Int) = bitB (byteN s p) k := fun k hk => used_at h hp hk
  have e0 := u 0 (by omega)
  rw [Nat.add_zero] at e0
  simp only [cnt, popN, Nat.add_assoc, e0, u 1 (by omega), u 2 (by omega), u 3 (by omega), u 4 (by omega), u 5 (by omega), u 6 (by omega), u 7 (by omega), Nat.reduceAdd]
def freeS (s : ByteArray) : Nat → Nat → List Int
  | 0, _ => []
  | n + 1, i => if usedS s (i : Int) = true then freeS s n (i + 1) else (i : Int) :: freeS s n (i + 1)
theorem free_len (s : ByteArray) : ∀ (n i : Nat), cnt s n i + (freeS s n i).length = n
  | 0, i => rfl
  | n + 1, i => by
    have := free_len s n (i + 1)
    simp only [cnt, freeS, one1]
    split
    · omega
    · rw [List.length_cons]; omega
theorem mem_free {s : ByteArray} {x : Int} : ∀ {n i : Nat}, x ∈ freeS s n i ↔ ∃ j : Nat, x = j ∧ i ≤ j ∧ j < i + n ∧ usedS s (j : Int) = false
  | 0, i => by simp [freeS]; intro j _ h1 h2; omega
  | n + 1, i => by
    simp only [freeS]
    split
    · rename_i h
      rw [mem_free]
      refine ⟨fun ⟨j, h1, h2, h3, h4⟩ => ⟨j, h1, by omega, by omega, h4⟩, fun ⟨j, h1, h2, h3, h4⟩ => ⟨j, h1, ?_, by omega, h4⟩⟩
      have : j ≠ i := by rintro rfl; rw [h] at h4; cases h4
      omega
    · rename_i h
      rw [List.mem_cons, mem_free]
      constructor
      · rintro (rfl | ⟨j, h1, h2, h3, h4⟩)
        · exact ⟨i, rfl, by omega, by omega, by simpa using h⟩
        · exact ⟨j, h1, by omega, by omega, h4⟩
      · rintro ⟨j, h1, h2, h3, h4⟩
        by_cases e : j = i
        · left; omega
        · right; exact ⟨j, h1, by omega, by omega, h4⟩
theorem free_sorted (s : ByteArray) : ∀ (n i : Nat), (freeS s n i).Pairwise (· < ·)
  | 0, i => .nil
  | n + 1, i => by
    simp only [freeS]
    split
    · exact free_sorted s n (i + 1)
    · refine .cons (fun x hx => ?_) (free_sorted s n (i + 1))
      obtain ⟨j, rfl, h2, _, _⟩ := mem_free.1 hx
      omega
def chkBit : Bool := (List.range 256).all fun b => (List.range 8).all fun k => (List.range 8).all fun k' => (bitB (newB b k true) k' == (if k' = k then true else bitB b k')) && (bitB (newB b k false) k' == (if k' = k then false else bitB b k'))
theorem chkBit_ok : chkBit = true := by kernel_rfl
theorem bit_new {b k k' : Nat} (hb : b < 256) (hk : k < 8) (hk' : k' < 8) (on : Bool) : bitB (newB b k on) k' = if k' = k then on else bitB b k' := by
  have h1 := List.all_eq_true.1 chkBit_ok b (List.mem_range.2 hb)
  have h2 := List.all_eq_true.1 h1 k (List.mem_range.2 hk)
  have h3 := List.all_eq_true.1 h2 k' (List.mem_range.2 hk')
  rw [Bool.and_eq_true] at h3
  cases on
  · exact eq_of_beq h3.2
  · exact eq_of_beq h3.1
theorem okI_nat {s : ByteArray} (h : s.size = 480) (i : Int) : okI s i = true ↔ 0 ≤ i ∧ i < 3840 := by simp [okI, h]
theorem okI_size {s : ByteArray} {i : Int} (h : okI s i = true) : s.size = 480 := by simp [okI] at h; exact h.1
theorem set_size {s : ByteArray} {i : Int} (h : okI s i = true) (on : Bool) : (setS s i on).size = 480 := by
  have := okI_size h
  unfold setS
  rw [if_pos h]
  show (setL s i on).toArray.size = 480
  rw [List.size_toArray, setL, List.length_set, list_len, this]
theorem newB_lt {b k : Nat} (hb : b < 256) (hk : k < 8) (on : Bool) : newB b k on < 256 := by
  obtain ⟨_, _, h1, h2⟩ := bit_set hb hk
  cases on <;> assumption
theorem byte_set {s : ByteArray} {m : Nat} (h : okI s (m : Int) = true) (on : Bool) {p : Nat} (hp : p < 480) : byteN (setS s m on) p = if p = m / 8 then newB (byteN s (m / 8)) (m % 8) on else byteN s p := by
  have hs := okI_size h
  have hm : m < 3840 := by have := (okI_nat hs _).1 h; omega
  have hl : (setL s m on).length = 480 := by rw [setL, List.length_set, list_len, hs]
  have e : byteN (setS s m on) p = ((setL s m on)[p]'(by omega)).toNat := by
    unfold byteN setS
    rw [if_pos h]
    show ((setL s m on).toArray.getD p 0).toNat = _
    have : p < (setL s m on).length := by omega
    simp [Array.getD, this]
  have e2 : byteN s p = (s.data.toList[p]'(by rw [list_len]; omega)).toNat := by
    have : p < s.size := by omega
    simp [byteN, Array.getD, this]
  rw [e, e2]
  simp only [setL, Int.toNat_natCast]
  rw [List.getElem_set]
  by_cases hq : m / 8 = p
  · rw [if_pos hq, if_pos hq.symm, u8nat (newB_lt (byteN_lt _ _) (Nat.mod_lt _ (by omega)) on)]
  · rw [if_neg hq, if_neg (Ne.symm hq)]
theorem used_set {s : ByteArray} {i : Int} (h : okI s i = true) (on : Bool) (j : Int) : usedS (setS s i on) j = if j = i then on else usedS s j := by
  have hs := okI_size h
  have h0 := (okI_nat hs _).1 h
  have hs2 := set_size h on
  obtain ⟨m, rfl⟩ := Int.eq_ofNat_of_zero_le h0.1
  by_cases hj : 0 ≤ j ∧ j < 3840
  · obtain ⟨q, rfl⟩ := Int.eq_ofNat_of_zero_le hj.1
    have hq : q < 3840 := by omega
    have hm : m < 3840 := by omega
    have a1 := used_at hs2 (p := q / 8) (k := q % 8) (by omega) (Nat.mod_lt _ (by omega))
    have a2 := used_at hs (p := q / 8) (k := q % 8) (by omega) (Nat.mod_lt _ (by omega))
    rw [Nat.div_add_mod] at a1 a2
    rw [a1, a2, byte_set h on (by omega)]
    by_cases e : q / 8 = m / 8
    · rw [if_pos e, bit_new (byteN_lt _ _) (Nat.mod_lt _ (by omega)) (Nat.mod_lt _ (by omega)), e]
      by_cases e2 : q % 8 = m % 8
      · rw [if_pos e2, if_pos (by omega)]
      · rw [if_neg e2, if_neg (by omega)]
    · rw [if_neg e, if_neg (by omega)]
  · have n1 : okI s j = false := by
      cases hh : okI s j
      · rfl
      · exact absurd ((okI_nat hs _).1 hh) hj
    have n2 : okI (setS s m on) j = false := by
      cases hh : okI (setS s m on) j
      · rfl
      · exact absurd ((okI_nat hs2 _).1 hh) hj
    rw [if_neg (by omega)]
    simp [usedS, n1, n2]
theorem cnt_congr {s t : ByteArray} (h : ∀ j, usedS s j = usedS t j) : ∀ (n i : Nat), cnt s n i = cnt t n i
  | 0, i => rfl
  | n + 1, i => by simp only [cnt, h, cnt_congr h n (i + 1)]
theorem cnt_set {s : ByteArray} {m : Nat} (h : okI s (m : Int) = true) (hu : usedS s (m : Int) = false) : ∀ (n i : Nat), cnt (setS s m true) n i = cnt s n i + (if i ≤ m ∧ m < i + n then 1 else 0)
  | 0, i => by rw [if_neg (by omega)]; rfl
  | n + 1, i => by
    simp only [cnt, cnt_set h hu n (i + 1), used_set h]
    by_cases e : (i : Int) = m
    · have e' : i = m := by omega
      rw [if_pos e, if_neg (by omega), if_pos (by omega), e, hu]
      simp [one1]; omega
    · rw [if_neg e]
      by_cases e2 : i ≤ m ∧ m < i + (n + 1)
      · rw [if_pos (by omega), if_pos e2]; omega
      · rw [if_neg (by omega), if_neg e2]; omega
end Go.Abs
