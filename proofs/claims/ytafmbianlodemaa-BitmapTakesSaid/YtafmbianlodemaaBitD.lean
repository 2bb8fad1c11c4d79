/- THE BITMAP: a page is made used, or free. -/
import Derived.Test.YtafmbianlodemaaBitC
namespace Go.Abs
set_option linter.unusedSectionVars false
set_option linter.unusedSimpArgs false
set_option linter.unusedVariables false

def newB (b k : Nat) (on : Bool) : Nat := if on then (if bitB b k then b else b + 2 ^ k) else (if bitB b k then b - 2 ^ k else b)
def setL (s : ByteArray) (i : Int) (on : Bool) : List UInt8 := s.data.toList.set (i.toNat / 8) (UInt8.ofNat (newB (byteN s (i.toNat / 8)) (i.toNat % 8) on))
def setS (s : ByteArray) (i : Int) (on : Bool) : ByteArray := if okI s i = true then ⟨(setL s i on).toArray⟩ else ⟨#[]⟩
def codeS (s : ByteArray) (i : Int) : Int := if okI s i = true then 0 else 18

def chkSet : Bool := (List.range 256).all fun b => (List.range 8).all fun k =>
  (bitsI .andNot .u8 (b : Int) (shiftI .shl .u8 1 (k : Int)) == (newB b k false : Int)) && (bitsI .or .u8 (newB b k false : Int) (shiftI .shl .u8 1 (k : Int)) == (newB b k true : Int)) && Nat.blt (newB b k false) 256 && Nat.blt (newB b k true) 256
theorem chkSet_ok : chkSet = true := by kernel_rfl
theorem bit_set {b k : Nat} (hb : b < 256) (hk : k < 8) : bitsI .andNot .u8 (b : Int) (shiftI .shl .u8 1 (k : Int)) = (newB b k false : Int) ∧ bitsI .or .u8 (newB b k false : Int) (shiftI .shl .u8 1 (k : Int)) = (newB b k true : Int) ∧ newB b k false < 256 ∧ newB b k true < 256 := by
  have h1 := List.all_eq_true.1 chkSet_ok b (List.mem_range.2 hb)
  have h2 := List.all_eq_true.1 h1 k (List.mem_range.2 hk)
  simp only [Bool.and_eq_true, beq_iff_eq] at h2
  obtain ⟨⟨⟨a1, a2⟩, a3⟩, a4⟩ := h2
  exact ⟨a1, a2, Nat.blt_eq ▸ a3, Nat.blt_eq ▸ a4⟩

theorem u8nat {v : Nat} (hv : v < 256) : (UInt8.ofNat v).toNat = v := by
  have : (UInt8.ofNat v).toNat = v % 256 := by simp
  rw [this]; omega
theorem ofB_get (l : List UInt8) (i : Nat) : (ofBytes l)[i]? = l[i]?.map fun b => .at (.int .u8 b.toNat) := by simp [ofBytes]
theorem ofB_len (l : List UInt8) : (ofBytes l).length = l.length := by simp [ofBytes]
theorem ofB_set {l : List UInt8} {p v : Nat} (hp : p < l.length) (hv : v < 256) : splice (ofBytes l) p [.at (.int .u8 (v : Int))] = ofBytes (l.set p (UInt8.ofNat v)) := by
  unfold splice ofBytes
  rw [List.set_eq_take_append_cons_drop, if_pos hp]
  have := u8nat hv
  simp only [List.length_cons, List.length_nil, List.map_append, List.map_take, List.map_cons, List.map_drop, this]
  rfl
theorem bytesOf_ofB : ∀ (l : List UInt8), bytesOf (ofBytes l) = some l
  | [] => rfl
  | b :: l => by
    have := bytesOf_ofB l
    unfold ofBytes at this
    simp only [ofBytes, List.map_cons, bytesOf, this]
    simp

theorem byte_at (s : ByteArray) {p : Nat} (hp : p < s.size) : s.data.toList[p]?.map (fun b => AVal.at (.int .u8 (b.toNat : Int))) = some (.at (.int .u8 (byteN s p : Int))) := by
  have hp' : p < s.data.size := hp
  rw [Array.getElem?_toList, Array.getElem?_eq_getElem hp']
  simp [byteN, Array.getD, hp', hp]
theorem list_len (s : ByteArray) : s.data.toList.length = s.size := by rw [Array.length_toList]; rfl

variable {C : CallF} {N : Nat}
theorem set_ev (K : SmallC C) (s : ByteArray) (i : Int) (on : Bool) (sg : Sg) : evalF C N bitmap_Set.a [S s, I i, B on] sg = some (.ret (.tup [S (setS s i on), I (codeS s i)]) sg) := by
  have bad : okI s i = false → (some (.ret (.tup [S ⟨#[]⟩, I 18]) sg) : R) = some (.ret (.tup [S (setS s i on), I (codeS s i)]) sg) := fun h => by
    simp [setS, codeS, h]
  rw [bitmap_Set.main, K.is, withOut_ret, withB_at]
  by_cases h1 : s.size = 480
  · rw [if_pos (by simp [h1]), K.page, withOut_ret, withB_at]
    by_cases h2 : 0 ≤ i ∧ i < 3840
    · obtain ⟨m, rfl⟩ := Int.eq_ofNat_of_zero_le h2.1
      have hm : m < 3840 := by omega
      have hok : okI s (m : Int) = true := by simp [okI, h1]; omega
      have hp : m / 8 < s.size := by omega
      have hl := list_len s
      obtain ⟨a1, a2, a3, a4⟩ := bit_set (byteN_lt s (m / 8)) (Nat.mod_lt m (show 0 < 8 by omega))
      have h8 : (0 : Int) ≤ ((m / 8 : Nat) : Int) ∧ ((m / 8 : Nat) : Int) < (s.size : Int) := ⟨by omega, by omega⟩
      have g1 : (ofBytes s.data.toList)[0 + m / 8 * 1]? = some (.at (.int .u8 (byteN s (m / 8) : Int))) := by
        rw [show 0 + m / 8 * 1 = m / 8 by omega, ofB_get]; exact byte_at s hp
      rw [if_neg (by simp; omega), if_neg (by omega), tdiv8, tmod8, i64_id (by omega), if_pos h8]
      simp only [Int.toNat_natCast]
      rw [g1, withI_at, if_neg (by omega), if_neg (by omega), if_pos h8, ofB_len, hl, ble_t (by omega), cond_true, a1, show 0 + m / 8 * 1 = m / 8 by omega, ofB_set (by omega) a3, bindL_eq]
      have hset : ∀ v, (s.data.toList.set (m / 8) v).length = s.size := fun v => by simp [hl]
      cases on with
      | false =>
        rw [if_neg (by simp), List.take_of_length_le (by rw [ofB_len, hset]; exact Nat.le_refl _), bytesOf_ofB, withO_at, if_pos (hset _)]
        simp [setS, codeS, hok, setL]
      | true =>
        have g2 : (ofBytes (s.data.toList.set (m / 8) (UInt8.ofNat (newB (byteN s (m / 8)) (m % 8) false))))[m / 8]? = some (.at (.int .u8 (newB (byteN s (m / 8)) (m % 8) false : Int))) := by
          rw [ofB_get, List.getElem?_set_self (by omega)]
          simp only [Option.map_some, u8nat a3]
        rw [if_pos rfl, if_neg (by omega), if_pos h8, g2, withI_at, if_neg (by omega), if_neg (by omega), if_pos h8, ofB_len, hset, ble_t (by omega), cond_true, a2, ofB_set (by rw [hset]; omega) a4, bindL_eq, List.set_set,
          List.take_of_length_le (by rw [ofB_len, hset]; exact Nat.le_refl _), bytesOf_ofB, withO_at, if_pos (hset _)]
        simp [setS, codeS, hok, setL]
    · have hn : okI s i = false := by simp [okI]; intro _ a; have : ¬ (0 ≤ i ∧ i < 3840) := h2; omega
      rw [if_pos (by simp; omega)]
      exact bad hn
  · have hn : okI s i = false := by simp [okI, h1]
    rw [if_neg (by simp [h1])]
    exact bad hn

/-! ### The document's -/
def refB (b k : Nat) (on : Bool) : Int := (let c1 : Int := if bitB b k then IntKind.i64.wrap (IntKind.i64.wrap (b : Int) - ((2 ^ k : Nat) : Int)) else IntKind.i64.wrap (b : Int); IntKind.u8.wrap (if on then IntKind.i64.wrap (c1 + ((2 ^ k : Nat) : Int)) else c1))
def chkRef : Bool := (List.range 256).all fun b => (List.range 8).all fun k => (refB b k true == (newB b k true : Int)) && (refB b k false == (newB b k false : Int))
theorem chkRef_ok : chkRef = true := by kernel_rfl
theorem bit_ref {b k : Nat} (hb : b < 256) (hk : k < 8) (on : Bool) : refB b k on = (newB b k on : Int) := by
  have h1 := List.all_eq_true.1 chkRef_ok b (List.mem_range.2 hb)
  have h2 := List.all_eq_true.1 h1 k (List.mem_range.2 hk)
  simp only [Bool.and_eq_true, beq_iff_eq] at h2
  cases on
  · exact h2.2
  · exact h2.1

theorem bytesOf_one {v : Nat} (hv : v < 256) : bytesOf [.at (.int .u8 (v : Int))] = some [UInt8.ofNat v] := by
  simp [bytesOf]
theorem ext_parts (s : ByteArray) (p : Nat) (x : UInt8) (hp : p < s.size) : s.extract 0 p ++ ByteArray.mk ([x].toArray) ++ s.extract (p + 1) s.size = ⟨(s.data.toList.set p x).toArray⟩ := by
  have hl := list_len s
  apply ByteArray.ext
  apply Array.ext'
  have hp' : p < s.data.size := hp
  rw [List.set_eq_take_append_cons_drop, if_pos (by omega)]
  simp only [ByteArray.data_append, ByteArray.data_extract, Array.toList_append, Array.toList_extract, List.extract]
  simp
  exact List.take_of_length_le (by rw [List.length_drop, hl]; exact Nat.le_refl _)

theorem rset_loop {s : ByteArray} (m : Nat) (on : Bool) (sg : Sg) : ∀ (r M j : Nat), j + r = m % 8 → r < M →
    iter (ref10_Set.R0 C N) M (mkS [0, 1, 2, 8, 9] [Slot.v (S s) false, Slot.v (I m) false, Slot.v (B on) false, Slot.v (I (2 ^ j : Nat)) false, Slot.v (I j) false] [none, none, none, none, none] (RVal.sg sg)) (ref10_Set.K0 C N) =
      ref10_Set.K0 C N (.exit 0) (mkS [0, 1, 2, 8] [Slot.v (S s) false, Slot.v (I m) false, Slot.v (B on) false, Slot.v (I (2 ^ (m % 8) : Nat)) false] [none, none, none, none] (RVal.sg sg))
  | r, 0, j, _, h => by omega
  | 0, M + 1, j, hj, h => by
    have hj : j = m % 8 := by omega
    subst hj
    rw [iter_succ, ref10_Set.r0, if_neg (by omega), tmod8, if_neg (by simp), thenK_e]
  | r + 1, M + 1, j, hj, h => by
    have h8 : m % 8 < 8 := Nat.mod_lt _ (by omega)
    have e3 : ((j : Nat) : Int) + 1 = ((j + 1 : Nat) : Int) := by omega
    have e4 : (2 : Int) * ((2 ^ j : Nat) : Int) = ((2 ^ (j + 1) : Nat) : Int) := by rw [Nat.pow_succ]; generalize 2 ^ j = q; omega
    have e5 : 2 ^ (j + 1) < 4096 := Nat.lt_of_le_of_lt (Nat.pow_le_pow_right (by omega) (show j + 1 ≤ 8 by omega)) (by omega)
    rw [iter_succ, ref10_Set.r0, if_neg (by omega), tmod8, if_pos (by simp; omega), thenK_n, e4, e3, i64_nat e5, i64_nat (by omega)]
    exact rset_loop (s := s) m on sg r M (j + 1) (by omega) (by omega)

theorem rset_ev (hu : ∀ s i sg, C 20 [S s, I i] sg = some (.ret (B (usedS s i)) sg)) (s : ByteArray) (i : Int) (on : Bool) (hN : 8 < N) (sg : Sg) :
    evalF C N ref10_Set.a [S s, I i, B on] sg = some (.ret (.tup [S (setS s i on), I (codeS s i)]) sg) := by
  have bad : okI s i = false → (some (.ret (.tup [S ⟨#[]⟩, I 18]) sg) : R) = some (.ret (.tup [S (setS s i on), I (codeS s i)]) sg) := fun h => by
    simp [setS, codeS, h]
  rw [ref10_Set.main]
  by_cases h1 : s.size = 480
  · rw [if_pos (by simp [h1])]
    by_cases h2 : 0 ≤ i ∧ i < 3840
    · obtain ⟨m, rfl⟩ := Int.eq_ofNat_of_zero_le h2.1
      have hm : m < 3840 := by omega
      have hok : okI s (m : Int) = true := by simp [okI, h1]; omega
      have hp : m / 8 < s.size := by omega
      have hlt := byteN_lt s (m / 8)
      have h8 : m % 8 < 8 := Nat.mod_lt _ (by omega)
      have hus : usedS s (m : Int) = bitB (byteN s (m / 8)) (m % 8) := by simp [usedS, hok]
      have hloop := rset_loop (C := C) (N := N) (s := s) m on sg (m % 8) N 0 (by omega) (by omega)
      have e0 : ((2 ^ 0 : Nat) : Int) = 1 := rfl
      have e00 : ((0 : Nat) : Int) = 0 := rfl
      rw [e0, e00] at hloop
      rw [if_pos (by simp), if_neg (by simp; omega), hloop, ref10_Set.k0_1, if_neg (by omega), tdiv8, i64_id (by omega), if_pos ⟨by omega, by omega⟩, hu, withOut_ret, withB_at, hus]
      have hbyte : ((s.data.getD (m / 8) 0).toNat : Int) = (byteN s (m / 8) : Int) := rfl
      have w1 : IntKind.i64.wrap (((m / 8 : Nat) : Int) + 1) = ((m / 8 + 1 : Nat) : Int) := by rw [i64_id (by omega)]; omega
      have c1 : (0 : Int) ≤ 0 ∧ (0 : Int) ≤ ((m / 8 : Nat) : Int) ∧ ((m / 8 : Nat) : Int) ≤ (s.size : Int) := ⟨by omega, by omega, by omega⟩
      have c2 : (0 : Int) ≤ ((m / 8 + 1 : Nat) : Int) ∧ ((m / 8 + 1 : Nat) : Int) ≤ (s.size : Int) ∧ (s.size : Int) ≤ (s.size : Int) := ⟨by omega, by omega, Int.le_refl _⟩
      have i0 : Int.toNat 0 = 0 := rfl
      have rb := bit_ref hlt h8 on
      have nb : newB (byteN s (m / 8)) (m % 8) on < 256 := by
        obtain ⟨_, _, a3, a4⟩ := bit_set hlt h8
        cases on
        · exact a3
        · exact a4
      have fin : setS s (m : Int) on = s.extract 0 (m / 8) ++ ByteArray.mk ([UInt8.ofNat (newB (byteN s (m / 8)) (m % 8) on)].toArray) ++ s.extract (m / 8 + 1) s.size := by
        rw [ext_parts s _ _ hp]; simp [setS, hok, setL]
      have hco : codeS s (m : Int) = 0 := by simp [codeS, hok]
      rw [fin, hco]
      have z1 : ¬ ((((s.extract 0 (m / 8)).size + (ByteArray.mk ([UInt8.ofNat (newB (byteN s (m / 8)) (m % 8) on)].toArray)).size : Nat) : Int) > IntKind.i64.max) := by
        have e1 : (s.extract 0 (m / 8)).size ≤ 480 := by rw [ByteArray.size_extract]; omega
        have e2 : (ByteArray.mk ([UInt8.ofNat (newB (byteN s (m / 8)) (m % 8) on)].toArray)).size = 1 := rfl
        have e3 : IntKind.i64.max = 9223372036854775807 := rfl
        rw [e2, e3]; omega
      have z2 : ¬ ((((s.extract 0 (m / 8) ++ ByteArray.mk ([UInt8.ofNat (newB (byteN s (m / 8)) (m % 8) on)].toArray)).size + (s.extract (m / 8 + 1) s.size).size : Nat) : Int) > IntKind.i64.max) := by
        have e1 : (s.extract 0 (m / 8)).size ≤ 480 := by rw [ByteArray.size_extract]; omega
        have e4 : (s.extract (m / 8 + 1) s.size).size ≤ 480 := by rw [ByteArray.size_extract]; omega
        have e2 : (ByteArray.mk ([UInt8.ofNat (newB (byteN s (m / 8)) (m % 8) on)].toArray)).size = 1 := rfl
        have e3 : IntKind.i64.max = 9223372036854775807 := rfl
        rw [ByteArray.size_append, e2, e3]; omega
      unfold refB at rb
      cases on <;> cases hbit : bitB (byteN s (m / 8)) (m % 8) <;> simp only [hbit, if_true, if_false, Bool.false_eq_true] at rb ⊢ <;>
        rw [if_neg (by omega), if_pos c1] <;> simp only [hbyte, rb, bytesOf_one nb, withO_at, i0, Int.toNat_natCast] <;>
        rw [if_neg z1, if_neg (by omega), w1, if_pos c2] <;> simp only [Int.toNat_natCast] <;> rw [if_neg z2]
    · have hn : okI s i = false := by simp [okI]; intro _ a; have : ¬ (0 ≤ i ∧ i < 3840) := h2; omega
      by_cases h3 : i < 0
      · rw [if_neg (by simpa using h3)]; exact bad hn
      · rw [if_pos (by simpa using h3), if_pos (by simp; omega)]; exact bad hn
  · have hn : okI s i = false := by simp [okI, h1]
    rw [if_neg (by simp; omega)]
    exact bad hn
end Go.Abs
