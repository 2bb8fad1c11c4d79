/- THE BITMAP: how many are in use; the law that compares. -/
import Derived.Test.YtafmbianlodemaaBitD
namespace Go.Abs
set_option linter.unusedSectionVars false
set_option linter.unusedSimpArgs false
set_option linter.unusedVariables false

def one1 (b : Bool) : Nat := if b = true then 1 else 0
def cnt (s : ByteArray) : Nat → Nat → Nat
  | 0, _ => 0
  | n + 1, i => one1 (usedS s (i : Int)) + cnt s n (i + 1)
theorem cnt_add (s : ByteArray) : ∀ (a b i : Nat), cnt s (a + b) i = cnt s a i + cnt s b (i + a)
  | 0, b, i => by simp [cnt]
  | a + 1, b, i => by
    rw [show a + 1 + b = (a + b) + 1 by omega]
    simp only [cnt, cnt_add s a b (i + 1)]
    rw [show i + 1 + a = i + (a + 1) by omega]; omega
theorem cnt_le (s : ByteArray) : ∀ (n i : Nat), cnt s n i ≤ n
  | 0, i => by simp [cnt]
  | n + 1, i => by
    have := cnt_le s n (i + 1)
    simp only [cnt, one1]; split <;> omega
theorem cnt_none {s : ByteArray} (h : s.size ≠ 480) : ∀ (n i : Nat), cnt s n i = 0
  | 0, i => rfl
  | n + 1, i => by
    have : usedS s (i : Int) = false := by simp [usedS, okI, h]
    simp [cnt, one1, this, cnt_none h n (i + 1)]

def popN (b : Nat) : Nat := one1 (bitB b 0) + (one1 (bitB b 1) + (one1 (bitB b 2) + (one1 (bitB b 3) + (one1 (bitB b 4) + (one1 (bitB b 5) + (one1 (bitB b 6) + (one1 (bitB b 7) + 0)))))))
def chkPop1 (b : Nat) : Bool := Nat.beq (popTab.data.getD b 0).toNat (popN b) && Nat.blt (popN b) 9
def chkPop : Bool := (List.range 256).all chkPop1
theorem chkPop_ok : chkPop = true := by kernel_rfl
theorem pop_size_b : Nat.beq popTab.size 256 = true := by kernel_rfl
theorem size_of_b (t : ByteArray) (h : Nat.beq t.size 256 = true) : t.size = 256 := Nat.eq_of_beq_eq_true h
attribute [local irreducible] popTab
theorem pop_size : popTab.size = 256 := size_of_b popTab pop_size_b
theorem pop_at {b : Nat} (hb : b < 256) : (popTab.data.getD b 0).toNat = popN b ∧ popN b < 9 := by
  have h2 : chkPop1 b = true := List.all_eq_true.1 chkPop_ok b (List.mem_range.2 hb)
  have h3 := (Bool.and_eq_true _ _).mp h2
  exact ⟨Nat.eq_of_beq_eq_true h3.1, Nat.blt_eq ▸ h3.2⟩

theorem used_at {s : ByteArray} (h : s.size = 480) {p k : Nat} (hp : p < 480) (hk : k < 8) : usedS s ((8 * p + k : Nat) : Int) = bitB (byteN s p) k := by
  have e1 : (8 * p + k) / 8 = p := by omega
  have e2 : (8 * p + k) % 8 = k := by omega
  have : okI s ((8 * p + k : Nat) : Int) = true := by simp only [okI, decide_eq_true_eq]; omega
  simp only [usedS, this, Bool.true_and, Int.toNat_natCast, e1, e2]
theorem cnt_byte {s : ByteArray} (h : s.size = 480) {p : Nat} (hp : p < 480) : cnt s 8 (8 * p) = popN (byteN s p) := by
  have u : ∀ k, k < 8 → usedS s ((8 * p + k : Nat) : Int) = bitB (byteN s p) k := fun k hk => used_at h hp hk
  have e0 := u 0 (by omega)
  rw [Nat.add_zero] at e0
  simp only [cnt, popN, Nat.add_assoc, e0, u 1 (by omega), u 2 (by omega), u 3 (by omega), u 4 (by omega), u 5 (by omega), u 6 (by omega), u 7 (by omega), Nat.reduceAdd]

variable {C : CallF} {N : Nat}
theorem pop_ev {b : Nat} (hb : b < 256) (sg : Sg) : evalF C N math_bits_OnesCount8.a [.at (.int .u8 (b : Int))] sg = some (.ret (I (popN b)) sg) := by
  obtain ⟨h1, h2⟩ := pop_at hb
  rw [math_bits_OnesCount8.main, if_pos ⟨by omega, by rw [pop_size]; omega⟩, Int.toNat_natCast, h1, i64_nat (by omega)]

structure ManyC (C : CallF) : Prop extends SmallC C where
  used : ∀ s i sg, C 19 [S s, I i] sg = some (.ret (B (usedS s i)) sg)
  pop : ∀ b : Nat, b < 256 → ∀ sg, C 39 [.at (.int .u8 (b : Int))] sg = some (.ret (I (popN b)) sg)

theorem many_loop (K : ManyC C) {s : ByteArray} (h1 : s.size = 480) (sg : Sg) {t : Int} (ht : t ≤ 3840) : ∀ (M i n : Nat), (t - i).toNat < M → n ≤ i →
    iter (bitmap_Many.R0 C N) M (mkS [0, 2, 7, 8] [Slot.v (S s) false, Slot.v (I t) false, Slot.v (I n) false, Slot.v (I i) false] [none, none, none, none] (RVal.sg sg)) (bitmap_Many.K0 C N) =
      some (.ret (I (n + cnt s (t - i).toNat i : Nat)) sg)
  | 0, i, n, h, _ => by omega
  | M + 1, i, n, h, hn => by
    rw [iter_succ, bitmap_Many.r0]
    by_cases hlt : (i : Int) < t
    · rw [if_pos (by simpa using hlt), if_neg (by omega), tmod8, tdiv8]
      have hi : i < 3840 := by omega
      have step : ∀ X : Bool, X = usedS s (i : Int) → ∀ m : Nat, m = n + one1 X → iter (bitmap_Many.R0 C N) M (mkS [0, 2, 7, 8] [Slot.v (S s) false, Slot.v (I t) false, Slot.v (I (m : Nat)) false, Slot.v (I (i + 1 : Nat)) false] [none, none, none, none] (RVal.sg sg)) (bitmap_Many.K0 C N) =
          some (.ret (I (n + cnt s (t - i).toNat i : Nat)) sg) := by
        rintro X rfl m rfl
        rw [many_loop K h1 sg ht M (i + 1) _ (by omega) (by unfold one1; split <;> omega)]
        have e : (t - (i : Int)).toNat = (t - ((i + 1 : Nat) : Int)).toNat + 1 := by omega
        rw [e]; simp only [cnt, Nat.add_assoc]
      have single : (withOut (C 19 [S s, I i] sg) (fun (v : AVal) (sg' : Sg) => withB (some v) fun (b : Bool) =>
          if b = true then thenK (fun st => iter (bitmap_Many.R0 C N) M st (bitmap_Many.K0 C N)) (bitmap_Many.K0 C N) Ex.normal (mkS [0, 2, 7, 8] [Slot.v (S s) false, Slot.v (I t) false, Slot.v (I (IntKind.i64.wrap ((n : Int) + 1))) false, Slot.v (I (IntKind.i64.wrap ((i : Int) + 1))) false] [none, none, none, none] (RVal.sg sg'))
          else thenK (fun st => iter (bitmap_Many.R0 C N) M st (bitmap_Many.K0 C N)) (bitmap_Many.K0 C N) Ex.normal (mkS [0, 2, 7, 8] [Slot.v (S s) false, Slot.v (I t) false, Slot.v (I n) false, Slot.v (I (IntKind.i64.wrap ((i : Int) + 1))) false] [none, none, none, none] (RVal.sg sg')))
          fun (v : AVal) (sg' : Sg) => some (Out.pan v sg')) = some (.ret (I (n + cnt s (t - i).toNat i : Nat)) sg) := by
        have w1 : IntKind.i64.wrap ((i : Int) + 1) = ((i + 1 : Nat) : Int) := by rw [i64_id (by omega)]; omega
        have w2 : IntKind.i64.wrap ((n : Int) + 1) = ((n + 1 : Nat) : Int) := by rw [i64_id (by omega)]; omega
        rw [K.used, withOut_ret, withB_at, w1, w2]
        cases hu : usedS s (i : Int) with
        | true => rw [if_pos rfl, thenK_n]; exact step true hu.symm (n + 1) rfl
        | false => rw [if_neg (by simp), thenK_n]; exact step false hu.symm n rfl
      by_cases h8 : i % 8 = 0
      · rw [if_pos (by simp [h8]), i64_id (n := (i : Int) + 8) (by omega)]
        by_cases h9 : (i : Int) + 8 ≤ t
        · have hb := byteN_lt s (i / 8)
          have hbe : ((s.data.getD (i / 8) 0).toNat : Int) = (byteN s (i / 8) : Int) := rfl
          have hp9 := (pop_at hb).2
          rw [if_pos (by simpa using h9), if_neg (by omega), i64_id (by omega), if_pos ⟨by omega, by omega⟩, Int.toNat_natCast, hbe, K.pop _ hb, withOut_ret, withI_at, thenK_n]
          have w1 : (i : Int) + 8 = ((i + 8 : Nat) : Int) := by omega
          have w2 : IntKind.i64.wrap ((n : Int) + (popN (byteN s (i / 8)) : Int)) = ((n + popN (byteN s (i / 8)) : Nat) : Int) := by rw [i64_id (by omega)]; omega
          rw [w1, w2, many_loop K h1 sg ht M (i + 8) _ (by omega) (by omega)]
          have e : (t - (i : Int)).toNat = 8 + (t - ((i + 8 : Nat) : Int)).toNat := by omega
          have e2 := cnt_byte h1 (p := i / 8) (by omega)
          rw [show 8 * (i / 8) = i by omega] at e2
          rw [e, cnt_add, e2, Nat.add_assoc]
        · rw [if_neg (by simpa using h9)]
          exact single
      · rw [if_neg (by simp; omega)]
        exact single
    · rw [if_neg (by simpa using hlt), thenK_e, bitmap_Many.k0_1]
      have : (t - (i : Int)).toNat = 0 := by omega
      rw [this]; rfl

def manyS (s : ByteArray) (a b : Int) : Nat := cnt s (min b 3840 - max a 0).toNat (max a 0).toNat
theorem many_ev (K : ManyC C) (s : ByteArray) (a b : Int) (ha : a ≤ 9223372036854775807) (hN : 4000 < N) (sg : Sg) : evalF C N bitmap_Many.a [S s, I a, I b] sg = some (.ret (I (manyS s a b : Nat)) sg) := by
  rw [bitmap_Many.main, K.is, withOut_ret, withB_at]
  by_cases h1 : s.size = 480
  · rw [if_neg (by simp [h1])]
    simp only [cond_true, cond_false, max2_eq, min2_eq]
    obtain ⟨m, hm⟩ := Int.eq_ofNat_of_zero_le (show 0 ≤ max a 0 by omega)
    rw [hm]
    have := many_loop (N := N) K h1 sg (t := min b 3840) (by omega) N m 0 (by omega) (by omega)
    refine this.trans ?_
    simp only [manyS, hm, Int.toNat_natCast, Nat.zero_add]
  · rw [if_pos (by simp [h1])]
    simp [manyS, cnt_none h1]

theorem rmany_loop (hu : ∀ s i sg, C 20 [S s, I i] sg = some (.ret (B (usedS s i)) sg)) {s : ByteArray} {a b : Int} (sg : Sg) : ∀ (r M i n : Nat), i + r = 3840 → r < M → n ≤ i →
    iter (ref10_Many.R0 C N) M (mkS [0, 1, 2, 7, 8] [Slot.v (S s) false, Slot.v (I a) false, Slot.v (I b) false, Slot.v (I n) false, Slot.v (I i) false] [none, none, none, none, none] (RVal.sg sg)) (ref10_Many.K0 C N) =
      some (.ret (I (n + cnt s (min b 3840 - max (i : Int) (max a 0)).toNat (max (i : Int) (max a 0)).toNat : Nat)) sg)
  | r, 0, i, n, _, h, _ => by omega
  | 0, M + 1, i, n, hi, h, _ => by
    rw [iter_succ, ref10_Many.r0, if_neg (by simp; omega), thenK_e, ref10_Many.k0_1]
    have : (min b 3840 - max (i : Int) (max a 0)).toNat = 0 := by omega
    rw [this]; rfl
  | r + 1, M + 1, i, n, hi, h, hn => by
    have w1 : IntKind.i64.wrap ((i : Int) + 1) = ((i + 1 : Nat) : Int) := by rw [i64_id (by omega)]; omega
    have w2 : IntKind.i64.wrap ((n : Int) + 1) = ((n + 1 : Nat) : Int) := by rw [i64_id (by omega)]; omega
    have IH := fun n' hn' => rmany_loop hu (s := s) (a := a) (b := b) sg r M (i + 1) n' (by omega) (by omega) hn'
    rw [iter_succ, ref10_Many.r0, if_pos (by simp; omega)]
    by_cases h1 : (i : Int) ≥ a
    · have e1 : max (i : Int) (max a 0) = i := by omega
      have e2 : max ((i + 1 : Nat) : Int) (max a 0) = ((i + 1 : Nat) : Int) := by omega
      rw [if_pos (by simpa using h1), e1]
      rw [e2] at IH
      simp only [Int.toNat_natCast] at IH ⊢
      by_cases h2 : (i : Int) < b
      · have e3 : (min b 3840 - (i : Int)).toNat = (min b 3840 - ((i + 1 : Nat) : Int)).toNat + 1 := by omega
        rw [if_pos (by simpa using h2), hu, withOut_ret, withB_at, e3]
        simp only [cnt]
        cases hus : usedS s (i : Int) with
        | true =>
          rw [if_pos rfl, thenK_n, w1, w2, IH (n + 1) (by omega)]
          simp only [one1, if_true, Nat.add_assoc]
        | false =>
          rw [if_neg (by simp), thenK_n, w1, IH n (by omega)]
          simp [one1]
      · have e3 : (min b 3840 - (i : Int)).toNat = 0 := by omega
        have e4 : (min b 3840 - ((i + 1 : Nat) : Int)).toNat = 0 := by omega
        rw [if_neg (by simpa using h2), thenK_n, w1, IH n (by omega), e3, e4]
        rfl
    · have e1 : max ((i + 1 : Nat) : Int) (max a 0) = max (i : Int) (max a 0) := by omega
      rw [if_neg (by simpa using h1), thenK_n, w1, IH n (by omega), e1]
theorem rmany_ev (hu : ∀ s i sg, C 20 [S s, I i] sg = some (.ret (B (usedS s i)) sg)) (s : ByteArray) (a b : Int) (hN : 4000 < N) (sg : Sg) : evalF C N ref10_Many.a [S s, I a, I b] sg = some (.ret (I (manyS s a b : Nat)) sg) := by
  rw [ref10_Many.main]
  have := rmany_loop (N := N) hu (s := s) (a := a) (b := b) sg 3840 N 0 0 (by omega) (by omega) (by omega)
  refine this.trans ?_
  have e : max ((0 : Nat) : Int) (max a 0) = max a 0 := by omega
  rw [e, Nat.zero_add]; rfl
end Go.Abs
