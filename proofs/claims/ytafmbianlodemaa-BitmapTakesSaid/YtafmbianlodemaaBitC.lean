/- THE BITMAP: what the small functions' evaluation gives. -/
import Derived.Test.YtafmbianlodemaaRsBit
import Derived.IntWalk
namespace Go.Abs
set_option linter.unusedSectionVars false
set_option linter.unusedSimpArgs false
set_option linter.unusedVariables false

abbrev I (n : Int) : AVal := .at (.int .i64 n)
abbrev B (b : Bool) : AVal := .at (.bool b)
abbrev S (s : ByteArray) : AVal := .at (.string s)
theorem withI_at {α : Type} (k : IntKind) (n : Int) (c : Int → Option α) : withI k (some (.at (.int k n))) c = c n := by cases k <;> rfl
theorem withB_at {α : Type} (b : Bool) (c : Bool → Option α) : withB (some (.at (.bool b))) c = c b := rfl
theorem withS_at {α : Type} (b : ByteArray) (c : ByteArray → Option α) : withS (some (.at (.string b))) c = c b := rfl
theorem withT_at {α : Type} (l : List AVal) (c : List AVal → Option α) : withT (.tup l) c = c l := rfl
theorem withO_at {α β : Type} (a : β) (c : β → Option α) : withO (some a) c = c a := rfl
theorem withOut_ret {α : Type} (v : AVal) (sg : Sg) (a b : AVal → Sg → Option α) : withOut (some (.ret v sg)) a b = a v sg := rfl
theorem bindL_eq {α : Type} (l : List AVal) (c : List AVal → Option α) : bindL l c = c l := rfl
theorem iter_succ (f : St → (Ex → St → R) → R) (n : Nat) (st : St) (k : Ex → St → R) : iter f (n + 1) st k = f st (thenK (fun st => iter f n st k) k) := rfl
theorem thenK_n (x : St → R) (k : Ex → St → R) (st : St) : thenK x k .normal st = x st := rfl
theorem thenK_e (x : St → R) (k : Ex → St → R) (i : Nat) (st : St) : thenK x k (.exit i) st = k (.exit i) st := rfl
theorem thenK_r (x : St → R) (k : Ex → St → R) (st : St) : thenK x k .ret st = k .ret st := rfl
theorem ble_t {a b : Nat} (h : a ≤ b) : Nat.ble a b = true := Nat.ble_eq_true_of_le h
theorem max2_eq (x y : Int) : max2 x y = max x y := by unfold max2; split <;> omega
theorem min2_eq (x y : Int) : min2 x y = min x y := by unfold min2; split <;> omega
theorem i64_id {n : Int} (h : -9223372036854775808 ≤ n ∧ n ≤ 9223372036854775807) : IntKind.i64.wrap n = n := Go.IntWalk.i64_in n h

def byteN (s : ByteArray) (j : Nat) : Nat := (s.data.getD j 0).toNat
def bitB (b k : Nat) : Bool := b / 2 ^ k % 2 == 1
def okI (s : ByteArray) (i : Int) : Bool := decide (s.size = 480 ∧ 0 ≤ i ∧ i < 3840)
def usedS (s : ByteArray) (i : Int) : Bool := okI s i && bitB (byteN s (i.toNat / 8)) (i.toNat % 8)

theorem byteN_lt (s : ByteArray) (j : Nat) : byteN s j < 256 := UInt8.toNat_lt _

def chkUsed : Bool := (List.range 256).all fun b => (List.range 8).all fun k => (bitsI .and .u8 (shiftI .shr .u8 (b : Int) (k : Int)) 1 == 1) == bitB b k
theorem chkUsed_ok : chkUsed = true := by kernel_rfl
theorem bit_used {b k : Nat} (hb : b < 256) (hk : k < 8) : (bitsI .and .u8 (shiftI .shr .u8 (b : Int) (k : Int)) 1 == 1) = bitB b k := by
  have h1 := List.all_eq_true.1 chkUsed_ok b (List.mem_range.2 hb)
  have h2 := List.all_eq_true.1 h1 k (List.mem_range.2 hk)
  exact eq_of_beq h2

theorem tdiv8 (m : Nat) : (m : Int).tdiv 8 = ((m / 8 : Nat) : Int) := by
  rw [Int.tdiv_eq_ediv_of_nonneg (by omega)]; omega
theorem tmod8 (m : Nat) : (m : Int).tmod 8 = ((m % 8 : Nat) : Int) := by
  rw [Int.tmod_eq_emod_of_nonneg (by omega)]; omega

variable {C : CallF} {N : Nat}
theorem is_ev (s : ByteArray) (sg : Sg) : evalF C N bitmap_is.a [S s] sg = some (.ret (B (decide (s.size = 480))) sg) := by
  rw [bitmap_is.main]
  have : ((s.size : Int) == 480) = decide (s.size = 480) := by
    rw [Bool.eq_iff_iff]; simp; omega
  rw [this]
theorem page_ev (i : Int) (sg : Sg) : evalF C N bitmap_page.a [I i] sg = some (.ret (B (decide (0 ≤ i ∧ i < 3840))) sg) := by
  rw [bitmap_page.main]
  by_cases h : i ≥ 0
  · rw [if_pos (by simpa using h)]
    have : decide (i < 3840) = decide (0 ≤ i ∧ i < 3840) := by rw [Bool.eq_iff_iff]; simp; omega
    rw [this]
  · rw [if_neg (by simpa using h)]
    have : decide (0 ≤ i ∧ i < 3840) = false := by simp; omega
    rw [this]

structure SmallC (C : CallF) : Prop where
  is : ∀ s sg, C 37 [S s] sg = some (.ret (B (decide (s.size = 480))) sg)
  page : ∀ i sg, C 38 [I i] sg = some (.ret (B (decide (0 ≤ i ∧ i < 3840))) sg)

theorem used_ev (K : SmallC C) (s : ByteArray) (i : Int) (sg : Sg) : evalF C N bitmap_Used.a [S s, I i] sg = some (.ret (B (usedS s i)) sg) := by
  rw [bitmap_Used.main, K.is, withOut_ret, withB_at]
  by_cases h1 : s.size = 480
  · rw [if_pos (by simpa using h1), K.page, withOut_ret, withB_at]
    by_cases h2 : 0 ≤ i ∧ i < 3840
    · obtain ⟨m, rfl⟩ := Int.eq_ofNat_of_zero_le h2.1
      have hm : m < 3840 := by omega
      rw [if_pos (by simpa using h2), if_neg (by omega), tdiv8, tmod8, i64_id (by omega), if_pos ⟨by omega, by omega⟩, if_neg (by omega), if_neg (by omega)]
      have hb := bit_used (byteN_lt s (m / 8)) (Nat.mod_lt m (show 0 < 8 by omega))
      simp only [Int.toNat_natCast]
      unfold byteN at hb
      rw [hb]
      simp only [usedS, okI, h1, h2, Int.toNat_natCast, byteN]
      simp [hm]
    · rw [if_neg (by simpa using h2)]
      have : usedS s i = false := by simp [usedS, okI]; intro _ a b; exact absurd ⟨a, b⟩ h2
      rw [this]
  · rw [if_neg (by simpa using h1)]
    have : usedS s i = false := by simp [usedS, okI, h1]
    rw [this]

/-! ### The document's -/
theorem i64_nat {q : Nat} (h : q < 4096) : IntKind.i64.wrap (q : Int) = (q : Int) := i64_id (by omega)
theorem tdiv2 (q : Nat) : (q : Int).tdiv 2 = ((q / 2 : Nat) : Int) := by
  rw [Int.tdiv_eq_ediv_of_nonneg (by omega)]; omega
theorem odd_eq (q : Nat) : ((q : Int).tmod 2 == 1) = (q % 2 == 1) := by
  rw [Int.tmod_eq_emod_of_nonneg (by omega), Bool.eq_iff_iff]; simp; omega
theorem rused_loop {s : ByteArray} (m : Nat) (b : Nat) (hb : b < 256) (sg : Sg) : ∀ (r M j : Nat), j + r = m % 8 → r < M →
    iter (ref10_Used.R0 C N) M (mkS [1, 5, 6] [Slot.v (I m) false, Slot.v (I (b / 2 ^ j : Nat)) false, Slot.v (I j) false] [none, none, none] (RVal.sg sg)) (ref10_Used.K0 C N) = some (.ret (B (bitB b (m % 8))) sg)
  | r, 0, j, _, h => by omega
  | 0, M + 1, j, hj, h => by
    rw [iter_succ, ref10_Used.r0, if_neg (by omega), tmod8, if_neg (by simp; omega), thenK_e, ref10_Used.k0_1, if_neg (by omega)]
    have hj : j = m % 8 := by omega
    subst hj
    rw [odd_eq]
    rfl
  | r + 1, M + 1, j, hj, h => by
    have h8 : m % 8 < 8 := Nat.mod_lt _ (by omega)
    have e1 : b / 2 ^ j / 2 = b / 2 ^ (j + 1) := by rw [Nat.pow_succ, ← Nat.div_div_eq_div_mul]
    have e2 : b / 2 ^ (j + 1) < 4096 := Nat.lt_of_le_of_lt (Nat.div_le_self _ _) (by omega)
    have e3 : ((j : Nat) : Int) + 1 = ((j + 1 : Nat) : Int) := by omega
    rw [iter_succ, ref10_Used.r0, if_neg (by omega), tmod8, if_pos (by simp; omega), if_neg (by omega), thenK_n, tdiv2, e1, i64_nat e2, e3, i64_nat (by omega)]
    exact rused_loop (s := s) m b hb sg r M (j + 1) (by omega) (by omega)
theorem rused_ev (s : ByteArray) (i : Int) (hN : 8 < N) (sg : Sg) : evalF C N ref10_Used.a [S s, I i] sg = some (.ret (B (usedS s i)) sg) := by
  rw [ref10_Used.main]
  by_cases h1 : s.size = 480
  · rw [if_pos (by simp [h1])]
    by_cases h2 : 0 ≤ i ∧ i < 3840
    · obtain ⟨m, rfl⟩ := Int.eq_ofNat_of_zero_le h2.1
      have hm : m < 3840 := by omega
      have hlt := byteN_lt s (m / 8)
      rw [if_pos (by simp), if_neg (by simp; omega), if_neg (by omega), tdiv8, i64_id (by omega), if_pos ⟨by omega, by omega⟩]
      simp only [Int.toNat_natCast]
      have e : IntKind.i64.wrap ((s.data.getD (m / 8) 0).toNat : Int) = ((byteN s (m / 8) / 2 ^ 0 : Nat) : Int) := by
        rw [i64_id (by unfold byteN at hlt; omega)]; simp [byteN]
      rw [e]
      have := rused_loop (C := C) (N := N) (s := s) m (byteN s (m / 8)) hlt sg (m % 8) N 0 (by omega) (by omega)
      refine this.trans ?_
      have : usedS s (m : Int) = bitB (byteN s (m / 8)) (m % 8) := by simp [usedS, okI, h1]; intro _; omega
      rw [this]
    · have : usedS s i = false := by simp [usedS, okI]; intro _ a b; exact absurd ⟨a, b⟩ h2
      rw [this]
      by_cases h3 : i < 0
      · rw [if_neg (by simpa using h3)]
      · rw [if_pos (by simpa using h3), if_pos (by simp; omega)]
  · rw [if_neg (by simp; omega)]
    have : usedS s i = false := by simp [usedS, okI, h1]
    rw [this]
end Go.Abs
