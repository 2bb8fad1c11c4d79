
import Derived.Test.YtimoaolannkpcaaGreatOvBase
import Derived.Test.YtimoaolannkpcaaGreatRsCrc
import Derived.KernelRfl
import Derived.IntWalk
set_option linter.unusedVariables false
set_option linter.unusedSimpArgs false
set_option linter.unusedSectionVars false
namespace Go.Abs
set_option linter.unusedSimpArgs false
set_option linter.unusedVariables false
set_option maxRecDepth 100000
theorem u32_id {n : Nat} (h : n < 4294967296) : IntKind.u32.wrap (n : Int) = n := by
  simp [IntKind.wrap, IntKind.signed, IntKind.bits]; omega
theorem i64_id {n : Int} (h : -9223372036854775808 ≤ n ∧ n ≤ 9223372036854775807) : IntKind.i64.wrap n = n := Go.IntWalk.i64_in n h
theorem bv32 {x : Nat} (h : x < 4294967296) : (BitVec.ofInt 32 (x : Int)).toNat = x := by
  rw [BitVec.ofInt_natCast, BitVec.toNat_ofNat]; exact Nat.mod_eq_of_lt (by simpa using h)
theorem xor_lt {x y : Nat} (hx : x < 4294967296) (hy : y < 4294967296) : x ^^^ y < 4294967296 := Nat.xor_lt_two_pow (n := 32) hx hy
theorem bits_xor {x y : Nat} (hx : x < 4294967296) (hy : y < 4294967296) : bitsI .xor .u32 (x : Int) (y : Int) = ((x ^^^ y : Nat) : Int) := by
  have e : bitsI .xor .u32 (x : Int) (y : Int) = IntKind.u32.wrap (((BitVec.ofInt 32 (x : Int)).xor (BitVec.ofInt 32 (y : Int))).toNat : Int) := rfl
  rw [e]
  have : ((BitVec.ofInt 32 (x : Int)).xor (BitVec.ofInt 32 (y : Int))).toNat = x ^^^ y := by
    show ((BitVec.ofInt 32 (x : Int)) ^^^ (BitVec.ofInt 32 (y : Int))).toNat = x ^^^ y
    rw [BitVec.toNat_xor, bv32 hx, bv32 hy]
  rw [this, u32_id (xor_lt hx hy)]
theorem bits_and {x : Nat} (hx : x < 4294967296) : bitsI .and .u32 (x : Int) 15 = ((x &&& 15 : Nat) : Int) := by
  have e : bitsI .and .u32 (x : Int) 15 = IntKind.u32.wrap (((BitVec.ofInt 32 (x : Int)) &&& (BitVec.ofInt 32 ((15 : Nat) : Int))).toNat : Int) := rfl
  rw [e, BitVec.toNat_and, bv32 hx, bv32 (by decide)]
  exact u32_id (Nat.lt_of_le_of_lt Nat.and_le_right (by decide))
theorem shr4 {x : Nat} : shiftI .shr .u32 (x : Int) 4 = ((x >>> 4 : Nat) : Int) := by
  have e : shiftI .shr .u32 (x : Int) 4 = (x : Int).fdiv ((16 : Nat) : Int) := rfl
  rw [e, Int.fdiv_eq_ediv_of_nonneg _ (by omega), Nat.shiftRight_eq_div_pow]
  rfl
def TBL : List AVal := crcT.map fun (n : Nat) => .at (.int .u32 (n : Int))
theorem crcT_lt (j : Nat) (h : j < 16) : crcT.getD j 0 < 4294967296 := by
  have : ∀ j < 16, crcT.getD j 0 < 4294967296 := by decide
  exact this j h
theorem TBL_at (j : Nat) (h : j < 16) : TBL[0 + j * 1]? = some (.at (.int .u32 (crcT.getD j 0 : Nat))) := by
  have hl : j < crcT.length := h
  simp only [TBL, Nat.zero_add, Nat.mul_one, List.getElem?_map, List.getD_eq_getElem?_getD, List.getElem?_eq_getElem hl]
  rfl
theorem and_lt (x : Nat) : x &&& 15 < 16 := Nat.lt_of_le_of_lt Nat.and_le_right (by decide)
theorem nib_lt {x : Nat} (hx : x < 4294967296) : nib x < 4294967296 := by
  unfold nib
  have h1 : x >>> 4 < 4294967296 := by rw [Nat.shiftRight_eq_div_pow]; exact Nat.lt_of_le_of_lt (Nat.div_le_self _ _) hx
  exact xor_lt h1 (crcT_lt _ (and_lt x))
theorem nib_ev {x : Nat} (hx : x < 4294967296) : bitsI .xor .u32 (shiftI .shr .u32 (x : Int) 4) ((crcT.getD (x &&& 15) 0 : Nat) : Int) = (nib x : Nat) := by
  rw [shr4, bits_xor (by rw [Nat.shiftRight_eq_div_pow]; exact Nat.lt_of_le_of_lt (Nat.div_le_self _ _) hx) (crcT_lt _ (and_lt x))]
  rfl
def crcSt (c : Nat) (m i : Nat) (l : List AVal) (sg : Sg) : St := mkS [5, 6, 13, 14, 15]
    [.lp 5 0, .v (.at (.int .u32 (c : Int))) false, .ls 13 0 m, .v (.at (.int .i64 (m : Int))) false, .v (.at (.int .i64 (i : Int))) false]
    [some (.mk TBL), none, some (.mk l), none, none] (.sg sg)
theorem ofBytes_at (l : List UInt8) (i : Nat) (b : UInt8) (h : l[i]? = some b) : (ofBytes l)[0 + i * 1]? = some (.at (.int .u8 b.toNat)) := by
  simp [ofBytes, h]
variable {C : CallF} {N : Nat}
theorem withI_at {α : Type} (k : IntKind) (n : Int) (c : Int → Option α) : withI k (some (.at (.int k n))) c = c n := by cases k <;> rfl
theorem crc_round {c i m : Nat} {bs : List UInt8} {sg : Sg} {b : UInt8} (hc : c < 4294967296) (hm : m = bs.length) (hm2 : m < 9223372036854775807) (hb : bs[i]? = some b) (k : Ex → St → R) :
    crc_More.R0 C N (crcSt c m i (ofBytes bs) sg) k = k .normal (crcSt (nib (nib (c ^^^ b.toNat))) m (i + 1) (ofBytes bs) sg) := by
  obtain ⟨hi, _⟩ := List.getElem?_eq_some_iff.1 hb
  have hb1 : b.toNat < 4294967296 := Nat.lt_trans (UInt8.toNat_lt b) (by decide)
  have hx := xor_lt hc hb1
  have hn := nib_lt hx
  unfold crcSt
  rw [crc_More.r0]
  have e1 : ((i : Nat) : Int).toNat = i := by simp
  rw [if_pos (by simp; omega), if_pos ⟨by omega, by omega⟩, e1, ofBytes_at _ _ _ hb, withI_at, u32_id hb1, bits_xor hc hb1, bits_and hx]
  have j1 : (((c ^^^ b.toNat) &&& 15 : Nat) : Int).toNat = (c ^^^ b.toNat) &&& 15 := by simp
  rw [if_neg (by decide), if_pos ⟨by omega, by have := and_lt (c ^^^ b.toNat); omega⟩, j1, TBL_at _ (and_lt _), withI_at, if_neg (by decide)]
  rw [nib_ev hx, bits_and hn]
  have j2 : ((nib (c ^^^ b.toNat) &&& 15 : Nat) : Int).toNat = nib (c ^^^ b.toNat) &&& 15 := by simp
  rw [if_pos ⟨by omega, by have := and_lt (nib (c ^^^ b.toNat)); omega⟩, j2, TBL_at _ (and_lt _), withI_at, nib_ev hn, i64_id (by omega)]
  rfl
theorem crc_loop {m : Nat} {bs : List UInt8} {sg : Sg} (hm : m = bs.length) (hm2 : m < 9223372036854775807) : ∀ (rest : List UInt8) (c i M : Nat), c < 4294967296 → i + rest.length = m → bs.drop i = rest → rest.length < M →
    iter (crc_More.R0 C N) M (crcSt c m i (ofBytes bs) sg) (crc_More.K0 C N) = some (.ret (.at (.int .u32 (Nat.xor (crcL rest c) 4294967295 : Nat))) sg) ∧ crcL rest c < 4294967296
  | [], c, i, M + 1, hc, hi, hd, hM => by
    refine ⟨?_, hc⟩
    show crc_More.R0 C N _ _ = _
    unfold crcSt
    rw [crc_More.r0, if_neg (by simp at hi ⊢; omega)]
    show crc_More.K0 C N _ _ = _
    rw [crc_More.k0_1]
    rw [show (4294967295 : Int) = ((4294967295 : Nat) : Int) from rfl, bits_xor hc (by decide)]
    rfl
  | b :: rest, c, i, M + 1, hc, hi, hd, hM => by
    have hb : bs[i]? = some b := by
      have := congrArg List.head? hd
      rw [List.head?_drop] at this
      simpa using this
    have hb1 : b.toNat < 4294967296 := Nat.lt_trans (UInt8.toNat_lt b) (by decide)
    have hx := xor_lt hc hb1
    have hd' : bs.drop (i + 1) = rest := by
      have := congrArg List.tail hd
      rwa [List.tail_drop] at this
    have ih := crc_loop (sg := sg) hm hm2 rest (nib (nib (c ^^^ b.toNat))) (i + 1) M (nib_lt (nib_lt hx)) (by simp at hi; omega) hd' (by simp at hM; omega)
    have e : crcL (b :: rest) c = crcL rest (nib (nib (c ^^^ b.toNat))) := by
      simp only [crcL, seqN_eq]; rfl
    rw [e]
    refine ⟨?_, ih.2⟩
    rw [← ih.1]
    show crc_More.R0 C N _ _ = _
    rw [crc_round hc hm hm2 hb]
    rfl
  | _, _, _, 0, _, _, _, hM => by omega
end Go.Abs
