/- tree.blank by a plain function. -/
import Derived.Test.YtojghbipoihboaaGreatOvProof
import Derived.Test.YtojghbipoihboaaGreatRsBlank
set_option linter.unusedVariables false
set_option linter.unusedSimpArgs false
set_option linter.unusedSectionVars false
namespace Go.Abs
open Go.Proofs
set_option linter.unusedSimpArgs false
set_option linter.unusedVariables false
set_option maxRecDepth 100000
def zeroB : List UInt8 → Bool
  | [] => true
  | x :: l => bif Nat.beq x.toNat 0 then zeroB l else false
def ovBlank (xs : List AVal) (sg : Sg) : R := match xs with
  | [.at (.string s)] => bif Nat.ble 10 s.data.toList.length && Nat.ble s.data.toList.length 65536 then some (.ret (.at (.bool (zeroB (s.data.toList.drop 10)))) sg) else none
  | _ => none
variable {C : CallF} {N : Nat}
def blSt (bs : List UInt8) (i : Nat) (sg : Sg) : St := mkS [7, 8, 9] [.ls 7 0 bs.length, .v (.at (.int .i64 (bs.length : Int))) false, .v (.at (.int .i64 (i : Int))) false] [some (.mk (ofBytes bs)), none, none] (.sg sg)
theorem bl_loop (bs : List UInt8) (sg : Sg) (hb : bs.length ≤ 65536) : ∀ (m i M : Nat), i + m = bs.length → m < M → iter (tree_blank.R0 C N) M (blSt bs i sg) (tree_blank.K0 C N) = some (.ret (.at (.bool (zeroB (bs.drop i)))) sg)
  | 0, i, M + 1, hi, hM => by
    obtain rfl : i = bs.length := by omega
    show tree_blank.R0 C N _ _ = _
    unfold blSt
    rw [tree_blank.r0, if_neg (by simp)]
    show tree_blank.K0 C N _ _ = _
    rw [tree_blank.k0_2, List.drop_length]; rfl
  | m + 1, i, M + 1, hi, hM => by
    have hlt : i < bs.length := by omega
    show tree_blank.R0 C N _ _ = _
    unfold blSt
    rw [tree_blank.r0, if_pos (by simp; omega), if_pos ⟨by omega, by omega⟩]
    have e1 : (0 : Nat) + ((i : Nat) : Int).toNat * 1 = i := by simp
    have e2 : (ofBytes bs)[i]? = some (.at (.int .u8 (bs[i].toNat : Int))) := by
      simp [ofBytes, List.getElem?_eq_getElem hlt]
    rw [e1, e2]
    simp only [withI, kEq, cond_true]
    rw [List.drop_eq_getElem_cons hlt]
    by_cases hz : bs[i].toNat = 0
    · rw [if_neg (by simp [hz]), i64_id (by omega)]
      have ih := bl_loop bs sg hb m (i + 1) M (by omega) (by omega)
      have : zeroB (bs[i] :: bs.drop (i + 1)) = zeroB (bs.drop (i + 1)) := by simp [zeroB, hz]
      rw [this, ← ih]
      rfl
    · rw [if_pos (by simpa using hz)]
      show tree_blank.K0 C N _ _ = _
      rw [tree_blank.k0_1]
      have hf : Nat.beq bs[i].toNat 0 = false := by
        cases hq : Nat.beq bs[i].toNat 0 with
        | false => rfl
        | true => exact absurd (Nat.eq_of_beq_eq_true hq) hz
      simp [zeroB, hf]
  | _, _, 0, _, hM => by omega
def noC2 : CallF := fun _ _ _ => none
theorem noC2_sound : SoundC Tryz.prog noC2 := fun f args sg out h => by cases h
theorem blank_ev (s : ByteArray) (sg : Sg) (h1 : 10 ≤ s.data.toList.length) (h2 : s.data.toList.length ≤ 65536) : evalF noC2 65537 tree_blank.a [.at (.string s)] sg = some (.ret (.at (.bool (zeroB (s.data.toList.drop 10)))) sg) := by
  have hsz : s.size = s.data.toList.length := rfl
  rw [tree_blank.main, if_pos ⟨by decide, by rw [hsz]; omega, by omega⟩]
  have e1 : (cutS s (Int.toNat 10) ((s.size : Int)).toNat).data.toList = s.data.toList.drop 10 := by
    show (s.data.toList.drop 10).take ((s.size : Int).toNat - 10) = _
    rw [List.take_of_length_le]
    rw [List.length_drop, hsz]; omega
  have e2 : (cutS s (Int.toNat 10) ((s.size : Int)).toNat).size = (s.data.toList.drop 10).length := by
    rw [← e1]; rfl
  rw [e1, e2]
  exact bl_loop (s.data.toList.drop 10) sg (by simp; omega) (s.data.toList.drop 10).length 0 65537 (by omega) (by simp; omega)
theorem leafBlank : Good 68 (fun _ _ xs sg => ovBlank xs sg) := by
  intro C N xs sg out _ h
  replace h : ovBlank xs sg = some out := h
  unfold ovBlank at h
  split at h
  case h_2 => cases h
  rename_i s
  obtain ⟨hc, h⟩ := bif_some h
  simp only [Bool.and_eq_true] at hc
  cases h
  exact leafF Tryz.func68 tree_blank.made tree_blank.fine (nb (by kernel_rfl)) (ne_of_beq (by kernel_rfl)) (by kernel_rfl) noC2 65537 _ _ _ noC2_sound (blank_ev s sg (Nat.le_of_ble_eq_true hc.1) (Nat.le_of_ble_eq_true hc.2))
end Go.Abs
