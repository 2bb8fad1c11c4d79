
import Derived.Test.YtimoaolannkpcaaGreatTabP1
import Derived.Test.YtimoaolannkpcaaGreatOvCrc
set_option linter.unusedVariables false
set_option linter.unusedSimpArgs false
set_option linter.unusedSectionVars false
namespace Go.Abs
open Go.Proofs
set_option maxRecDepth 100000
def crcTree : Tr := .node 415 (.leaf 380 fun C N xs sg => evalF C N crc_More.a xs sg) (.node 435 (.leaf 415 fun C N xs sg => evalF C N crc_fours.a xs sg) (.leaf 435 fun C N xs sg => evalF C N crc_half.a xs sg))
theorem crcTree_good : crcTree.All Good :=
  ⟨leafF Tryz.func380 crc_More.made crc_More.fine (nb (by kernel_rfl)) (ne_of_beq (by kernel_rfl)) (by kernel_rfl),
   leafF Tryz.func415 crc_fours.made crc_fours.fine (nb (by kernel_rfl)) (ne_of_beq (by kernel_rfl)) (by kernel_rfl),
   leafF Tryz.func435 crc_half.made crc_half.fine (nb (by kernel_rfl)) (ne_of_beq (by kernel_rfl)) (by kernel_rfl)⟩
def tabC (N : Nat) : Nat → CallF
  | 0 => fun _ _ _ => none
  | d + 1 => fun f xs sg => crcTree.run f (tabC N d) N xs sg
theorem tabC_sound (N : Nat) : ∀ d, SoundC Tryz.prog (tabC N d)
  | 0 => fun f args sg out h => by simp [tabC] at h
  | d + 1 => fun f args sg out h => by
    simp only [tabC] at h
    obtain ⟨g, hg, h⟩ := Tr.run_some crcTree_good h
    exact hg _ _ _ _ _ (tabC_sound N d) h
theorem fours_ev (n : Nat) : tabC (n + 20) 2 415 [] [] = some (.ret (.agg TBL) []) := by kernel_rfl
theorem tabC_succ (N d f : Nat) (xs : List AVal) (sg : Sg) : tabC N (d + 1) f xs sg = crcTree.run f (tabC N d) N xs sg := rfl
theorem run380 (C : CallF) (N : Nat) (xs : List AVal) (sg : Sg) : crcTree.run 380 C N xs sg = evalF C N crc_More.a xs sg := rfl
theorem noG_TBL : noG (.agg TBL) = true := by kernel_rfl
theorem TBL_len : TBL.length.beq 16 = true := by kernel_rfl
theorem TBL_splice : splice (List.replicate 16 (.at (.int .u32 0))) 0 TBL = TBL := by kernel_rfl
theorem more_ev {c : Nat} {s : ByteArray} {sg : Sg} (hc : c < 4294967296) (hs : s.data.toList.length < 9223372036854775807) :
    tabC (s.data.toList.length + 20) 3 380 [.at (.int .u32 (c : Int)), .at (.string s)] sg = some (.ret (.at (.int .u32 (Nat.xor (crcL s.data.toList (Nat.xor c 4294967295)) 4294967295 : Nat))) sg) := by
  rw [tabC_succ _ 2, run380, crc_More.main]
  have e1 : (bif Nat.blt (415 : Nat) (1000000 : Nat) then tabC (s.data.toList.length + 20) 2 (415 : FuncId) [] [] else none) = some (.ret (.agg TBL) []) := by
    rw [show Nat.blt (415 : Nat) (1000000 : Nat) = true from rfl, cond_true]
    exact fours_ev _
  rw [e1]
  have e2 : bitsI BinOp.xor IntKind.u32 (c : Int) (4294967295 : Int) = ((c ^^^ 4294967295 : Nat) : Int) := bits_xor hc (by decide)
  have hx := xor_lt hc (show 4294967295 < 4294967296 by decide)
  have key := (crc_loop (C := tabC (s.data.toList.length + 20) 2) (N := s.data.toList.length + 20) (m := s.size) (bs := s.data.toList) (sg := sg) rfl (by simpa using hs) s.data.toList (c ^^^ 4294967295) 0 (s.data.toList.length + 20) hx (by simp) rfl (by omega)).1
  unfold crcSt at key
  simp only [withOut, withG, noG_TBL, cond_true, TBL_len, bindL, show splice _ 0 TBL = TBL from TBL_splice, e2]
  exact key
theorem leafMore : Good 380 (fun _ _ xs sg => ovMore xs sg) := by
  intro C N xs sg out _ h
  replace h : ovMore xs sg = some out := h
  unfold ovMore at h
  split at h
  case h_2 => cases h
  rename_i c s
  obtain ⟨⟨h1, h2, h3⟩, h4⟩ := if_some h
  cases h4
  have hc : c = ((c.toNat : Nat) : Int) := by omega
  have ev := more_ev (c := c.toNat) (s := s) (sg := sg) (by omega) h3
  rw [← hc] at ev
  exact tabC_sound _ 3 _ _ _ _ ev
end Go.Abs
