/- A page of one byte, repeated: law08.Page by a plain function. -/
import Derived.Test.YtimoaolannkpcaaGreatOvProof
import Derived.Test.YtimoaolannkpcaaGreatOvDefs
import Derived.Test.YtimoaolannkpcaaGreatRsPage
import Derived.Test.YtimoaolannkpcaaGreatHp
set_option linter.unusedVariables false
set_option linter.unusedSimpArgs false
set_option linter.unusedSectionVars false
namespace Go.Abs
open Go.Proofs
set_option linter.unusedSimpArgs false
set_option linter.unusedVariables false
set_option maxRecDepth 100000
theorem pageAt_len (n : Int) {i : Nat} (h : i ≤ 480) : (pageAt n i).length = 480 := by simp [pageAt]; omega
theorem page_splice (n : Int) {i : Nat} (h : i < 480) : splice (pageAt n i) i [cell8 n] = pageAt n (i + 1) := by
  have h1 : (pageAt n i).take i = List.replicate i (cell8 n) := by
    rw [pageAt, List.take_append_of_le_length (by simp)]; simp
  have h2 : (pageAt n i).drop (i + 1) = List.replicate (480 - (i + 1)) (cell8 0) := by
    rw [pageAt, List.drop_append, List.drop_eq_nil_of_le (by simp)]; simp; omega
  simp only [splice, List.length_singleton]
  rw [h1, h2, pageAt, List.replicate_succ']
  simp
theorem bytes_rep (n : Int) : ∀ m, bytesOf (List.replicate m (cell8 n)) = some (List.replicate m (UInt8.ofNat n.toNat))
  | 0 => rfl
  | m + 1 => by
    rw [List.replicate_succ]
    show (match bytesOf (List.replicate m (cell8 n)) with | some bs => some (UInt8.ofNat n.toNat :: bs) | none => none) = _
    rw [bytes_rep n m]; rfl
def pgSt (n : Int) (i : Nat) (sg : Sg) : St := mkS [0, 3, 7, 8]
    [.v (.at (.int .u8 n)) false, .v (.gs sg.length 1 0 480) false, .v (.at (.int .i64 480)) false, .v (.at (.int .i64 (i : Int))) false]
    [none, none, none, none] (.sg (sg ++ [.mk (pageAt n i)]))
theorem pg_at (n : Int) (i : Nat) (sg : Sg) : (sg ++ [Box.mk (pageAt n i)])[sg.length]? = some (.mk (pageAt n i)) := by simp
variable {C : CallF} {N : Nat}
theorem pg_round {n : Int} {i : Nat} {sg : Sg} (h : i < 480) (k : Ex → St → R) : law08_Page.R0 C N (pgSt n i sg) k = k .normal (pgSt n (i + 1) sg) := by
  unfold pgSt
  have e1 : ((i : Nat) : Int).toNat = i := by simp
  have hl := pageAt_len n (Nat.le_of_lt h)
  rw [law08_Page.r0, if_pos (by simp; omega), elemV_gs (by omega) (by omega)]
  rw [wO, storeG_gp (n := 1) (v := .at (.int .u8 n)) (pg_at n i sg) rfl (by simp only [Box.cells_mk, hl, e1]; omega) (by simp only [Box.cells_mk, hl]; decide)]
  rw [wO]
  simp only [Box.cells_mk, e1]
  have e4 : splice (pageAt n i) (0 + i * 1) [AVal.at (Value.int IntKind.u8 n)] = pageAt n (i + 1) := by
    rw [Nat.zero_add, Nat.mul_one]; exact page_splice n h
  show k _ (mkS _ _ _ (.sg (List.set _ _ (.mk (splice (pageAt n i) (0 + i * 1) [AVal.at (Value.int IntKind.u8 n)]))))) = _
  rw [e4, i64_id (by omega)]
  congr 2
  simp
theorem pg_loop {n : Int} {sg : Sg} : ∀ (m i M : Nat), i + m = 480 → m < M →
    iter (law08_Page.R0 C N) M (pgSt n i sg) (law08_Page.K0 C N) = some (.ret (.at (.string ⟨⟨List.replicate 480 (UInt8.ofNat n.toNat)⟩⟩)) (sg ++ [.mk (pageAt n 480)]))
  | 0, i, M + 1, hi, hM => by
    obtain rfl : i = 480 := by omega
    show law08_Page.R0 C N _ _ = _
    unfold pgSt
    rw [law08_Page.r0, if_neg (by simp)]
    show law08_Page.K0 C N _ _ = _
    have hl := pageAt_len n (Nat.le_refl 480)
    rw [law08_Page.k0_1, flatG_gs (pg_at n 480 sg) (by simp only [Box.cells_mk, hl]; decide) (by simp only [Box.cells_mk, hl]; decide)]
    have e2 : List.take (480 * 1) (List.drop 0 (pageAt n 480)) = List.replicate 480 (cell8 n) := by simp [pageAt]
    simp only [Box.cells_mk, withO, e2, bytes_rep]
  | m + 1, i, M + 1, hi, hM => by
    have ih := pg_loop m (i + 1) M (n := n) (sg := sg) (by omega) (by omega)
    rw [← ih]
    show law08_Page.R0 C N _ _ = _
    rw [pg_round (by omega)]
    rfl
  | _, _, 0, _, hM => by omega
def noC : CallF := fun _ _ _ => none
theorem noC_sound : SoundC Tryz.prog noC := fun f args sg out h => by cases h
theorem page_ev (n : Int) (sg : Sg) : evalF noC 500 law08_Page.a [.at (.int .u8 n)] sg = some (.ret (.at (.string ⟨⟨List.replicate 480 (UInt8.ofNat n.toNat)⟩⟩)) (sg ++ [.mk (pageAt n 480)])) := by
  rw [law08_Page.main, if_pos (by decide)]
  have key := pg_loop (C := noC) (N := 500) (n := n) (sg := sg) 480 0 500 rfl (by decide)
  have e : (List.replicate (Int.toNat 480) [AVal.at (Value.int IntKind.u8 0)]).flatten = pageAt n 0 := by
    show (List.replicate 480 [cell8 0]).flatten = _
    rw [List.flatten_replicate_singleton]
    simp [pageAt]
  rw [e]
  exact key
theorem leafPage : Good 24 (fun _ _ xs sg => ovPage xs sg) := by
  intro C N xs sg out _ h
  replace h : ovPage xs sg = some out := h
  unfold ovPage at h
  split at h
  case h_2 => cases h
  rename_i n
  cases h
  exact leafF Tryz.func24 law08_Page.made law08_Page.fine (nb (by kernel_rfl)) (ne_of_beq (by kernel_rfl)) (by kernel_rfl) noC 500 _ _ _ noC_sound (page_ev n sg)
end Go.Abs
