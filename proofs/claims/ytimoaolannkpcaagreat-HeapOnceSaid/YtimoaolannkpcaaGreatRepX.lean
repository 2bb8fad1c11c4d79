/- slices.Repeat of one text; a new disk. -/
import Derived.Test.YtimoaolannkpcaaGreatJnX
import Derived.Test.YtimoaolannkpcaaGreatRsB
set_option linter.unusedVariables false
set_option linter.unusedSimpArgs false
set_option linter.unusedSectionVars false
namespace Go.Abs
open Go
set_option linter.unusedVariables false
set_option maxRecDepth 100000
def mulHi (n0 n1 : Int) : Int := IntKind.u64.wrap (IntKind.u64.wrap (IntKind.u64.wrap (shiftI BinOp.shr IntKind.u64 n0 32 * shiftI BinOp.shr IntKind.u64 n1 32) + shiftI BinOp.shr IntKind.u64
  (IntKind.u64.wrap (IntKind.u64.wrap (shiftI BinOp.shr IntKind.u64 n0 32 * bitsI BinOp.and IntKind.u64 n1 4294967295) + shiftI BinOp.shr IntKind.u64 (IntKind.u64.wrap (bitsI BinOp.and IntKind.u64 n0 4294967295 * bitsI BinOp.and IntKind.u64 n1 4294967295)) 32)) 32) +
  shiftI BinOp.shr IntKind.u64 (IntKind.u64.wrap (bitsI BinOp.and IntKind.u64 (IntKind.u64.wrap (IntKind.u64.wrap (shiftI BinOp.shr IntKind.u64 n0 32 * bitsI BinOp.and IntKind.u64 n1 4294967295) + shiftI BinOp.shr IntKind.u64 (IntKind.u64.wrap (bitsI BinOp.and IntKind.u64 n0 4294967295 * bitsI BinOp.and IntKind.u64 n1 4294967295)) 32)) 4294967295 +
    IntKind.u64.wrap (bitsI BinOp.and IntKind.u64 n0 4294967295 * shiftI BinOp.shr IntKind.u64 n1 32))) 32)
def chkMul : Bool := (List.range 4900).all fun (n : Nat) => mulHi 1 (n : Int) == 0 && (IntKind.u64.wrap (1 * (n : Int)) == n && (IntKind.u64.wrap (n : Int) == n))
theorem chkMul_ok : chkMul = true := by kernel_rfl
variable {N dp : Nat} {sg : Sg} {d n k : Nat} {A R : Hp}
theorem mul_ok {n : Nat} (h : n < 4900) : Ev (tab N (dp + 2) 250 [vU 1, vU n] []) (Rt fun v _ => v = .tup [vU 0, vU n]) := by
  have hc := List.all_eq_true.1 chkMul_ok n (List.mem_range.2 h)
  simp only [Bool.and_eq_true, beq_iff_eq] at hc
  refine ev_of ((t250 ..).trans (math_bits_Mul.main ..)) ?_
  refine ev_call (φ := fun v _ => v = .tup [vU 0, vU n]) ?_ rfl ?_
  · refine ev_of ((t336 ..).trans (math_bits_Mul64.main ..)) ?_
    refine ev_else (by decide) (ev_else (by decide) (ev_else (by decide) (ev_else (by decide) (ev_else (by decide) (ev_ret ?_)))))
    show AVal.tup [vU (mulHi 1 n), vU (IntKind.u64.wrap (1 * (n : Int)))] = _
    rw [hc.1, hc.2.1]
  · rintro _ _ rfl
    exact ev_T (ev_bif rfl (ev_I rfl (ev_I rfl (ev_ret rfl))))
def rp (c n : Nat) (x e : AVal) : List AVal := List.replicate c x ++ List.replicate (n - c) e
theorem rp_len {c n : Nat} {x e : AVal} (h : c ≤ n) : (rp c n x e).length = n := by simp [rp]; omega
theorem rp_splice {c n k : Nat} {x e : AVal} (h : c + k ≤ n) : splice (rp c n x e) c (List.replicate k x) = rp (c + k) n x e := by
  simp only [splice, rp, List.length_replicate]
  rw [List.take_left' (by simp), List.drop_append, List.drop_eq_nil_of_le (by simp)]
  simp only [List.length_replicate, List.nil_append, List.drop_replicate]
  rw [← List.append_assoc, List.replicate_append_replicate]
  congr 2
  rw [Nat.sub_sub]; congr 1; omega
theorem copyV_gs {esz g o n m : Nat} {B : Box} {fl : List AVal} (h : sg[g]? = some B) (h1 : o + n * esz ≤ B.cells.length) (h0 : 0 < B.cells.length) :
    copyV esz sg (.gs g esz o n) m fl = some (min n m, sg.set g (.mk (splice B.cells o (fl.take (min n m * esz))))) := by
  have e : (Nat.ble (o + n * esz) B.cells.length && Nat.blt 0 B.cells.length) = true := by
    rw [Nat.ble_eq_true_of_le h1]; exact Nat.ble_eq_true_of_le h0
  simp only [copyV, Nat.beq_refl, cond_true, h, withO, e, bindL]
theorem repeat_ok {g0 : Nat} {s : ByteArray} (h : Has sg ((g0, .mk [vS s]) :: R)) (h1 : 1 ≤ n) (h2 : n < 4900) (hN : 5000 < N) :
    Ev (tab N (dp + 3) 149 [.gs g0 1 0 1, vI n] sg) (Rt fun v sg' => ∃ g, v = .gs g 1 0 n ∧ Has sg' ((g, .mk (List.replicate n (vS s))) :: R)) := by
  refine ev_of ((t149 ..).trans (slices_Repeat_string_string.main ..)) ?_
  refine ev_else (by simp <;> omega) ?_
  refine ev_O (a := 1) rfl ?_
  have hc := List.all_eq_true.1 chkMul_ok n (List.mem_range.2 h2)
  simp only [Bool.and_eq_true, beq_iff_eq] at hc
  have e0 : IntKind.u64.wrap ((1 : Nat) : Int) = 1 := by decide
  rw [hc.2.2, e0]
  refine ev_call (mul_ok h2) rfl ?_
  rintro _ _ rfl
  have e1 : IntKind.i64.wrap (n : Int) = n := i64_in (by omega)
  refine ev_T (ev_bif rfl (ev_I rfl (ev_I rfl (ev_if rfl (ev_else (by simp <;> omega) ?_)))))
  rw [e1]
  refine ev_if ⟨by omega, by omega, by omega⟩ (ev_A rfl ?_)
  have h3 := h.new (Box.mk (List.replicate (n : Int).toNat [vS ⟨#[]⟩]).flatten)
  have e2 : (List.replicate (n : Int).toNat [vS ⟨#[]⟩]).flatten = rp 0 n (vS s) (vS ⟨#[]⟩) := by
    rw [List.flatten_replicate_singleton]; simp [rp]
  rw [e2] at h3 ⊢
  refine ev_O (flatG_gs (h3.at (n := 1) rfl) (Nat.le_refl _) (Nat.succ_pos _)) ?_
  have e3 : (n : Int).toNat = n := by simp
  rw [e3]
  generalize hg : sg.length = g at h3 ⊢
  have hlen : (Box.mk (rp 0 n (vS s) (vS ⟨#[]⟩))).cells.length = n := rp_len (Nat.zero_le _)
  refine ev_O (copyV_gs (h3.at (n := 0) rfl) (by rw [hlen]; omega) (by rw [hlen]; omega)) ?_
  have h4 := h3.put (n := 0) (.mk (splice (rp 0 n (vS s) (vS ⟨#[]⟩)) 0 ([vS s].take (min n 1 * 1)))) rfl
  have e4 : [vS s].take (min n 1 * 1) = List.replicate 1 (vS s) := by
    have : min n 1 = 1 := by omega
    rw [this]; rfl
  have h5 : Has (List.set (sg ++ [Box.mk (rp 0 n (vS s) (vS ⟨#[]⟩))]) g (.mk (splice (rp 0 n (vS s) (vS ⟨#[]⟩)) 0 ([vS s].take (min n 1 * 1))))) ((g, .mk (rp 1 n (vS s) (vS ⟨#[]⟩))) :: R) := by
    rw [e4, rp_splice (by omega)] at h4 ⊢
    exact h4.sub (.cons_cons _ (.cons _ (List.Sublist.refl _)))
  refine ev_loop n (fun i st => ∃ (sg' : Sg) (c : Nat), st = mkS [7, 8] [.v (.gs g 1 0 n) false, .v (vI c) false] [none, none] (.sg sg') ∧ i + 1 ≤ c ∧ c ≤ n ∧ Has sg' ((g, .mk (rp c n (vS s) (vS ⟨#[]⟩))) :: R)) (by omega) ⟨_, 1, ?_, by omega, h1, h5⟩ ?_
  · have e5 : min n 1 = 1 := by omega
    simp only [e5]; rfl
  rintro i st K hi ⟨sg1, c, rfl, hc1, hc2, h6⟩ hnext hexit _
  refine ev_of (slices_Repeat_string_string.r0 ..) ?_
  have hl6 : (Box.mk (rp c n (vS s) (vS ⟨#[]⟩))).cells.length = n := rp_len hc2
  refine ev_ite (fun hlt => ?_) (fun hge => ?_)
  · have hlt : c < n := by
      have : (c : Int) < n := by simpa using hlt
      omega
    refine ev_if ⟨by omega, by omega, by omega⟩ ?_
    have ec : cutV (.gs g 1 0 n) (c : Int).toNat (n : Int).toNat = some (.gs g 1 (0 + c * 1) (n - c)) := by
      simp only [cutV, Int.toNat_natCast, if_pos hlt]
    refine ev_O ec (ev_if ⟨by omega, by omega, by omega⟩ ?_)
    have ec2 : cutV (.gs g 1 0 n) (Int.toNat 0) (c : Int).toNat = some (.gs g 1 (0 + 0 * 1) (c - 0)) := by
      have : (Int.toNat 0) < c := by show 0 < c; omega
      simp only [cutV, Int.toNat_natCast, if_pos this]; rfl
    refine ev_O ec2 (ev_A rfl ?_)
    refine ev_O (flatG_gs (h6.at (n := 0) rfl) (by rw [hl6]; omega) (by rw [hl6]; omega)) (ev_A rfl ?_)
    refine ev_O (copyV_gs (h6.at (n := 0) rfl) (by rw [hl6]; omega) (by rw [hl6]; omega)) ?_
    have e6 : min (n - c) (c - 0) = min (n - c) c := by omega
    have e7 : IntKind.i64.wrap ((c : Int) + ((min (n - c) c : Nat) : Int)) = ((c + min (n - c) c : Nat) : Int) := by
      rw [i64_in (by omega)]; simp
    simp only [e6, e7]
    refine hnext _ (by omega) ⟨_, c + min (n - c) c, rfl, by omega, by omega, ?_⟩
    have e8 : (List.take ((c - 0) * 1) (List.drop (0 + 0 * 1) (rp c n (vS s) (vS ⟨#[]⟩)))).take (min (n - c) c * 1) = List.replicate (min (n - c) c) (vS s) := by
      simp only [Nat.sub_zero, Nat.mul_one, Nat.zero_add, List.drop_zero, rp]
      rw [List.take_left' (by simp), List.take_replicate]
      congr 1; omega
    have h7 := h6.put (n := 0) (.mk (splice (rp c n (vS s) (vS ⟨#[]⟩)) (0 + c * 1) ((List.take ((c - 0) * 1) (List.drop (0 + 0 * 1) (rp c n (vS s) (vS ⟨#[]⟩)))).take (min (n - c) c * 1)))) rfl
    have e9 : 0 + c * 1 = c := by omega
    have e10 : splice (rp c n (vS s) (vS ⟨#[]⟩)) (0 + c * 1) ((List.take ((c - 0) * 1) (List.drop (0 + 0 * 1) (rp c n (vS s) (vS ⟨#[]⟩)))).take (min (n - c) c * 1)) = rp (c + min (n - c) c) n (vS s) (vS ⟨#[]⟩) := by
      rw [e8, e9, rp_splice (by omega)]
    show Has (List.set sg1 g (.mk (splice (rp c n (vS s) (vS ⟨#[]⟩)) (0 + c * 1) ((List.take ((c - 0) * 1) (List.drop (0 + 0 * 1) (rp c n (vS s) (vS ⟨#[]⟩)))).take (min (n - c) c * 1))))) _
    rw [e10] at h7 ⊢
    exact h7
  · have : c = n := by
      have : ¬ (c : Int) < n := by simpa using hge
      omega
    subst this
    refine hexit _ _ ?_
    refine ev_of (slices_Repeat_string_string.k0_1 ..) (ev_ret ⟨g, rfl, ?_⟩)
    have : rp c c (vS s) (vS ⟨#[]⟩) = List.replicate c (vS s) := by simp [rp]
    rw [this] at h6
    exact h6
theorem new_ok (h : Has sg R) (h1 : 1 ≤ n) (h2 : n ≤ 4865) (hN : 5000 < N) :
    Ev (tab N (dp + 4) 43 [vI n] sg) (Rt fun v sg' => ∃ d A, v = .tup [.gp d 0, vI 0] ∧ Dk n 0 d A ∧ Has sg' (A ++ R)) := by
  refine ev_of ((t43 ..).trans (disk_New.main ..)) ?_
  refine ev_if (by simp <;> omega) (ev_else (by simp <;> omega) ?_)
  refine ev_call blank_ok rfl ?_
  rintro _ _ rfl
  refine ev_S rfl (ev_bif rfl ?_)
  refine ev_call (repeat_ok (h.new _) h1 (by omega) hN) rfl ?_
  rintro _ sg1 ⟨g, rfl, h3⟩
  refine ev_A rfl (ev_bif rfl (ev_L (ev_ret ?_)))
  refine ⟨sg1.length, dkH sg1.length g 2 ⟨List.replicate n (zeros 512), [], 0, false, 0⟩, rfl, ⟨g, 2, _, rfl, rfl, rfl, by simp, rfl, by simp⟩, ?_⟩
  have h4 := h3.new (dkB g 2 ⟨List.replicate n (zeros 512), [], 0, false, 0⟩)
  have e1 : dkB g 2 ⟨List.replicate n (zeros 512), [], 0, false, 0⟩ = .mk [.gs g 1 0 n, .sl true 2 [], vI 0, vB false, vI 0] := by simp [dkB, wrV]
  have e2 : dkH sg1.length g 2 ⟨List.replicate n (zeros 512), [], 0, false, 0⟩ ++ R = (sg1.length, dkB g 2 ⟨List.replicate n (zeros 512), [], 0, false, 0⟩) :: (g, .mk (List.replicate n (vS (zeros 512)))) :: R := by
    simp [dkH, wrH]
  rw [e2]
  rw [e1] at h4 ⊢
  exact h4
end Go.Abs
