/- How many bits are set. -/
import Derived.Test.YtimoaolannkpcaaGreatBitX
set_option linter.unusedVariables false
set_option linter.unusedSimpArgs false
set_option linter.unusedSectionVars false
namespace Go.Abs
open Go
set_option linter.unusedVariables false
set_option maxRecDepth 100000
def oneB (o : R) (n : Nat) : Bool := match o with
  | some (.ret (.at (.int .i64 m)) []) => m == (n : Int)
  | _ => false
theorem oneB_eq {o : R} {n : Nat} (h : oneB o n = true) : o = some (.ret (vI n) []) := by
  unfold oneB at h
  split at h
  · simp only [beq_iff_eq] at h; rw [h]
  · cases h
def chkOnes (C : CallF) (N : Nat) : Bool := (List.range 256).all fun (b : Nat) => oneB (evalF C N math_bits_OnesCount8.a [v8 b] []) (popN b) && Nat.blt (popN b) 9
theorem chkOnes_ok (C : CallF) (N : Nat) : chkOnes C N = true := by kernel_rfl
variable {N dp : Nat} {sg : Sg} {s : ByteArray} {L R H : Hp}
theorem ones_ok {b : Nat} (h : b < 256) : Ev (tab N (dp + 1) 232 [v8 b] []) (Rt fun v _ => v = vI (popN b)) ∧ popN b < 9 := by
  have := List.all_eq_true.1 (chkOnes_ok (tab N dp) N) b (List.mem_range.2 h)
  simp only [Bool.and_eq_true] at this
  refine ⟨ev_of ((t232 ..).trans (oneB_eq this.1)) (ev_ret rfl), ?_⟩
  have h2 := this.2
  rw [Nat.blt_eq] at h2; exact h2
theorem many_ok {n : Nat} (hs : s.size = 480) (h2 : 2 ≤ n) (hn : n ≤ 3840) (hN : 5000 < N) :
    Ev (tab N (dp + 3) 128 [vS s, vI 2, vI n] sg) (Rt fun v sg' => v = vI (cnt s (n - 2) 2) ∧ sg' = sg) := by
  refine ev_of ((t128 ..).trans (bitmap_Many.main ..)) ?_
  refine ev_call is_ok rfl ?_
  rintro _ _ rfl
  refine ev_B rfl (ev_else (by simp [hs]) ?_)
  have e1 : (bif false then max2 (n : Int) 3840 else min2 (n : Int) 3840) = (n : Int) := by
    show min2 (n : Int) 3840 = n
    unfold min2; split <;> omega
  have e2 : (bif true then max2 2 0 else min2 2 0) = (2 : Int) := by decide
  rw [e1, e2]
  refine ev_loop (n - 2) (fun i st => ∃ c p : Nat, st = mkS [0, 2, 7, 8] [.v (vS s) false, .v (vI n) false, .v (vI c) false, .v (vI p) false] [none, none, none, none] (.sg sg) ∧ i + 2 ≤ p ∧ p ≤ n ∧ c ≤ p ∧ cnt s (n - 2) 2 = c + cnt s (n - p) p) (by omega) ⟨0, 2, rfl, by omega, h2, by omega, by simp⟩ ?_
  rintro i st K hi ⟨c, p, rfl, hp1, hp2, hc, he⟩ hnext hexit _
  refine ev_of (bitmap_Many.r0 ..) ?_
  refine ev_ite (fun hlt => ?_) (fun hge => ?_)
  · have hlt : p < n := by
      have : (p : Int) < n := by simpa using hlt
      omega
    have eN : n - p = (n - (p + 1)) + 1 := by omega
    have w1 : IntKind.i64.wrap ((p : Int) + 1) = ((p + 1 : Nat) : Int) := i64_nat (by omega)
    have w2 : IntKind.i64.wrap ((c : Int) + 1) = ((c + 1 : Nat) : Int) := i64_nat (by omega)
    have hT : usedS s (p : Int) = true → cnt s (n - 2) 2 = (c + 1 : Nat) + cnt s (n - (p + 1)) (p + 1) := fun hu => by
      rw [he, eN]; simp only [cnt, one1, hu, if_pos]; omega
    have hF : usedS s (p : Int) = false → cnt s (n - 2) 2 = c + cnt s (n - (p + 1)) (p + 1) := fun hu => by
      rw [he, eN]; simp only [cnt, one1, hu]; simp
    refine ev_else (by omega) ?_
    rw [tmod8, tdiv8]
    refine ev_ite (fun h8 => ev_ite (fun h9 => ?_) (fun h9 => ?_)) (fun h8 => ?_)
    · have h8 : p % 8 = 0 := by
        have : ((p % 8 : Nat) : Int) = 0 := by simpa using h8
        omega
      rw [i64_in (n := (p : Int) + 8) (by omega)] at h9 ⊢
      have h9 : p + 8 ≤ n := by
        have : (p : Int) + 8 ≤ n := by simpa using h9
        omega
      rw [i64_in (n := ((p / 8 : Nat) : Int)) (by omega)]
      refine ev_else (by omega) (ev_if ⟨by omega, by omega⟩ ?_)
      have hb := byteN_lt s (p / 8)
      have eb : ((s.data.toList.getD (((p / 8 : Nat) : Int)).toNat 0).toNat : Int) = (byteN s (p / 8) : Int) := by rw [Int.toNat_natCast]; simp [byteN]
      rw [eb]
      obtain ⟨q1, q2⟩ := ones_ok (N := N) (dp := dp + 1) hb
      refine ev_call q1 rfl ?_
      rintro _ _ rfl
      refine ev_I rfl ?_
      have w3 : (p : Int) + 8 = ((p + 8 : Nat) : Int) := by omega
      have w4 : IntKind.i64.wrap ((c : Int) + (popN (byteN s (p / 8)) : Int)) = ((c + popN (byteN s (p / 8)) : Nat) : Int) := by rw [i64_in (by omega)]; omega
      rw [w3, w4]
      refine hnext _ (by omega) ⟨_, _, rfl, by omega, by omega, by omega, ?_⟩
      have e3 : n - p = 8 + (n - (p + 8)) := by omega
      have e4 := cnt_byte hs (p := p / 8) (by omega)
      rw [show 8 * (p / 8) = p by omega] at e4
      rw [he, e3, cnt_add, e4, Nat.add_assoc]
    all_goals
      refine ev_call used_ok rfl ?_
      rintro _ _ ⟨rfl, rfl⟩
      refine ev_B rfl (ev_ite (fun hu => ?_) (fun hu => ?_))
      · rw [w1, w2]
        exact hnext _ (by omega) ⟨_, _, rfl, by omega, by omega, by omega, hT hu⟩
      · rw [w1]
        exact hnext _ (by omega) ⟨_, _, rfl, by omega, by omega, by omega, hF (by simpa using hu)⟩
  · have : p = n := by
      have : ¬ (p : Int) < n := by simpa using hge
      omega
    subst this
    refine hexit _ _ ?_
    refine ev_of (bitmap_Many.k0_1 ..) (ev_ret ⟨?_, rfl⟩)
    rw [he, Nat.sub_self]; rfl
end Go.Abs
