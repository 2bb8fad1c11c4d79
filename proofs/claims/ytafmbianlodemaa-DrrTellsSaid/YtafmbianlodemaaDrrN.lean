/- NOBODY WAITS FOR EVER: the law's own evaluation. -/
import Derived.Test.YtafmbianlodemaaDrrD
namespace Go.Abs
set_option linter.unusedSectionVars false
set_option linter.unusedSimpArgs false
set_option linter.unusedVariables false
open Go.Drr

theorem withA_agg {α : Type} (l : List AVal) (c : AVal → Option α) : withA (some (.agg l)) c = c (.agg l) := rfl
def rl (L : List (List Int)) : List AVal := L.map fun c => .agg (cl c)
theorem rl_get {L : List (List Int)} {i : Nat} (h : i < L.length) : (rl L)[i]? = some (.agg (cl (L.getD i []))) := by
  unfold rl
  rw [List.getElem?_map, List.getD_eq_getElem?_getD, List.getElem?_eq_getElem h]; rfl

variable {C : CallF} {N : Nat}
def NextOK (C : CallF) : Prop := ∀ u c sg, u.cr.length = 8 → c.length = 8 → C 9 [.agg (tl u), .agg (cl c)] sg = some (.ret (.tup [.agg (tl (nextS u c).1), I (nextS u c).2.1, B (nextS u c).2.2]) sg)

theorem nextS_of {u : T} {c : List Int} (h : Right u) {i : Int} (h0 : 0 ≤ i) (hn : i < u.n) (hw : 0 < cost u.q c i) : ∃ r, next 9 u c = some r ∧ nextS u c = (r.1, r.2, true) := by
  have hr := (rightB_iff h.len).2 h
  have hW : waits u c = true := (someB_iff _ _ _ _).2 ⟨i, h0, by have := h.n1; omega, hw⟩
  obtain ⟨r, hx⟩ := next_some h hW
  exact ⟨r, hx, by simp [nextS, hr, hW, hx]⟩

theorem nob_loop (hnx : NextOK C) {L : List (List Int)} (hL : ∀ c ∈ L, c.length = 8) (hL0 : 0 < L.length) {t0 : T} (ht0 : t0.cr.length = 8) (hn8 : t0.n ≤ 8) {i tot : Int} (i0 : 0 ≤ i) (iN : i < t0.n) (htot : tot ≤ 97) (nn : Bool) (sg : Sg) :
    ∀ (m : Nat) (u : T) (k : Int), Right u → u.n = t0.n → 0 ≤ k → (phi u i).toNat < m → phi u i + k < tot →
    iter (law26_DrrNobody.R0 C N) m (mkS [1, 3, 7, 8, 42, 43] [Slot.v (.sl nn 8 (rl L)) false, Slot.lp 3 0, Slot.lp 7 0, Slot.v (I i) false, Slot.v (I tot) false, Slot.v (I k) false]
      [none, some { cells := tl t0 }, some { cells := tl u }, none, none, none] (RVal.sg sg)) (law26_DrrNobody.K0 C N) = some (.ret (B true) sg)
  | 0, u, k, _, _, _, h, _ => by omega
  | m + 1, u, k, hu, hun, k0, hm, hk => by
    have hl := hu.len
    have p0 := (phi_le hu i0 (by rw [hun]; exact iN)).1
    have hlen : (rl L).length = L.length := by simp [rl]
    have hmod0 : 0 ≤ k.tmod (L.length : Int) := by rw [Int.tmod_eq_emod_of_nonneg k0]; exact Int.emod_nonneg _ (by omega)
    have hmod1 : k.tmod (L.length : Int) < L.length := by rw [Int.tmod_eq_emod_of_nonneg k0]; exact Int.emod_lt_of_pos _ (by omega)
    have hget := rl_get (L := L) (i := (k.tmod (L.length : Int)).toNat) (by omega)
    generalize hc0 : L.getD (k.tmod (L.length : Int)).toNat [] = c0 at hget
    have hc0l : c0.length = 8 := by
      rw [← hc0, List.getD_eq_getElem?_getD, List.getElem?_eq_getElem (show (k.tmod (L.length : Int)).toNat < L.length by omega)]
      exact hL _ (List.getElem_mem _)
    have i8 : i < 8 := by omega
    rw [iter_succ, law26_DrrNobody.r0, if_pos (by simp; omega), hlen, if_neg (by omega), if_pos hmod0, hget, withA_agg]
    dsimp only
    rw [List.drop_zero, cl_len hc0l, beq_t, cond_true, ble_t (Nat.le_refl _), cond_true, cl_take hc0l, bindL_eq, cl_len hc0l, beq_t, cond_true, splice_all (by rw [cl_len hc0l]; rfl), bindL_eq, if_pos ⟨i0, by simpa using i8⟩, cl_get hc0l i0 i8, withI_at, if_pos ⟨i0, by simpa using i8⟩,
      cl_len hc0l, ble_t (by omega), cond_true, cl_set hc0l i0 i8, bindL_eq, tl_len hl, ble_t (Nat.le_refl _), cond_true, tl_take hl, bindL_eq, cond_true, max2_eq]
    generalize hc1 : c0.set i.toNat (max (at_ c0 i) 1) = c1
    have hc1l : c1.length = 8 := by rw [← hc1]; simp [hc0l]
    have hci : 0 < at_ c1 i := by rw [← hc1, at_set i0 i0 (by rw [hc0l]; omega)]; simp; omega
    have hw : 0 < cost u.q c1 i := (cost_pos hu.q1).2 hci
    obtain ⟨r, hx, hS⟩ := nextS_of hu i0 (by rw [hun]; exact iN) hw
    obtain ⟨s1, s2, s3, s4, s5, s6, s7⟩ := nobody_step hu i0 (by rw [hun]; exact iN) hw hx
    rw [cl_len hc1l, ble_t (Nat.le_refl _), cond_true, cl_take hc1l, bindL_eq, hnx u c1 sg hl hc1l, hS, withOut_ret, withT_at]
    have e3 : [AVal.agg (tl r.1), I r.2, B true].length.beq 3 = true := rfl
    have g0 : [AVal.agg (tl r.1), I r.2, B true][0]? = some (AVal.agg (tl r.1)) := rfl
    have g1 : [AVal.agg (tl r.1), I r.2, B true][1]? = some (I r.2) := rfl
    have g2 : [AVal.agg (tl r.1), I r.2, B true][2]? = some (B true) := rfl
    have r8 : r.2 < 8 := by omega
    have hl2 := s3.len
    have hck : 1 ≤ at_ c1 r.2 := (cost_pos hu.q1).1 s6
    simp only [e3, g0, g1, g2, cond_true, withG_at, withI_at, withB_at, tl_len hl2, beq_t, splice_all (show z11.length = (tl r.1).length by rw [tl_len hl2]; rfl), bindL_eq, Bool.not_true, if_true, tl_0]
    rw [if_pos (by simpa using s4), if_pos (by simp; omega), if_pos ⟨s4, by simpa using r8⟩, cl_get hc1l s4 r8, withI_at, if_neg (by simp; omega)]
    by_cases hki : r.2 = i
    · rw [if_pos (by simpa using hki), thenK_r, law26_DrrNobody.k0_1]
    · have hph := s7.resolve_left hki
      have p1 := (phi_le s3 i0 (by rw [s1, hun]; exact iN)).1
      rw [if_neg (by simpa using hki), ble_t (Nat.le_refl _), cond_true, tl_take hl2, tl_len hl2, beq_t, cond_true, splice_all (by rw [tl_len hl, tl_len hl2]), thenK_n, i64_id (by omega)]
      exact nob_loop hnx hL hL0 ht0 hn8 i0 iN htot nn sg m r.1 (k + 1) s3 (by rw [s1, hun]) (by omega) (by omega) (by omega)

theorem nob_ev (hlv : ∀ sg, C 14 [] sg = some (.ret (B true) sg)) (hrt : ∀ t sg, t.cr.length = 8 → C 13 [.agg (tl t)] sg = some (.ret (B (rightB t)) sg)) (hou : ∀ t sg, t.cr.length = 8 → C 10 [.agg (tl t)] sg = some (.ret (.agg (tl t)) sg))
    (hnx : NextOK C) {t : T} (hl : t.cr.length = 8) {L : List (List Int)} (hL : ∀ c ∈ L, c.length = 8) (nn : Bool) {w : Int} (hw : 0 ≤ w ∧ w ≤ 255) (hN : 97 ≤ N) (sg : Sg) :
    evalF C N law26_DrrNobody.a [.agg (tl t), .sl nn 8 (rl L), .at (.int .u8 w)] sg = some (.ret (B true) sg) := by
  have hlen : (rl L).length = L.length := by simp [rl]
  rw [law26_DrrNobody.main, hlv, withOut_ret, withB_at, if_neg (by simp), tl_len hl, ble_t (Nat.le_refl _), cond_true, tl_take hl, bindL_eq, hrt t sg hl, withOut_ret, withB_at]
  cases hr : rightB t with
  | false => rw [if_neg (by simp)]
  | true =>
    have R := (rightB_iff hl).1 hr
    have n1 := R.n1
    have n8 := R.n8
    have q1 := R.q1
    rw [if_pos (by rfl), tl_1, withI_at]
    by_cases h6 : t.q > 6
    · rw [if_neg (by simpa using h6)]
    · rw [if_pos (by simpa using h6), hlen]
      by_cases h0 : L.length = 0
      · rw [if_pos (by simp [h0])]
      · rw [if_neg (by simp; intro e; exact h0 (by simp [e])), cond_true, bindL_eq, hou t sg hl, withOut_ret, withG_at, tl_len hl, beq_t, cond_true, splice_all (by rw [tl_len hl]; rfl), bindL_eq, tl_0, withI_at, if_neg (by omega), withI_at, withI_at]
        have i0 : 0 ≤ w.tmod t.n := by rw [Int.tmod_eq_emod_of_nonneg hw.1]; exact Int.emod_nonneg _ (by omega)
        have iN : w.tmod t.n < t.n := by rw [Int.tmod_eq_emod_of_nonneg hw.1]; exact Int.emod_lt_of_pos _ (by omega)
        have hq6 : t.n * 2 * t.q ≤ 96 := by
          have : t.n * 2 * t.q ≤ 16 * 6 := Int.mul_le_mul (by omega) (by omega) (by omega) (by omega)
          omega
        have hq0 : 0 ≤ t.n * 2 * t.q := Int.mul_nonneg (by omega) (by omega)
        rw [i64_id (n := w) (by omega), i64_id (n := t.n * 2) (by omega), i64_id (n := t.n * 2 * t.q) (by omega), i64_id (by omega)]
        obtain ⟨p0, p1⟩ := phi_le R i0 iN
        have e2 : t.n * 2 * t.q = 2 * (t.q * t.n) := by
          rw [Int.mul_assoc, Int.mul_comm t.n, Int.mul_assoc, ]
        exact nob_loop hnx hL (by omega) hl n8 i0 iN (by omega) nn sg N t 0 R rfl (by omega) (by omega) (by omega)
end Go.Abs
