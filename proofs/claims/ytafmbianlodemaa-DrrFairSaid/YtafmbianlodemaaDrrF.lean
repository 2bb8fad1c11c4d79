/- OF TWO THAT WAIT: the law's own evaluation. -/
import Derived.Test.YtafmbianlodemaaRsFair
import Derived.Test.YtafmbianlodemaaDrrN
namespace Go.Abs
set_option linter.unusedSectionVars false
set_option linter.unusedSimpArgs false
set_option linter.unusedVariables false
open Go.Drr

def il (M : List Int) : List AVal := M.map I
theorem il_get {M : List Int} {k : Nat} (h : k < M.length) : (il M)[k]? = some (I (M.getD k 0)) := by
  unfold il
  rw [List.getElem?_map, List.getD_eq_getElem?_getD, List.getElem?_eq_getElem h]; rfl
theorem il_len (M : List Int) : (il M).length = M.length := by simp [il]
theorem withA_I {α : Type} (n : Int) (c : AVal → Option α) : withA (some (I n)) c = c (I n) := rfl
theorem one_len (n : Int) : [I n].length.beq 1 = true := rfl
theorem one_get (n : Int) : [I n][0]? = some (I n) := rfl

variable {C : CallF} {N : Nat}

/-- No two of these are too far apart. -/
def Near (q D : Int) (M : List Int) : Prop := ∀ x ∈ M, ∀ y ∈ M, -1000000 ≤ x ∧ x ≤ 1000000 ∧ (0 < D → x - y < q + 2 * D)

theorem near_get {q D : Int} {M : List Int} (h : Near q D M) {a b : Nat} (ha : a < M.length) (hb : b < M.length) : -1000000 ≤ M.getD a 0 ∧ M.getD a 0 ≤ 1000000 ∧ (0 < D → M.getD a 0 - M.getD b 0 < q + 2 * D) := by
  rw [List.getD_eq_getElem?_getD, List.getElem?_eq_getElem ha, List.getD_eq_getElem?_getD, List.getElem?_eq_getElem hb]
  exact h _ (List.getElem_mem _) _ (List.getElem_mem _)

theorem fair_in {q D : Int} (hq : 1 ≤ q ∧ q ≤ 65536) (hD : 0 ≤ D ∧ D ≤ 65536) {M : List Int} (hN : Near q D M) (hM : M.length ≤ 1000) (nn : Bool) (sg : Sg) {x : Nat} (hx : x < M.length) (k : Ex → St → R) {out : R}
    (hk : k .normal (mkS [1, 15, 16, 151, 152] [Slot.v (I q) false, Slot.v (I D) false, Slot.v (.sl nn 1 (il M)) true, Slot.v (I M.length) false, Slot.v (I (x + 1)) false] [none, none, none, none, none] (RVal.sg sg)) = out) :
    ∀ (r m : Nat) (y : Nat), y + r = x → r < m →
    iter (law26_DrrFair.R2 C N) m (mkS [1, 15, 16, 24, 151, 152, 158, 159] [Slot.v (I q) false, Slot.v (I D) false, Slot.v (.sl nn 1 (il M)) true, Slot.v (I x) false, Slot.v (I M.length) false, Slot.v (I x) false, Slot.v (I x) false, Slot.v (I y) false]
      [none, none, none, none, none, none, none, none] (RVal.sg sg)) (law26_DrrFair.K2 C N k) = out
  | r, 0, y, _, h => by omega
  | 0, m + 1, y, hy, h => by
    rw [iter_succ, law26_DrrFair.r2, if_neg (by simp; omega), thenK_e, law26_DrrFair.k2_2, i64_id (by omega)]
    exact hk
  | r + 1, m + 1, y, hy, h => by
    have IH := fair_in hq hD hN hM nn sg hx k hk r m (y + 1) (by omega) (by omega)
    have n1 := near_get hN hx (b := y) (by omega)
    have n2 := near_get hN (a := y) (by omega) hx
    have e1 := i64_id (n := 2 * D) (by omega)
    have e2 := i64_id (n := q + 2 * D) (by omega)
    have e3 := i64_id (n := M.getD x 0 - M.getD y 0) (by omega)
    have e4 := i64_id (n := 0 - (M.getD x 0 - M.getD y 0)) (by omega)
    have e5 := i64_id (n := (y : Int) + 1) (by omega)
    have t1 : (x : Int).toNat = x := by omega
    have t2 : (y : Int).toNat = y := by omega
    have e6 : ((y + 1 : Nat) : Int) = (y : Int) + 1 := by omega
    rw [e6] at IH
    rw [iter_succ, law26_DrrFair.r2, if_pos (by simp; omega), if_pos (by omega), t1, il_get hx, withA_I]
    dsimp only
    rw [one_len, cond_true, one_get, withI_at, if_pos (by omega), t2, il_get (by omega), withA_I]
    dsimp only
    rw [one_len, cond_true, one_get, withI_at]
    simp only [e1, e2, e3, e4, e5, thenK_n, decide_eq_true_eq, decide_eq_false_iff_not]
    by_cases hp : 0 < D
    · have a1 := n1.2.2 hp
      have a2 := n2.2.2 hp
      rw [if_neg (by omega), if_neg (by omega)]
      exact IH
    · rw [if_pos (show ¬ D > 0 by omega)]
      simp only [show ¬ D > 0 from by omega, if_false]
      repeat' split
      all_goals exact IH

theorem fair_out {q D : Int} (hq : 1 ≤ q ∧ q ≤ 65536) (hD : 0 ≤ D ∧ D ≤ 65536) {M : List Int} (hN : Near q D M) (hM : M.length ≤ 1000) (nn : Bool) (sg : Sg) (hN2 : 1000 < N) :
    ∀ (r m : Nat) (x : Nat), x + r = M.length → r < m →
    iter (law26_DrrFair.R1 C N) m (mkS [1, 15, 16, 151, 152] [Slot.v (I q) false, Slot.v (I D) false, Slot.v (.sl nn 1 (il M)) true, Slot.v (I M.length) false, Slot.v (I x) false] [none, none, none, none, none] (RVal.sg sg)) (law26_DrrFair.K1 C N) =
      some (.ret (B true) sg)
  | r, 0, x, _, h => by omega
  | 0, m + 1, x, hx, h => by
    rw [iter_succ, law26_DrrFair.r1, if_neg (by simp; omega), thenK_e, law26_DrrFair.k1_1]
  | r + 1, m + 1, x, hx, h => by
    have t1 : (x : Int).toNat = x := by omega
    have e6 : ((x + 1 : Nat) : Int) = (x : Int) + 1 := by omega
    have el : (List.take ((x : Int).toNat - Int.toNat 0) (List.drop (Int.toNat 0) (il M))).length = x := by
      rw [t1]; simp [il]; omega
    rw [iter_succ, law26_DrrFair.r1, if_pos (by simp; omega), if_pos ⟨by omega, by omega, by rw [il_len]; omega⟩, el]
    refine fair_in hq hD hN hM nn sg (by omega) _ ?_ x N 0 (by omega) (by omega)
    rw [thenK_n, ← e6]
    exact fair_out hq hD hN hM nn sg hN2 r m (x + 1) (by omega) (by omega)

/-- Within which bounds what was seen lies. -/
def Within (q D i j x : Int) : Prop := (i < j → 1 - max D 1 ≤ x ∧ x ≤ q + max D 1 - 1) ∧ (¬ i < j → i ≠ j → 1 - max D 1 - q ≤ x ∧ x ≤ max D 1 - 1) ∧ (i = j → x = 0)
theorem within_mono {q D D' i j x : Int} (h : Within q D i j x) (hd : D ≤ D') : Within q D' i j x := by
  obtain ⟨h1, h2, h3⟩ := h
  refine ⟨fun a => ?_, fun a b => ?_, h3⟩
  · have := h1 a; omega
  · have := h2 a b; omega
theorem near_of {q D i j : Int} (hq : 1 ≤ q ∧ q ≤ 65536) (hD : 0 ≤ D ∧ D ≤ q) {M : List Int} (h : ∀ x ∈ M, Within q D i j x) : Near q D M := by
  intro x hx y hy
  obtain ⟨x1, x2, x3⟩ := h x hx
  obtain ⟨y1, y2, y3⟩ := h y hy
  by_cases e : i < j
  · have a := x1 e; have b := y1 e; omega
  · by_cases e2 : i = j
    · have a := x3 e2; have b := y3 e2; omega
    · have a := x2 e e2; have b := y2 e e2; omega

theorem fair_loop (hnx : NextOK C) (hck : ∀ t sg, t.cr.length = 8 → C 15 [.agg (tl t)] sg = some (.ret (I (if rightB t = true then 0 else 18)) sg)) {L : List (List Int)} (hL : ∀ c ∈ L, c.length = 8) (hL100 : L.length ≤ 100)
    {n q i j : Int} (i0 : 0 ≤ i) (iN : i < n) (j0 : 0 ≤ j) (jN : j < n) (nb : Bool) (hN2 : 1000 < N) (sg : Sg) :
    ∀ (r m : Nat) (u : T) (k : Nat) (g D : Int) (M : List Int) (nn : Bool), k + r = L.length → r < m → Right u → u.n = n → u.q = q → (i ≠ j → Two u i j g D) → 0 ≤ D → D ≤ q → M.length = k + 1 → M.getD k 0 = g → (∀ x ∈ M, Within q D i j x) →
    iter (law26_DrrFair.R0 C N) m (mkS [0, 1, 11, 13, 14, 15, 16, 51, 52, 53] [Slot.v (I n) false, Slot.v (I q) false, Slot.lp 11 0, Slot.v (I i) false, Slot.v (I j) false, Slot.v (I D) false, Slot.v (.sl nn 1 (il M)) true, Slot.v (.sl nb 8 (rl L)) false, Slot.v (I L.length) false, Slot.v (I k) false]
      [none, none, some { cells := tl u }, none, none, none, none, none, none, none] (RVal.sg sg)) (law26_DrrFair.K0 C N) = some (.ret (B true) sg)
  | r, 0, u, k, g, D, M, nn, hk, h, hu, hun, huq, h2, hD, hDq, hM, hg, hW => by omega
  | 0, m + 1, u, k, g, D, M, nn, hk, h, hu, hun, huq, h2, hD, hDq, hM, hg, hW => by
    have hq : 1 ≤ q ∧ q ≤ 65536 := by rw [← huq]; exact ⟨hu.q1, hu.q2⟩
    rw [iter_succ, law26_DrrFair.r0, if_neg (by simp; omega), thenK_e, law26_DrrFair.k0_2, il_len]
    exact fair_out hq ⟨hD, by omega⟩ (near_of hq ⟨hD, hDq⟩ hW) (by omega) nn sg hN2 M.length N 0 (by omega) (by omega)
  | r + 1, m + 1, u, k, g, D, M, nn, hk, h, hu, hun, huq, h2, hD, hDq, hM, hg, hW => by
    have hq : 1 ≤ q ∧ q ≤ 65536 := by rw [← huq]; exact ⟨hu.q1, hu.q2⟩
    have hl := hu.len
    have n8 : n ≤ 8 := by rw [← hun]; exact hu.n8
    have t1 : (k : Int).toNat = k := by omega
    have hkL : k < L.length := by omega
    have hget := rl_get hkL
    generalize hc0 : L.getD k [] = c0 at hget
    have hc0l : c0.length = 8 := by
      rw [← hc0, List.getD_eq_getElem?_getD, List.getElem?_eq_getElem hkL]
      exact hL _ (List.getElem_mem _)
    have i8 : i < 8 := by omega
    have j8 : j < 8 := by omega
    have hi8 : (0 : Int) ≤ i ∧ i < (↑(8 : Nat) : Int) := ⟨i0, by simpa using i8⟩
    have hj8 : (0 : Int) ≤ j ∧ j < (↑(8 : Nat) : Int) := ⟨j0, by simpa using j8⟩
    rw [iter_succ, law26_DrrFair.r0, if_pos (by simp; omega), if_pos (by omega), t1, hget, withA_agg]
    dsimp only
    rw [List.drop_zero, cl_len hc0l, beq_t, cond_true, ble_t (Nat.le_refl _), cond_true, cl_take hc0l, bindL_eq, cl_len hc0l, beq_t, cond_true, splice_all (by rw [cl_len hc0l]; rfl), bindL_eq, if_pos hi8, cl_get hc0l i0 i8, withI_at, if_pos hj8, cl_get hc0l j0 j8, withI_at, if_pos hi8,
      cl_len hc0l, ble_t (by omega), cond_true, cl_set hc0l i0 i8, bindL_eq, if_pos hj8, cl_len (by simp [hc0l]), ble_t (by omega), cond_true, cl_set (by simp [hc0l]) j0 j8, bindL_eq, max2_eq, max2_eq, cond_true (max (at_ c0 i) 1), cond_true (max (at_ c0 j) 1)]
    generalize hc1 : (c0.set i.toNat (max (at_ c0 i) 1)).set j.toNat (max (at_ c0 j) 1) = c1
    have hc1l : c1.length = 8 := by rw [← hc1]; simp [hc0l]
    have hcj : 0 < at_ c1 j := by rw [← hc1, at_set j0 j0 (by simp [hc0l]; omega)]; simp; omega
    have hci : 0 < at_ c1 i := by
      rw [← hc1, at_set j0 i0 (by simp [hc0l]; omega)]
      split
      · omega
      · rw [at_set i0 i0 (by rw [hc0l]; omega)]; simp; omega
    have wi : 0 < cost u.q c1 i := (cost_pos hu.q1).2 hci
    have wj : 0 < cost u.q c1 j := (cost_pos hu.q1).2 hcj
    obtain ⟨p, hx, hS⟩ := nextS_of hu i0 (by rw [hun]; exact iN) wi
    obtain ⟨s1, s2, s3, s4, s5, s6, s7⟩ := nobody_step hu i0 (by rw [hun]; exact iN) wi hx
    rw [tl_len hl, ble_t (Nat.le_refl _), cond_true, tl_take hl, bindL_eq, cl_len hc1l, ble_t (Nat.le_refl _), cond_true, cl_take hc1l, bindL_eq, hnx u c1 sg hl hc1l, hS, withOut_ret, withT_at]
    have e3 : [AVal.agg (tl p.1), I p.2, B true].length.beq 3 = true := rfl
    have g0 : [AVal.agg (tl p.1), I p.2, B true][0]? = some (AVal.agg (tl p.1)) := rfl
    have g1 : [AVal.agg (tl p.1), I p.2, B true][1]? = some (I p.2) := rfl
    have g2 : [AVal.agg (tl p.1), I p.2, B true][2]? = some (B true) := rfl
    have r8 : p.2 < 8 := by omega
    have hr8 : (0 : Int) ≤ p.2 ∧ p.2 < (↑(8 : Nat) : Int) := ⟨s4, by simpa using r8⟩
    have hl2 := s3.len
    have hck1 : 1 ≤ at_ c1 p.2 := (cost_pos hu.q1).1 s6
    rw [e3, cond_true, g0, withG_at, g1, withI_at, g2, withB_at, tl_len hl2, beq_t, cond_true, splice_all (by rw [tl_len hl2]; rfl), bindL_eq, if_pos (by rfl), if_pos (by simpa using s4), if_pos (by simp; omega), if_pos hr8, cl_get hc1l s4 r8, withI_at, if_pos (by simp; omega),
      tl_len hl2, ble_t (Nat.le_refl _), cond_true, tl_take hl2, bindL_eq, hck _ sg hl2, (rightB_iff hl2).2 s3, withOut_ret, withI_at, if_neg (by simp), cond_true, bindL_eq, tl_len hl2, beq_t, cond_true, cond_true, splice_all (by rw [tl_len hl, tl_len hl2]), bindL_eq, if_pos hr8, withI_at]
    have tk : (IntKind.i64.wrap (((il M).length : Int) - 1)) = (k : Int) := by rw [il_len, hM, i64_id (by omega)]; omega
    rw [tk, if_pos (by omega), t1, il_get (by omega), withA_I]
    dsimp only
    rw [one_len, cond_true, one_get, withI_at, hg]
    -- the numbers
    have hcost : ∀ x, 1 ≤ at_ c1 x → min (at_ c1 x) q = cost u.q c1 x := fun x hx => by rw [← huq]; unfold cost; omega
    have ci0 := cost_le u.q c1 i
    have cj0 := cost_le u.q c1 j
    have ck0 := cost_le u.q c1 p.2
    have hD' : max D (max (cost u.q c1 i) (cost u.q c1 j)) ≤ q := by omega
    -- how it goes on
    have go : ∀ (D1 G1 K1 : Int), D1 = max D (max (cost u.q c1 i) (cost u.q c1 j)) → G1 = g + (if p.2 = i then cost u.q c1 p.2 else 0) - (if p.2 = j then cost u.q c1 p.2 else 0) → K1 = ((k + 1 : Nat) : Int) →
        iter (law26_DrrFair.R0 C N) m (mkS [0, 1, 11, 13, 14, 15, 16, 51, 52, 53] [Slot.v (I n) false, Slot.v (I q) false, Slot.lp 11 0, Slot.v (I i) false, Slot.v (I j) false, Slot.v (I D1) false, Slot.v (.sl false 1 (il M ++ [I G1])) true, Slot.v (.sl nb 8 (rl L)) false, Slot.v (I L.length) false, Slot.v (I K1) false]
          [none, none, some { cells := tl p.1 }, none, none, none, none, none, none, none] (RVal.sg sg)) (law26_DrrFair.K0 C N) = some (.ret (B true) sg) := by
      rintro D1 G1 K1 e1 e2 e3
      rw [e1, e3]
      have hM' : il M ++ [I G1] = il (M ++ [G1]) := by simp [il]
      rw [hM']
      have hlast : (M ++ [G1]).getD (k + 1) 0 = G1 := by rw [← hM]; simp [List.getD_eq_getElem?_getD]
      have h2' : i ≠ j → Two p.1 i j G1 (max D (max (cost u.q c1 i) (cost u.q c1 j))) := fun hne => by
        rw [e2]
        exact (two_step hu i0 (by rw [hun]; exact iN) j0 (by rw [hun]; exact jN) hne wi wj (h2 hne) hx).2.2.2.2.2.2
      refine fair_loop hnx hck hL hL100 i0 iN j0 jN nb hN2 sg r m p.1 (k + 1) G1 _ (M ++ [G1]) false (by omega) (by omega) s3 (by rw [s1, hun]) (by rw [s2, huq]) h2' (by omega) hD' (by simp [hM]) hlast ?_
      intro x hx'
      rcases List.mem_append.1 hx' with hx' | hx'
      · exact within_mono (hW x hx') (by omega)
      · simp only [List.mem_singleton] at hx'
        subst hx'
        by_cases hij : i = j
        · refine ⟨fun a => absurd hij (by omega), fun a b => absurd hij b, fun _ => ?_⟩
          have g00 : g = 0 := by
            have : g ∈ M := by rw [← hg, List.getD_eq_getElem?_getD, List.getElem?_eq_getElem (by omega)]; exact List.getElem_mem _
            exact (hW g this).2.2 hij
          rw [e2, g00, hij]; omega
        · obtain ⟨b1, b2⟩ := two_bound s3 i0 (by rw [s1, hun]; exact iN) j0 (by rw [s1, hun]; exact jN) (h2' hij)
          have hpq : p.1.q = q := by rw [s2, huq]
          rw [hpq] at b1 b2
          exact ⟨b1, b2, fun e => absurd e hij⟩
    have hgM : g ∈ M := by rw [← hg, List.getD_eq_getElem?_getD, List.getElem?_eq_getElem (by omega)]; exact List.getElem_mem _
    have hgb := (near_of hq ⟨hD, hDq⟩ hW) g hgM g hgM
    have cki := cost_nn hu.q1 c1 p.2
    have hroom : (il M).length + 1 ≤ 4398046511104 := by rw [il_len]; omega
    have hroom2 : ((il M).length + 1) * 8 ≤ 35184372088832 := by omega
    have w1 := i64_id (n := g + cost u.q c1 p.2) (by omega)
    have w2 := i64_id (n := g - cost u.q c1 p.2) (by omega)
    have w3 := i64_id (n := g + cost u.q c1 p.2 - cost u.q c1 p.2) (by omega)
    have w4 := i64_id (n := (k : Int) + 1) (by omega)
    simp only [cond_true, cond_false, max2_eq, min2_eq, hcost p.2 hck1, if_pos hi8, if_pos hj8, cl_get hc1l i0 i8, cl_get hc1l j0 j8, withI_at, hcost i hci, hcost j hcj, if_pos hroom2, thenK_n, w4, beq_iff_eq, beq_eq_false_iff_ne, ne_eq]
    by_cases hki : p.2 = i
    · have hcki : cost u.q c1 p.2 = cost u.q c1 i := by rw [hki]
      by_cases hkj : p.2 = j
      · simp only [eq_true hki, eq_true hkj, if_true, if_false, not_true_eq_false, not_false_eq_true, w1, w3]
        exact go _ _ _ (by omega) (by rw [if_pos hki, if_pos hkj]) (by omega)
      · simp only [eq_true hki, eq_false hkj, if_true, if_false, not_true_eq_false, not_false_eq_true, w1, w3]
        exact go _ _ _ (by omega) (by rw [if_pos hki, if_neg hkj]; omega) (by omega)
    · by_cases hkj : p.2 = j
      · have hckj : cost u.q c1 p.2 = cost u.q c1 j := by rw [hkj]
        simp only [eq_false hki, eq_true hkj, if_true, if_false, not_true_eq_false, not_false_eq_true, w2]
        exact go _ _ _ (by omega) (by rw [if_neg hki, if_pos hkj]; omega) (by omega)
      · simp only [eq_false hki, eq_false hkj, if_true, if_false, not_true_eq_false, not_false_eq_true]
        exact go _ _ _ (by omega) (by rw [if_neg hki, if_neg hkj]; omega) (by omega)

theorem fair_ev (hlv : ∀ sg, C 14 [] sg = some (.ret (B true) sg)) (hnx : NextOK C) (hck : ∀ t sg, t.cr.length = 8 → C 15 [.agg (tl t)] sg = some (.ret (I (if rightB t = true then 0 else 18)) sg))
    (hnw : ∀ n q sg, -9223372036854775808 ≤ n ∧ n ≤ 9223372036854775807 → C 12 [I n, I q] sg = some (.ret (.tup [.agg (tl (if rightB (newT n q) = true then newT n q else zeroT')), I (if rightB (newT n q) = true then 0 else 18)]) sg))
    {n q : Int} (hn : -9223372036854775808 ≤ n ∧ n ≤ 9223372036854775807) {L : List (List Int)} (hL : ∀ c ∈ L, c.length = 8) (nb : Bool) {a b : Int} (ha : 0 ≤ a ∧ a ≤ 255) (hb : 0 ≤ b ∧ b ≤ 255) (hN : 1000 < N) (sg : Sg) :
    evalF C N law26_DrrFair.a [I n, I q, .sl nb 8 (rl L), .at (.int .u8 a), .at (.int .u8 b)] sg = some (.ret (B true) sg) := by
  have hlen : (rl L).length = L.length := by simp [rl]
  rw [law26_DrrFair.main, hlv, withOut_ret, withB_at, if_neg (by simp), hnw n q sg hn, withOut_ret, withT_at]
  cases hr : rightB (newT n q) with
  | false =>
    simp only [Bool.false_eq_true, if_false]
    rfl
  | true =>
    have hl8 : (newT n q).cr.length = 8 := rfl
    have R := (rightB_iff hl8).1 hr
    have n1 : 1 ≤ n := R.n1
    have n8 : n ≤ 8 := R.n8
    have q1 : 1 ≤ q := R.q1
    have hT : newT n q = ⟨n, q, n - 1, z8⟩ := by unfold newT; rw [if_pos (by omega)]
    have g0 : [AVal.agg (tl (newT n q)), I 0][0]? = some (AVal.agg (tl (newT n q))) := rfl
    have g1 : [AVal.agg (tl (newT n q)), I 0][1]? = some (I 0) := rfl
    have e2 : [AVal.agg (tl (newT n q)), I 0].length.beq 2 = true := rfl
    simp only [if_true]
    rw [e2, cond_true, g0, withG_at, g1, withI_at, tl_len hl8, beq_t, cond_true, splice_all (by rw [tl_len hl8]; rfl), bindL_eq, if_pos (by rfl), hlen]
    by_cases h100 : (L.length : Int) > 100
    · rw [if_pos (by simpa using h100)]
    · rw [if_neg (by simpa using h100), if_neg (by omega), if_neg (by omega), i64_id (n := a) (by omega), i64_id (n := b) (by omega)]
      have i0 : 0 ≤ a.tmod n := by rw [Int.tmod_eq_emod_of_nonneg ha.1]; exact Int.emod_nonneg _ (by omega)
      have iN : a.tmod n < n := by rw [Int.tmod_eq_emod_of_nonneg ha.1]; exact Int.emod_lt_of_pos _ (by omega)
      have j0 : 0 ≤ b.tmod n := by rw [Int.tmod_eq_emod_of_nonneg hb.1]; exact Int.emod_nonneg _ (by omega)
      have jN : b.tmod n < n := by rw [Int.tmod_eq_emod_of_nonneg hb.1]; exact Int.emod_lt_of_pos _ (by omega)
      generalize a.tmod n = i at *
      generalize b.tmod n = j at *
      have hz : ∀ x : Int, 0 ≤ x → x < 8 → at_ z8 x = 0 := fun x h0 h8 => by
        have : x = 0 ∨ x = 1 ∨ x = 2 ∨ x = 3 ∨ x = 4 ∨ x = 5 ∨ x = 6 ∨ x = 7 := by omega
        rcases this with rfl | rfl | rfl | rfl | rfl | rfl | rfl | rfl <;> rfl
      have z1 := hz i i0 (by omega)
      have z2 := hz j j0 (by omega)
      have hcr : (newT n q).cr = z8 := rfl
      refine fair_loop hnx hck hL (by omega) i0 iN j0 jN nb hN sg L.length N (newT n q) 0 0 0 [0] false (by omega) (by omega) R rfl rfl (fun hne => ?_) (by omega) (by omega) rfl rfl ?_
      · refine ⟨fun _ => ?_, fun _ => ?_, ?_, ?_, ?_⟩
        · rw [hcr, z1]; omega
        · rw [hcr, z2]; omega
        · rw [hcr, z1]; have : (newT n q).q = q := rfl
          omega
        · rw [hcr, z2]; have : (newT n q).q = q := rfl
          omega
        · rw [hcr, z1, z2, hT]
          simp only [side]
          repeat' split
          all_goals omega
      · intro x hx
        simp only [List.mem_singleton] at hx
        subst hx
        refine ⟨fun _ => by omega, fun _ _ => by omega, fun _ => rfl⟩
end Go.Abs
