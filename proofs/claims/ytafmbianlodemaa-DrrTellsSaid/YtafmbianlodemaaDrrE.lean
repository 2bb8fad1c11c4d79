/- THE LAW THAT COMPARES: both give the same turns. -/
import Derived.Test.YtafmbianlodemaaDrrR
import Derived.Test.YtafmbianlodemaaRsTells
namespace Go.Abs
set_option linter.unusedSectionVars false
set_option linter.unusedSimpArgs false
set_option linter.unusedVariables false
open Go.Drr

variable {C : CallF} {N : Nat}
theorem rsome_loop {t : T} {c : List Int} (hc : c.length = 8) (hq : 1 ≤ t.q) (hn : t.n ≤ 8) (sg : Sg) : ∀ (k m : Nat) (i : Int) (b : Bool), 0 ≤ i → i + k = t.n → k < m →
    iter (ref26_Next.R0 C N) m (mkS [2, 3, 4, 7, 8] [Slot.lp 2 0, Slot.lp 3 0, Slot.lp 4 0, Slot.v (B b) false, Slot.v (I i) false] [some { cells := tl t }, some { cells := cl c }, some { cells := z11 }, none, none] (RVal.sg sg)) (ref26_Next.K0 C N) =
      ref26_Next.K0 C N (.exit 0) (mkS [2, 3, 4, 7] [Slot.lp 2 0, Slot.lp 3 0, Slot.lp 4 0, Slot.v (B (b || someB t.q c k i)) false] [some { cells := tl t }, some { cells := cl c }, some { cells := z11 }, none] (RVal.sg sg))
  | k, 0, i, b, _, _, h => by omega
  | 0, m + 1, i, b, h0, h8, h => by
    rw [iter_succ, ref26_Next.r0, tl_0, withI_at, if_neg (by simp; omega), thenK_e]
    simp [someB]
  | k + 1, m + 1, i, b, h0, h8, h => by
    have hi8 : i < 8 := by omega
    rw [iter_succ, ref26_Next.r0, tl_0, withI_at, if_pos (by simp; omega)]
    have e : ∀ b' : Bool, b' = (b || decide (0 < cost t.q c i)) → (b' || someB t.q c k (i + 1)) = (b || someB t.q c (k + 1) i) := by
      rintro b' rfl
      simp [someB, Bool.or_assoc]
    cases b with
    | false =>
      rw [if_pos rfl, if_pos ⟨h0, by simpa using hi8⟩, cl_get hc h0 hi8, withI_at, thenK_n, i64_id (by omega), rsome_loop hc hq hn sg k m (i + 1) _ (by omega) (by omega) (by omega), e]
      simp only [Bool.false_or]
      exact decide_eq_decide.2 (cost_pos hq).symm
    | true =>
      rw [if_neg (by simp), thenK_n, i64_id (by omega), rsome_loop hc hq hn sg k m (i + 1) _ (by omega) (by omega) (by omega), e _ (by simp)]

theorem rzero_loop {t : T} (sg : Sg) : ∀ (k m i : Nat) (cr : List Int), cr.length = 8 → i + k = 8 → k < m →
    iter (ref26_Next.R1 C N) m (mkS [2, 4, 9] [Slot.lp 2 0, Slot.lp 4 0, Slot.v (I i) false] [some { cells := tl { t with cr := cr } }, some { cells := z11 }, none] (RVal.sg sg)) (ref26_Next.K1 C N) =
      ref26_Next.K1 C N (.exit 2) (mkS [2, 4] [Slot.lp 2 0, Slot.lp 4 0] [some { cells := tl { t with cr := cr.take i ++ List.replicate k 0 } }, some { cells := z11 }] (RVal.sg sg))
  | k, 0, i, cr, _, _, h => by omega
  | 0, m + 1, i, cr, hl, h8, h => by
    rw [iter_succ, ref26_Next.r1, if_neg (by simp; omega), thenK_e]
    rw [List.take_of_length_le (by omega)]
    simp
  | k + 1, m + 1, i, cr, hl, h8, h => by
    have hl' : ({ t with cr := cr } : T).cr.length = 8 := hl
    have hi8 : (i : Int) < 8 := by omega
    have e6 : ((i + 1 : Nat) : Int) = (i : Int) + 1 := by omega
    rw [iter_succ, ref26_Next.r1, if_pos (by simpa using hi8), if_pos ⟨by omega, by simpa using hi8⟩, tl_len hl', ble_t (by omega), cond_true, tl_set hl' (by omega) hi8, bindL_eq, thenK_n, i64_id (by omega), ← e6]
    have := rzero_loop (t := t) sg k m (i + 1) (cr.set i 0) (by simpa using hl) (by omega) (by omega)
    have e1 : (({ t with cr := cr } : T).set (i : Int) 0) = { t with cr := cr.set i 0 } := rfl
    rw [e1, this]
    have e2 : (cr.set i 0).take (i + 1) ++ List.replicate k 0 = cr.take i ++ List.replicate (k + 1) 0 := by
      rw [List.take_add_one, List.take_set_of_le (Nat.le_refl _)]
      rw [List.getElem?_set_self (by omega)]
      simp [List.replicate_succ]
    rw [e2]

theorem rnext_ev {t : T} {c : List Int} (hl : t.cr.length = 8) (hc : c.length = 8) (hrt : ∀ t sg, t.cr.length = 8 → C 13 [.agg (tl t)] sg = some (.ret (B (rightB t)) sg)) (hk : ∀ q x sg, 1 ≤ q → C 35 [I q, I x] sg = some (.ret (I (min (max x 0) q)) sg)) (hN : 9 ≤ N) (sg : Sg) :
    evalF C N ref26_Next.a [.agg (tl t), .agg (cl c)] sg = some (.ret (.tup [.agg (tl (nextS t c).1), I (nextS t c).2.1, B (nextS t c).2.2]) sg) := by
  rw [ref26_Next.main, tl_len hl, ble_t (Nat.le_refl _), cond_true, tl_take hl, bindL_eq, hrt t sg hl, withOut_ret, withB_at]
  cases hr : rightB t with
  | false =>
    rw [if_pos (by simp), cond_true, bindL_eq, tl_len hl, beq_t, cond_true, splice_all (by rw [tl_len hl]; rfl), bindL_eq, tl_len hl, ble_t (Nat.le_refl _), cond_true, tl_take hl]
    simp [nextS, hr, bindL_eq]
  | true =>
    have R := (rightB_iff hl).1 hr
    have hn := R.n1
    have hn8 := R.n8
    rw [if_neg (by simp), rsome_loop hc R.q1 hn8 sg t.n.toNat N 0 false (by omega) (by omega) (by omega), Bool.false_or, ref26_Next.k0_1]
    cases hw : waits t c with
    | false =>
      have hw' : someB t.q c t.n.toNat 0 = false := hw
      have hl2 : ({ t with cr := z8 } : T).cr.length = 8 := rfl
      have hz := rzero_loop (C := C) (N := N) (t := t) sg 8 N 0 t.cr hl (by omega) (by omega)
      have e1 : ({ t with cr := t.cr } : T) = t := rfl
      have e2 : t.cr.take 0 ++ List.replicate 8 0 = z8 := rfl
      rw [e1, e2] at hz
      rw [hw', if_pos (by rfl)]
      refine hz.trans ?_
      rw [ref26_Next.k1_1, tl_len hl2, ble_t (Nat.le_refl _), cond_true, bindL_eq, tl_take hl2, tl_len hl2, beq_t, cond_true, splice_all (by rw [tl_len hl2]; rfl), bindL_eq, tl_len hl2, ble_t (Nat.le_refl _), cond_true, bindL_eq, tl_take hl2]
      simp [nextS, hr, hw]
    | true =>
      have hw' : someB t.q c t.n.toNat 0 = true := hw
      obtain ⟨r, hx⟩ := next_some R hw
      rw [hw', if_neg (by simp), rnext_loop hc hk sg 9 N t r R hx hN]
      simp [nextS, hr, hw, hx]

theorem nextS_len {t : T} {c : List Int} (hl : t.cr.length = 8) : (nextS t c).1.cr.length = 8 := by
  unfold nextS
  cases hr : rightB t with
  | false => exact hl
  | true =>
    have R := (rightB_iff hl).1 hr
    cases hw : waits t c with
    | false => rfl
    | true =>
      obtain ⟨r, hx⟩ := next_some R hw
      simp only [cond_true, hx]
      obtain ⟨j, h1, h2, h3⟩ := (someB_iff _ _ _ _).1 hw
      have hn := R.n1
      exact (nobody_step R h1 (by omega) h3 hx).2.2.1.len

theorem cellsEq_tl {t : T} (hl : t.cr.length = 8) : cellsEq [CK.int .i64, CK.int .i64, CK.int .i64, CK.int .i64, CK.int .i64, CK.int .i64, CK.int .i64, CK.int .i64, CK.int .i64, CK.int .i64, CK.int .i64] (tl t) (tl t) = some true := by
  obtain ⟨n, q, a, cr⟩ := t
  match cr, hl with
  | [a, b, c, d, e, f, g, h], _ => simp [cellsEq, tl, scalEq, kEq]

theorem tells_ev (hlv : ∀ sg, C 14 [] sg = some (.ret (B true) sg)) (hnx : NextOK C) (hrn : ∀ u c sg, u.cr.length = 8 → c.length = 8 → C 11 [.agg (tl u), .agg (cl c)] sg = some (.ret (.tup [.agg (tl (nextS u c).1), I (nextS u c).2.1, B (nextS u c).2.2]) sg))
    (hck : ∀ t sg, t.cr.length = 8 → C 15 [.agg (tl t)] sg = some (.ret (I (if rightB t = true then 0 else 18)) sg)) (hrt : ∀ t sg, t.cr.length = 8 → C 13 [.agg (tl t)] sg = some (.ret (B (rightB t)) sg))
    (hou : ∀ t sg, t.cr.length = 8 → C 10 [.agg (tl t)] sg = some (.ret (.agg (tl t)) sg))
    (hnw : ∀ n q sg, -9223372036854775808 ≤ n ∧ n ≤ 9223372036854775807 → C 12 [I n, I q] sg = some (.ret (.tup [.agg (tl (if rightB (newT n q) = true then newT n q else zeroT')), I (if rightB (newT n q) = true then 0 else 18)]) sg))
    {t : T} {c : List Int} (hl : t.cr.length = 8) (hc : c.length = 8) {n q : Int} (hn : -9223372036854775808 ≤ n ∧ n ≤ 9223372036854775807) (sg : Sg) :
    evalF C N law26_DrrTells.a [.agg (tl t), .agg (cl c), I n, I q] sg = some (.ret (B true) sg) := by
  have hS := nextS_len (c := c) hl
  generalize hSd : nextS t c = S at hS
  obtain ⟨u, k, b⟩ := S
  simp only at hS
  have n1 := hnx t c sg hl hc
  have n2 := hrn t c sg hl hc
  rw [hSd] at n1 n2
  simp only at n1 n2
  have hF : [I n, I q, I (max n 1 - 1), I 0, I 0, I 0, I 0, I 0, I 0, I 0, I 0] = tl (newT n q) := by
    unfold newT
    have : (if 0 < n then n - 1 else 0) = max n 1 - 1 := by split <;> omega
    rw [this]; rfl
  have hFl : (newT n q).cr.length = 8 := rfl
  have ble11 : Nat.ble 11 11 = true := rfl
  have beq11 : Nat.beq 11 11 = true := rfl
  have ble8 : Nat.ble 8 8 = true := rfl
  have l1 := tl_len hl
  have l2 := tl_len hS
  have lc := cl_len hc
  have k1 := tl_take hl
  have k2 := tl_take hS
  have kc := cl_take hc
  have g3 : ∀ (x y z : AVal), [x, y, z].length.beq 3 = true := fun _ _ _ => rfl
  have g30 : ∀ (x y z : AVal), [x, y, z][0]? = some x := fun _ _ _ => rfl
  have g31 : ∀ (x y z : AVal), [x, y, z][1]? = some y := fun _ _ _ => rfl
  have g32 : ∀ (x y z : AVal), [x, y, z][2]? = some z := fun _ _ _ => rfl
  have g2 : ∀ (x y : AVal), [x, y].length.beq 2 = true := fun _ _ => rfl
  have g20 : ∀ (x y : AVal), [x, y][0]? = some x := fun _ _ => rfl
  have g21 : ∀ (x y : AVal), [x, y][1]? = some y := fun _ _ => rfl
  have sp : ∀ (t : T), t.cr.length = 8 → splice z11 0 (tl t) = tl t := fun t h => splice_all (by rw [tl_len h]; rfl)
  have w1 : IntKind.i64.wrap (max n 1 - 1) = max n 1 - 1 := i64_id (by omega)
  have o1 := hou t
  rw [law26_DrrTells.main]
  simp only [l1, ble11, cond_true, bindL_eq, k1, hou t _ hl, withOut_ret, withG_at, lc, ble8, kc, n1, withT_at, g3, g30, g31, g32, withI_at, withB_at, l2, beq11, sp u hS, n2, hnw n q _ hn, g2, g20, g21, max2_eq, w1]
  have hF' : [AVal.at (Value.int .i64 n), AVal.at (Value.int .i64 q), AVal.at (Value.int .i64 (max n 1 - 1)), I 0, I 0, I 0, I 0, I 0, I 0, I 0, I 0] = tl (newT n q) := hF
  have tail : ∀ X : Option Bool, X = some true → (withO X fun r => if (false ^^ r) = true then some (Out.ret (B true) sg) else none) = some (Out.ret (B true) sg) := by rintro _ rfl; rfl
  have x00 : ((0 : Int) == 0) = true := rfl
  have x0n : ((0 : Int) != 0) = false := rfl
  have x18 : ((18 : Int) == 0) = false := rfl
  have x18n : ((18 : Int) != 0) = true := rfl
  have x1818 : ((18 : Int) == 18) = true := rfl
  have x1818n : ((18 : Int) != 18) = false := rfl
  have xb : (false ^^ b == b) = true := by cases b <;> rfl
  have xk : (k == k) = true := by simp
  have wO : ∀ {α : Type} (r : Bool) (f : Bool → Option α), withO (some r) f = f r := fun _ _ => rfl
  have hz : zeroT'.cr.length = 8 := rfl
  have cz : cellsEq [CK.int .i64, CK.int .i64, CK.int .i64, CK.int .i64, CK.int .i64, CK.int .i64, CK.int .i64, CK.int .i64, CK.int .i64, CK.int .i64, CK.int .i64] (tl zeroT') z11 = some true := cellsEq_tl (t := zeroT') rfl
  have yt : (if (true = true) then (0 : Int) else 18) = 0 := rfl
  have yf : (if (false = true) then (0 : Int) else 18) = 18 := rfl
  have xx : (true ^^ true) = false := rfl
  have xf : (false ^^ true) = true := rfl
  have xg : (true ^^ false) = true := rfl
  have bf : (false == false) = true := rfl
  have bt : (true == true) = true := rfl
  cases hr : rightB (newT n q) with
  | true =>
    simp only [hF', hrt _ _ hFl, hr, if_true, tl_len hFl, sp _ hFl, tl_take hFl, ble11, beq11, cond_true, withOut_ret, withB_at, withI_at, withG_at, x00, x0n, bt, xx, xf, hou _ _ hFl, cellsEq_tl hFl, wO, hlv, l1, l2, k1, k2, bindL_eq, hou _ _ hS, cellsEq_tl hS, xk, xb, hou _ _ hl, hck _ _ hl, hrt _ _ hl, Bool.false_eq_true, if_false]
    cases hrT : rightB t with
    | true => simp only [if_true, x00, bt, xf, Bool.false_eq_true, if_false]; try rfl
    | false => simp only [if_true, x18, bf, xf, Bool.false_eq_true, if_false, x1818]; try rfl
  | false =>
    simp only [hF', hrt _ _ hFl, hr, if_true, tl_len hz, sp _ hz, tl_take hz, ble11, beq11, cond_true, withOut_ret, withB_at, withI_at, withG_at, x18, x18n, x1818, x1818n, bt, bf, xx, xf, hou _ _ hFl, cz, wO, hlv, l1, l2, k1, k2, bindL_eq, hou _ _ hS, cellsEq_tl hS, xk, xb, hou _ _ hl, hck _ _ hl, hrt _ _ hl, Bool.false_eq_true, if_false]
    cases hrT : rightB t with
    | true => simp only [if_true, x00, bt, xf, Bool.false_eq_true, if_false]; try rfl
    | false => simp only [if_true, x18, bf, xf, Bool.false_eq_true, if_false, x1818]; try rfl
end Go.Abs
