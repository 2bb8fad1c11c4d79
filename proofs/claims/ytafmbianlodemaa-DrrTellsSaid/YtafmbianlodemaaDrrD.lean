/- THE TURNS: Next, New, Right, the law's own forms. -/
import Derived.Test.YtafmbianlodemaaDrrC
namespace Go.Abs
set_option linter.unusedSectionVars false
set_option linter.unusedSimpArgs false
set_option linter.unusedVariables false
open Go.Drr

def z8 : List Int := [0, 0, 0, 0, 0, 0, 0, 0]
def waits (t : T) (c : List Int) : Bool := someB t.q c t.n.toNat 0
def nextS (t : T) (c : List Int) : T × Int × Bool := bif rightB t then (bif waits t c then (match next 9 t c with | some r => (r.1, r.2, true) | none => (t, 0, false)) else ({ t with cr := z8 }, 0, false)) else (t, 0, false)

theorem next_some {t : T} {c : List Int} (h : Right t) (hw : waits t c = true) : ∃ r, next 9 t c = some r := by
  obtain ⟨j, h1, h2, h3⟩ := (someB_iff _ _ _ _).1 hw
  have hn := h.n1
  have hj : j < t.n := by omega
  refine next_ends 9 t h h1 hj h3 ?_
  have := (dist_bound h.a0 h.an h1 hj).2
  have := h.n8
  omega

variable {C : CallF} {N : Nat}

/-- What Next leans on. -/
structure NextC (C : CallF) (c : List Int) : Prop where
  cost : ∀ t i sg, 0 ≤ i → i < 8 → C 33 [.agg (tl t), .agg (cl c), I i] sg = some (.ret (I (cost t.q c i)) sg)
  move : ∀ t sg, Mild t → C 34 [.agg (tl t), .agg (cl c)] sg = some (.ret (.agg (tl (mv t c))) sg)
  check : ∀ t sg, t.cr.length = 8 → C 15 [.agg (tl t)] sg = some (.ret (I (if rightB t = true then 0 else 18)) sg)
  some : ∀ t sg, t.cr.length = 8 → 0 ≤ t.n → t.n ≤ 8 → C 32 [.agg (tl t), .agg (cl c)] sg = some (.ret (B (someB t.q c t.n.toNat 0)) sg)

theorem next_ev {t : T} {c : List Int} (hl : t.cr.length = 8) (hc : c.length = 8) (K : NextC C c) (hN : 9 ≤ N) (sg : Sg) :
    evalF C N drr_Next.a [.agg (tl t), .agg (cl c)] sg = some (.ret (.tup [.agg (tl (nextS t c).1), I (nextS t c).2.1, B (nextS t c).2.2]) sg) := by
  rw [drr_Next.main, tl_len hl, ble_t (Nat.le_refl _), cond_true, bindL_eq, tl_take hl, K.check t sg hl, withOut_ret, withI_at]
  cases hr : rightB t with
  | false =>
    rw [if_pos (by simp), cond_true, bindL_eq, tl_len hl, beq_t, cond_true]
    have : splice z11 0 (tl t) = tl t := splice_all (by rw [tl_len hl]; rfl)
    simp only [bindL_eq, List.nil_append]
    rw [splice_all (by rw [tl_len hl]; rfl), tl_len hl, ble_t (Nat.le_refl _), cond_true, tl_take hl]
    simp [nextS, hr]
  | true =>
    have R := (rightB_iff hl).1 hr
    rw [if_neg (by simp), cond_true, bindL_eq, cl_len hc, ble_t (Nat.le_refl _), cond_true, bindL_eq, cl_take hc, K.some t sg hl (by have := R.n1; omega) R.n8, withOut_ret, withB_at]
    cases hw : waits t c with
    | false =>
      have hw' : someB t.q c t.n.toNat 0 = false := hw
      have hl2 : ({ t with cr := z8 } : T).cr.length = 8 := rfl
      rw [hw', if_pos (by rfl), cond_true]
      have e : splice (tl t) 3 [I 0, I 0, I 0, I 0, I 0, I 0, I 0, I 0] = tl { t with cr := z8 } := tl_zero hl z8 rfl
      rw [e, bindL_eq, tl_len hl2, ble_t (Nat.le_refl _), cond_true, bindL_eq, tl_take hl2, tl_len hl2, beq_t, cond_true, splice_all (by rw [tl_len hl2]; rfl), bindL_eq, tl_len hl2, ble_t (Nat.le_refl _), cond_true, bindL_eq, tl_take hl2]
      simp [nextS, hr, hw]
    | true =>
      have hw' : someB t.q c t.n.toNat 0 = true := hw
      obtain ⟨r, hx⟩ := next_some R hw
      rw [hw', if_neg (by simp), next_loop hc K.cost K.move sg 9 N t r R hx hN]
      simp [nextS, hr, hw, hx]

theorem ours_ev {t : T} (hl : t.cr.length = 8) (sg : Sg) : evalF C N law26_ours.a [.agg (tl t)] sg = some (.ret (.agg (tl t)) sg) := by
  have e8 : (cl t.cr).length = 8 := cl_len hl
  have e : ∀ zs : List AVal, zs.length = 11 → I t.n :: I t.q :: I t.a :: (cl t.cr ++ List.drop (3 + (cl t.cr).length) zs) = tl t := by
    intro zs hz
    rw [e8, List.drop_of_length_le (by omega), List.append_nil]; rfl
  rw [law26_ours.main, tl_0, withI_at, tl_1, withI_at, tl_2, withI_at, tl_len hl, ble_t (Nat.le_refl _), cond_true, tl_credit, cl_take hl, bindL_eq, e _ rfl, bindL_eq, tl_len hl, beq_t, cond_true, splice_all (by rw [tl_len hl]; rfl), bindL_eq, tl_len hl, ble_t (Nat.le_refl _), cond_true,
    bindL_eq, tl_take hl, e8]
  rfl

def newT (n q : Int) : T := ⟨n, q, if 0 < n then n - 1 else 0, z8⟩
def zeroT' : T := ⟨0, 0, 0, z8⟩
theorem new_ev {n q : Int} (hn : -9223372036854775808 ≤ n ∧ n ≤ 9223372036854775807) (hk : ∀ t sg, t.cr.length = 8 → C 15 [.agg (tl t)] sg = some (.ret (I (if rightB t = true then 0 else 18)) sg)) (sg : Sg) :
    evalF C N drr_New.a [I n, I q] sg = some (.ret (.tup [.agg (tl (if rightB (newT n q) = true then newT n q else zeroT')), I (if rightB (newT n q) = true then 0 else 18)]) sg) := by
  have key := hk (newT n q) sg rfl
  rw [drr_New.main]
  by_cases h : 0 < n
  · have e : newT n q = ⟨n, q, n - 1, z8⟩ := by simp [newT, h]
    rw [if_pos (by simpa using h), i64_id (by omega)]
    rw [e] at key ⊢
    have key : C 15 [.agg [I n, I q, I (n - 1), I 0, I 0, I 0, I 0, I 0, I 0, I 0, I 0]] sg = _ := key
    rw [key, withOut_ret, withI_at]
    cases rightB ⟨n, q, n - 1, z8⟩ <;> rfl
  · have e : newT n q = ⟨n, q, 0, z8⟩ := by simp [newT, h]
    rw [if_neg (by simpa using h)]
    rw [e] at key ⊢
    have key : C 15 [.agg [I n, I q, I 0, I 0, I 0, I 0, I 0, I 0, I 0, I 0, I 0]] sg = _ := key
    rw [key, withOut_ret, withI_at]
    cases rightB ⟨n, q, 0, z8⟩ <;> rfl

theorem right_loop {t : T} (hl : t.cr.length = 8) (hq : 0 ≤ t.q ∧ t.q ≤ 65536) (sg : Sg) :
    ∀ (k m : Nat) (i : Int), 0 ≤ i → i + k = 8 → k < m →
    iter (ref26_Right.R0 C N) m (mkS [1, 3] [Slot.lp 1 0, Slot.v (I i) false] [some { cells := tl t }, none] (RVal.sg sg)) (ref26_Right.K0 C N) = some (.ret (B (okFrom t k i)) sg)
  | k, 0, i, _, _, h => by omega
  | 0, m + 1, i, h0, h8, h => by
    rw [iter_succ, ref26_Right.r0]
    rw [if_neg (by simp; omega), thenK_e, ref26_Right.k0_2]
    simp [okFrom]
  | k + 1, m + 1, i, h0, h8, h => by
    have hi8 : i < 8 := by omega
    have IH := right_loop hl hq sg k m (i + 1) (by omega) (by omega) (by omega)
    have hg : ∀ x : Nat, 0 + 3 + x * 1 = 3 + x * 1 := fun x => by omega
    have hy : (0 : Int) ≤ i ∧ i < (↑(8 : Nat) : Int) := ⟨h0, by simpa using hi8⟩
    rw [iter_succ, ref26_Right.r0]
    simp only [decide_eq_true_eq, decide_eq_false_iff_not, hy, and_self, if_true, hi8, tl_get hl h0 hi8, tl_0, tl_1, tl_2, withI_at, i64_id (show -9223372036854775808 ≤ t.q + t.q ∧ t.q + t.q ≤ 9223372036854775807 by omega),
      i64_id (show -9223372036854775808 ≤ i + 1 ∧ i + 1 ≤ 9223372036854775807 by omega), thenK_n, thenK_r, ref26_Right.k0_1, bne_iff_ne, ne_eq, bne_eq_false_iff_eq]
    rw [IH]
    have hok : okFrom t (k + 1) i = (decide (0 ≤ at_ t.cr i ∧ at_ t.cr i ≤ most t i) && okFrom t k (i + 1)) := rfl
    rw [hok]
    have hm : (i ≥ t.n ∧ most t i = 0) ∨ (i < t.n ∧ i = t.a ∧ most t i = 2 * t.q) ∨ (i < t.n ∧ i ≠ t.a ∧ most t i = t.q) := by
      unfold most
      by_cases e1 : i ≥ t.n
      · left; simp [e1]
      · by_cases e2 : i = t.a
        · right; left; exact ⟨by omega, e2, by rw [if_neg e1, if_pos e2]⟩
        · right; right; exact ⟨by omega, e2, by rw [if_neg e1, if_neg e2]⟩
    generalize most t i = mo at hm ⊢
    by_cases hgood : 0 ≤ at_ t.cr i ∧ at_ t.cr i ≤ mo
    · simp only [hgood, and_self, decide_true, Bool.true_and]
      repeat' split
      all_goals first | rfl | (exfalso; omega)
    · simp only [hgood, decide_false, Bool.false_and]
      repeat' split
      all_goals first | rfl | (exfalso; omega) | skip

theorem right_ev {t : T} (hl : t.cr.length = 8) (hN : 8 < N) (sg : Sg) : evalF C N ref26_Right.a [.agg (tl t)] sg = some (.ret (B (rightB t)) sg) := by
  rw [ref26_Right.main]
  simp only [tl_0, tl_1, tl_2, withI_at, decide_eq_false_iff_not, decide_eq_true_eq]
  by_cases h1 : 1 ≤ t.n ∧ t.n ≤ 8 ∧ 1 ≤ t.q ∧ t.q ≤ 65536 ∧ 0 ≤ t.a ∧ t.a < t.n
  · rw [if_pos (by omega), if_pos (by omega), if_pos (by omega), if_pos (by omega), if_pos (by omega), if_neg (by omega), right_loop hl (by omega) sg 8 N 0 (by omega) (by omega) hN]
    simp [rightB, h1]
  · have : rightB t = false := by simp [rightB, h1]
    rw [this]
    repeat' split
    all_goals first | rfl | (exfalso; omega)
end Go.Abs
