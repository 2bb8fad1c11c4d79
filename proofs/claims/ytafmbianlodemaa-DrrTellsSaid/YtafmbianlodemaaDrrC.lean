/- THE TURNS: what each function's evaluation gives. -/
import Derived.Test.YtafmbianlodemaaRsDrr
import Derived.Test.YtafmbianlodemaaDrrLaw
import Derived.IntWalk
namespace Go.Abs
set_option linter.unusedSectionVars false
set_option linter.unusedSimpArgs false
set_option linter.unusedVariables false
open Go.Drr

abbrev I (n : Int) : AVal := .at (.int .i64 n)
abbrev B (b : Bool) : AVal := .at (.bool b)
def tl (t : T) : List AVal := I t.n :: I t.q :: I t.a :: t.cr.map I
def cl (c : List Int) : List AVal := c.map I

theorem withI_at {α : Type} (k : IntKind) (n : Int) (c : Int → Option α) : withI k (some (.at (.int k n))) c = c n := by cases k <;> rfl
theorem withB_at {α : Type} (b : Bool) (c : Bool → Option α) : withB (some (.at (.bool b))) c = c b := rfl
theorem withG_at {α : Type} (l : List AVal) (c : List AVal → Option α) : withG (some (.agg l)) c = c l := rfl
theorem withT_at {α : Type} (l : List AVal) (c : List AVal → Option α) : withT (.tup l) c = c l := rfl
theorem withOut_ret {α : Type} (v : AVal) (sg : Sg) (a b : AVal → Sg → Option α) : withOut (some (.ret v sg)) a b = a v sg := rfl
theorem bindL_eq {α : Type} (l : List AVal) (c : List AVal → Option α) : bindL l c = c l := rfl
theorem iter_succ (f : St → (Ex → St → R) → R) (n : Nat) (st : St) (k : Ex → St → R) : iter f (n + 1) st k = f st (thenK (fun st => iter f n st k) k) := rfl
theorem thenK_n (x : St → R) (k : Ex → St → R) (st : St) : thenK x k .normal st = x st := rfl
theorem thenK_e (x : St → R) (k : Ex → St → R) (i : Nat) (st : St) : thenK x k (.exit i) st = k (.exit i) st := rfl
theorem thenK_r (x : St → R) (k : Ex → St → R) (st : St) : thenK x k .ret st = k .ret st := rfl
theorem ble_t {a b : Nat} (h : a ≤ b) : Nat.ble a b = true := Nat.ble_eq_true_of_le h
theorem beq_t (a : Nat) : Nat.beq a a = true := Nat.beq_refl a
theorem max2_eq (x y : Int) : max2 x y = max x y := by unfold max2; split <;> omega
theorem min2_eq (x y : Int) : min2 x y = min x y := by unfold min2; split <;> omega
theorem i64_id {n : Int} (h : -9223372036854775808 ≤ n ∧ n ≤ 9223372036854775807) : IntKind.i64.wrap n = n := Go.IntWalk.i64_in n h

theorem at_get {l : List Int} {i : Int} (h0 : 0 ≤ i) (hl : i < l.length) : l[i.toNat]? = some (at_ l i) := by
  unfold at_
  rw [List.getD_eq_getElem?_getD, List.getElem?_eq_getElem (by omega)]; rfl

section
variable {t : T} {c : List Int}
theorem tl_0 (t : T) : (tl t)[0]? = some (I t.n) := rfl
theorem tl_1 (t : T) : (tl t)[1]? = some (I t.q) := rfl
theorem tl_2 (t : T) : (tl t)[2]? = some (I t.a) := rfl
theorem tl_len (h : t.cr.length = 8) : (tl t).length = 11 := by simp [tl, h]
theorem tl_take (h : t.cr.length = 8) : List.take 11 (tl t) = tl t := List.take_of_length_le (by rw [tl_len h]; exact Nat.le_refl _)
theorem tl_credit (t : T) : List.drop 3 (tl t) = cl t.cr := rfl
theorem tl_get (h : t.cr.length = 8) {i : Int} (h0 : 0 ≤ i) (h8 : i < 8) : (tl t)[3 + i.toNat * 1]? = some (I (at_ t.cr i)) := by
  rw [show 3 + i.toNat * 1 = i.toNat + 1 + 1 + 1 by omega]
  simp only [tl, List.getElem?_cons_succ, List.getElem?_map]
  rw [at_get h0 (by rw [h]; omega)]; rfl
theorem cl_len (h : c.length = 8) : (cl c).length = 8 := by simp [cl, h]
theorem cl_take (h : c.length = 8) : List.take 8 (cl c) = cl c := List.take_of_length_le (by rw [cl_len h]; exact Nat.le_refl _)
theorem cl_get (h : c.length = 8) {i : Int} (h0 : 0 ≤ i) (h8 : i < 8) : (cl c)[0 + i.toNat * 1]? = some (I (at_ c i)) := by
  rw [show 0 + i.toNat * 1 = i.toNat by omega]
  simp only [cl, List.getElem?_map]
  rw [at_get h0 (by rw [h]; omega)]; rfl
theorem cl_get' (h : c.length = 8) {i : Int} (h0 : 0 ≤ i) (h8 : i < 8) : (cl c)[i.toNat * 1]? = some (I (at_ c i)) := by
  rw [show i.toNat * 1 = 0 + i.toNat * 1 by omega]; exact cl_get h h0 h8
theorem splice_all {zs l : List AVal} (h : zs.length = l.length) : splice zs 0 l = l := by
  simp [splice, ← h]
theorem tl_set (h : t.cr.length = 8) {i x : Int} (h0 : 0 ≤ i) (h8 : i < 8) : splice (tl t) (3 + i.toNat * 1) [I x] = tl (t.set i x) := by
  have e : ∀ (l : List Int) (k : Nat), k < l.length → List.take k (l.map I) ++ ([I x] ++ List.drop (k + 1) (l.map I)) = (l.set k x).map I := by
    intro l k hk
    rw [List.set_eq_take_append_cons_drop, if_pos hk]
    simp
  rw [show 3 + i.toNat * 1 = i.toNat + 3 by omega]
  have := e t.cr i.toNat (by omega)
  simp only [splice, tl, T.set, List.take_succ_cons, List.length_cons, List.length_nil, List.cons_append]
  rw [show i.toNat + 3 + (0 + 1) = (i.toNat + 1) + 3 by omega]
  simp only [List.drop_succ_cons]
  rw [← this]; rfl
theorem tl_at (t : T) (x : Int) : splice (tl t) 2 [I x] = tl { t with a := x } := rfl
theorem tl_zero (h : t.cr.length = 8) (zs : List Int) (hz : zs.length = 8) : splice (tl t) 3 (cl zs) = tl { t with cr := zs } := by
  simp [splice, tl, cl, hz, h]
theorem cl_set (h : c.length = 8) {i x : Int} (h0 : 0 ≤ i) (h8 : i < 8) : splice (cl c) (0 + i.toNat * 1) [I x] = cl (c.set i.toNat x) := by
  rw [show 0 + i.toNat * 1 = i.toNat by omega]
  simp only [splice, cl]
  rw [List.set_eq_take_append_cons_drop, if_pos (by omega)]
  simp
end

/-! ### cost, most -/
variable {C : CallF} {N : Nat}
theorem cost_ev {t : T} {c : List Int} (hc : c.length = 8) {i : Int} (h0 : 0 ≤ i) (h8 : i < 8) (sg : Sg) :
    evalF C N drr_Turns_cost.a [.agg (tl t), .agg (cl c), I i] sg = some (.ret (I (cost t.q c i)) sg) := by
  rw [drr_Turns_cost.main]
  rw [if_pos ⟨h0, by simpa using h8⟩, cl_get hc h0 h8, tl_1]
  simp only [withI_at, cond_true, cond_false, max2_eq, min2_eq, cost]

theorem most_ev {t : T} (hq : 0 ≤ t.q ∧ t.q ≤ 65536) (i : Int) (sg : Sg) : evalF C N drr_Turns_most.a [.agg (tl t), I i] sg = some (.ret (I (most t i)) sg) := by
  rw [drr_Turns_most.main]
  simp only [tl_0, tl_1, tl_2, withI_at, decide_eq_true_eq, beq_iff_eq, most]
  rw [i64_id (by omega)]
  repeat' split
  all_goals rfl

/-! ### Check -/
def okFrom (t : T) : Nat → Int → Bool
  | 0, _ => true
  | k + 1, i => decide (0 ≤ at_ t.cr i ∧ at_ t.cr i ≤ most t i) && okFrom t k (i + 1)
def rightB (t : T) : Bool := decide (1 ≤ t.n ∧ t.n ≤ 8 ∧ 1 ≤ t.q ∧ t.q ≤ 65536 ∧ 0 ≤ t.a ∧ t.a < t.n) && okFrom t 8 0

theorem okFrom_iff (t : T) : ∀ (k : Nat) (i : Int), okFrom t k i = true ↔ ∀ j : Int, i ≤ j → j < i + k → 0 ≤ at_ t.cr j ∧ at_ t.cr j ≤ most t j
  | 0, i => by simp [okFrom]; intro j h1 h2; omega
  | k + 1, i => by
    simp only [okFrom, Bool.and_eq_true, decide_eq_true_eq, okFrom_iff t k (i + 1)]
    constructor
    · rintro ⟨h1, h2⟩ j h3 h4
      by_cases e : j = i
      · rw [e]; exact h1
      · exact h2 j (by omega) (by omega)
    · intro h
      exact ⟨h i (Int.le_refl _) (by omega), fun j h1 h2 => h j (by omega) (by omega)⟩
theorem rightB_iff {t : T} (hl : t.cr.length = 8) : rightB t = true ↔ Right t := by
  simp only [rightB, Bool.and_eq_true, decide_eq_true_eq, okFrom_iff]
  constructor
  · rintro ⟨⟨h1, h2, h3, h4, h5, h6⟩, h⟩
    exact ⟨h1, h2, h3, h4, h5, h6, hl, fun i a b => (h i a (by omega)).1, fun i a b => (h i a (by omega)).2⟩
  · intro h
    exact ⟨⟨h.n1, h.n8, h.q1, h.q2, h.a0, h.an⟩, fun j a b => ⟨h.cr0 j a (by omega), h.crm j a (by omega)⟩⟩

theorem check_loop {t : T} (hl : t.cr.length = 8) (hq : 0 ≤ t.q ∧ t.q ≤ 65536) (hm : ∀ i sg, C 36 [.agg (tl t), I i] sg = some (.ret (I (most t i)) sg)) (sg : Sg) :
    ∀ (k m : Nat) (i : Int), 0 ≤ i → i + k = 8 → k < m →
    iter (drr_Check.R0 C N) m (mkS [1, 36, 37] [Slot.lp 1 0, Slot.v (.agg (cl t.cr)) false, Slot.v (I i) false] [some { cells := tl t }, none, none] (RVal.sg sg)) (drr_Check.K0 C N) =
      some (.ret (I (if okFrom t k i = true then 0 else 18)) sg)
  | k, 0, i, _, _, h => by omega
  | 0, m + 1, i, h0, h8, h => by
    rw [iter_succ, drr_Check.r0]
    rw [if_neg (by simp; omega), thenK_e, drr_Check.k0_2]
    simp [okFrom]
  | k + 1, m + 1, i, h0, h8, h => by
    have hi8 : i < 8 := by omega
    rw [iter_succ, drr_Check.r0]
    rw [if_pos (by simpa using hi8), if_pos ⟨h0, by simpa using hi8⟩, cl_get' hl h0 hi8, withI_at]
    by_cases h1 : at_ t.cr i < 0
    · rw [if_neg (by simpa using h1), thenK_r, drr_Check.k0_1]
      have : ¬ (0 ≤ at_ t.cr i ∧ at_ t.cr i ≤ most t i) := by omega
      simp [okFrom, this]
    · rw [if_pos (by simpa using h1), tl_len hl, ble_t (Nat.le_refl _), cond_true, bindL_eq, tl_take hl, hm, withOut_ret, withI_at]
      by_cases h2 : at_ t.cr i > most t i
      · rw [if_pos (by simpa using h2), thenK_r, drr_Check.k0_1]
        have : ¬ (0 ≤ at_ t.cr i ∧ at_ t.cr i ≤ most t i) := by omega
        simp [okFrom, this]
      · rw [if_neg (by simpa using h2), thenK_n, i64_id (by omega), check_loop hl hq hm sg k m (i + 1) (by omega) (by omega) (by omega)]
        have : 0 ≤ at_ t.cr i ∧ at_ t.cr i ≤ most t i := by omega
        simp [okFrom, this]

theorem check_ev {t : T} (hl : t.cr.length = 8) (hm : 0 ≤ t.q → t.q ≤ 65536 → ∀ i sg, C 36 [.agg (tl t), I i] sg = some (.ret (I (most t i)) sg)) (hN : 8 < N) (sg : Sg) :
    evalF C N drr_Check.a [.agg (tl t)] sg = some (.ret (I (if rightB t = true then 0 else 18)) sg) := by
  rw [drr_Check.main]
  simp only [tl_0, tl_1, tl_2, withI_at, decide_eq_false_iff_not, decide_eq_true_eq, tl_len hl, ble_t (Nat.le_refl _), cond_true, bindL_eq, tl_credit, cl_take hl]
  by_cases h1 : 1 ≤ t.n ∧ t.n ≤ 8 ∧ 1 ≤ t.q ∧ t.q ≤ 65536 ∧ 0 ≤ t.a ∧ t.a < t.n
  · rw [if_pos (by omega), if_pos (by omega), if_pos (by omega), if_pos (by omega), if_pos (by omega), if_neg (by omega),
      check_loop hl (by omega) (hm (by omega) (by omega)) sg 8 N 0 (by omega) (by omega) hN]
    simp [rightB, h1]
  · have : rightB t = false := by simp [rightB, h1]
    simp only [this, Bool.false_eq_true, if_false]
    repeat' split
    all_goals first | rfl | (exfalso; omega)

/-! ### some, move, Next -/
def someB (q : Int) (c : List Int) : Nat → Int → Bool
  | 0, _ => false
  | k + 1, i => decide (0 < cost q c i) || someB q c k (i + 1)
theorem someB_iff (q : Int) (c : List Int) : ∀ (k : Nat) (i : Int), someB q c k i = true ↔ ∃ j : Int, i ≤ j ∧ j < i + k ∧ 0 < cost q c j
  | 0, i => by simp [someB]; intro j h1 h2; omega
  | k + 1, i => by
    simp only [someB, Bool.or_eq_true, decide_eq_true_eq, someB_iff q c k (i + 1)]
    constructor
    · rintro (h | ⟨j, h1, h2, h3⟩)
      · exact ⟨i, Int.le_refl _, by omega, h⟩
      · exact ⟨j, by omega, by omega, h3⟩
    · rintro ⟨j, h1, h2, h3⟩
      by_cases e : j = i
      · left; rw [← e]; exact h3
      · right; exact ⟨j, by omega, by omega, h3⟩

theorem some_loop {t : T} {c : List Int} (hl : t.cr.length = 8) (hc : c.length = 8) (hk : ∀ i sg, 0 ≤ i → i < 8 → C 33 [.agg (tl t), .agg (cl c), I i] sg = some (.ret (I (cost t.q c i)) sg)) (sg : Sg) (hn : t.n ≤ 8) :
    ∀ (k m : Nat) (i : Int), 0 ≤ i → i + k = t.n → k < m →
    iter (drr_Turns_some.R0 C N) m (mkS [2, 3, 7, 8] [Slot.lp 2 0, Slot.lp 3 0, Slot.v (I t.n) false, Slot.v (I i) false] [some { cells := tl t }, some { cells := cl c }, none, none] (RVal.sg sg)) (drr_Turns_some.K0 C N) =
      some (.ret (B (someB t.q c k i)) sg)
  | k, 0, i, _, _, h => by omega
  | 0, m + 1, i, h0, h8, h => by
    rw [iter_succ, drr_Turns_some.r0]
    rw [if_neg (by simp; omega), thenK_e, drr_Turns_some.k0_2]
    simp [someB]
  | k + 1, m + 1, i, h0, h8, h => by
    have hi8 : i < 8 := by omega
    rw [iter_succ, drr_Turns_some.r0]
    rw [if_pos (by simp; omega), tl_len hl, ble_t (Nat.le_refl _), cond_true, bindL_eq, tl_take hl, cl_len hc, ble_t (Nat.le_refl _), cond_true, bindL_eq, cl_take hc, hk i sg h0 hi8, withOut_ret, withI_at]
    by_cases h1 : cost t.q c i > 0
    · rw [if_pos (by simpa using h1), thenK_r, drr_Turns_some.k0_1]
      have : 0 < cost t.q c i := h1
      simp [someB, this]
    · rw [if_neg (by simpa using h1), thenK_n, i64_id (by omega), some_loop hl hc hk sg hn k m (i + 1) (by omega) (by omega) (by omega)]
      have : ¬ 0 < cost t.q c i := h1
      simp [someB, this]

theorem some_ev {t : T} {c : List Int} (hl : t.cr.length = 8) (hc : c.length = 8) (hk : ∀ i sg, 0 ≤ i → i < 8 → C 33 [.agg (tl t), .agg (cl c), I i] sg = some (.ret (I (cost t.q c i)) sg)) (sg : Sg) (hn : t.n ≤ 8) (hn0 : 0 ≤ t.n) (hN : 8 < N) :
    evalF C N drr_Turns_some.a [.agg (tl t), .agg (cl c)] sg = some (.ret (B (someB t.q c t.n.toNat 0)) sg) := by
  rw [drr_Turns_some.main, tl_0, withI_at]
  exact some_loop hl hc hk sg hn t.n.toNat N 0 (by omega) (by omega) (by omega)

/-- Turns within bounds: what the walk may meet. -/
structure Mild (t : T) : Prop where
  n1 : 1 ≤ t.n
  n8 : t.n ≤ 8
  q1 : 1 ≤ t.q
  q2 : t.q ≤ 65536
  a0 : 0 ≤ t.a
  an : t.a < t.n
  len : t.cr.length = 8
  cr : ∀ i : Int, 0 ≤ i → i < 8 → 0 ≤ at_ t.cr i ∧ at_ t.cr i ≤ 131072
theorem right_mild {t : T} (h : Right t) : Mild t := by
  refine ⟨h.n1, h.n8, h.q1, h.q2, h.a0, h.an, h.len, fun i h0 h8 => ⟨h.cr0 i h0 h8, ?_⟩⟩
  have e1 := h.crm i h0 h8
  have e2 := h.q1
  have e3 := h.q2
  unfold most at e1
  split at e1
  · omega
  · split at e1 <;> omega
theorem left_mild {t : T} (h : Right t) (c : List Int) : Mild (left t c) := by
  have m := right_mild h
  refine ⟨by rw [left_n]; exact m.n1, by rw [left_n]; exact m.n8, by rw [left_q]; exact m.q1, by rw [left_q]; exact m.q2, by rw [left_a]; exact m.a0, by rw [left_a, left_n]; exact m.an, by rw [left_len]; exact m.len, fun i h0 h8 => ?_⟩
  have n8 := m.n8
  have an := m.an
  rw [left_cr c m.a0 (by rw [m.len]; omega) h0]
  have := m.cr i h0 h8
  split <;> omega
theorem tmod_nxt {n a : Int} (h1 : 1 ≤ n) (h2 : 0 ≤ a) (h3 : a < n) : (a + 1).tmod n = nxt n a := by
  rw [Int.tmod_eq_emod_of_nonneg (by omega)]
  unfold nxt
  split
  · rename_i e; rw [e, Int.emod_self]
  · exact Int.emod_eq_of_lt (by omega) (by omega)

theorem move_ev {t : T} {c : List Int} (h : Mild t) (hc : c.length = 8) (hk : ∀ t i sg, 0 ≤ i → i < 8 → C 33 [.agg (tl t), .agg (cl c), I i] sg = some (.ret (I (cost t.q c i)) sg)) (sg : Sg) :
    evalF C N drr_Turns_move.a [.agg (tl t), .agg (cl c)] sg = some (.ret (.agg (tl (mv t c))) sg) := by
  have n1 := h.n1
  have n8 := h.n8
  have a0 := h.a0
  have an := h.an
  obtain ⟨b0, b1⟩ := nxt_lt n1 a0 an
  have hl1 : (t.cr).length = 8 := h.len
  have hl2 : ({ t with a := nxt t.n t.a } : T).cr.length = 8 := h.len
  rw [drr_Turns_move.main, tl_2, tl_0, withI_at, withI_at, if_neg (by omega), tl_len hl1, ble_t (by omega), cond_true, i64_id (by omega), tmod_nxt n1 a0 an, tl_at, bindL_eq]
  simp only [tl_len hl2, ble_t (Nat.le_refl _), cond_true, bindL_eq, tl_take hl2, cl_len hc, cl_take hc, tl_2, withI_at, hk { t with a := nxt t.n t.a } (nxt t.n t.a) sg b0 (by omega), withOut_ret]
  have hcr := h.cr (nxt t.n t.a) b0 (by omega)
  have q1 := h.q1
  have q2 := h.q2
  by_cases hp : cost t.q c (nxt t.n t.a) > 0
  · rw [if_pos (by simpa using hp), if_pos ⟨b0, by simp; omega⟩, tl_get hl2 b0 (by omega), withI_at, tl_1, withI_at, if_pos ⟨b0, by simp; omega⟩, ble_t (by omega), cond_true, tl_set hl2 b0 (by omega), i64_id (by simp only; omega)]
    have hl3 : (({ t with a := nxt t.n t.a } : T).set (nxt t.n t.a) (at_ t.cr (nxt t.n t.a) + t.q)).cr.length = 8 := by simp [T.set, hl1]
    have e : mv t c = ({ t with a := nxt t.n t.a } : T).set (nxt t.n t.a) (at_ t.cr (nxt t.n t.a) + t.q) := by
      simp only [mv]; rw [if_pos hp]
    rw [tl_len hl3, ble_t (Nat.le_refl _), cond_true, tl_take hl3, tl_len hl3, beq_t, cond_true, splice_all (by rw [tl_len hl3]; rfl), tl_len hl3, ble_t (Nat.le_refl _), cond_true, tl_take hl3, e]
  · have e : mv t c = ({ t with a := nxt t.n t.a } : T) := by
      simp only [mv]; rw [if_neg hp]
    rw [if_neg (by simpa using hp), beq_t, cond_true, splice_all (by rw [tl_len hl2]; rfl), tl_len hl2, ble_t (Nat.le_refl _), cond_true, tl_take hl2, e]

abbrev z11 : List AVal := [I 0, I 0, I 0, I 0, I 0, I 0, I 0, I 0, I 0, I 0, I 0]

theorem next_loop {c : List Int} (hc : c.length = 8) (hk : ∀ t i sg, 0 ≤ i → i < 8 → C 33 [.agg (tl t), .agg (cl c), I i] sg = some (.ret (I (cost t.q c i)) sg))
    (hmv : ∀ t sg, Mild t → C 34 [.agg (tl t), .agg (cl c)] sg = some (.ret (.agg (tl (mv t c))) sg)) (sg : Sg) :
    ∀ (m M : Nat) (t : T) (r : T × Int), Right t → next m t c = some r → m ≤ M →
    iter (drr_Next.R0 C N) M (mkS [2, 3, 4] [Slot.lp 2 0, Slot.lp 3 0, Slot.lp 4 0] [some { cells := tl t }, some { cells := cl c }, some { cells := z11 }] (RVal.sg sg)) (drr_Next.K0 C N) =
      some (.ret (.tup [.agg (tl r.1), I r.2, B true]) sg)
  | 0, M, t, r, _, h, _ => by simp [next] at h
  | m + 1, 0, t, r, _, h, hM => by omega
  | m + 1, M + 1, t, r, hr, h, hM => by
    have md := right_mild hr
    have hl := hr.len
    have a0 := hr.a0
    have a8 : t.a < 8 := by have := hr.an; have := hr.n8; omega
    rw [next_succ] at h
    rw [iter_succ, drr_Next.r0, tl_len hl, ble_t (Nat.le_refl _), cond_true, bindL_eq, tl_take hl, cl_len hc, ble_t (Nat.le_refl _), cond_true, bindL_eq, cl_take hc, tl_2, withI_at, hk t t.a sg a0 a8, withOut_ret, withI_at]
    have q0 := cost_nn hr.q1 c t.a
    have q3 := cost_le t.q c t.a
    have q2 := hr.q2
    by_cases hz : cost t.q c t.a = 0
    · rw [if_pos (by simpa using hz), withI_at, if_pos ⟨a0, by simpa using a8⟩, ble_t (by omega), cond_true, tl_set hl a0 a8, bindL_eq]
      have hl2 : (t.set t.a 0).cr.length = 8 := by simp [T.set, hl]
      have el : left t c = t.set t.a 0 := by simp [left, hz]
      rw [if_neg (by omega)] at h
      have hp := past_right hr (by omega) (past hr c)
      rw [el] at h hp
      have hl3 : (mv (t.set t.a 0) c).cr.length = 8 := hp.len
      have mm := left_mild hr c
      rw [el] at mm
      rw [tl_len hl2, ble_t (Nat.le_refl _), cond_true, bindL_eq, tl_take hl2, cond_true, bindL_eq, hmv _ sg mm, withOut_ret, withG_at, tl_len hl3, beq_t, cond_true, cond_true, splice_all (by rw [tl_len hl2, tl_len hl3]), bindL_eq, thenK_n]
      exact next_loop hc hk hmv sg m M _ r hp h (by omega)
    · rw [if_neg (by simpa using hz), withI_at, if_pos ⟨a0, by simpa using a8⟩, tl_get hl a0 a8, withI_at]
      by_cases hle : cost t.q c t.a ≤ at_ t.cr t.a
      · rw [if_pos ⟨fun e => hz e.symm, hle⟩] at h
        cases h
        have hcr := md.cr t.a a0 a8
        have hl2 : (t.set t.a (at_ t.cr t.a - cost t.q c t.a)).cr.length = 8 := by simp [T.set, hl]
        have ea : (t.set t.a (at_ t.cr t.a - cost t.q c t.a)).a = t.a := rfl
        rw [if_pos (by simpa using hle), withI_at, if_pos ⟨a0, by simpa using a8⟩, tl_get hl a0 a8, withI_at, if_pos ⟨a0, by simpa using a8⟩, ble_t (by omega), cond_true, i64_id (by omega), tl_set hl a0 a8, bindL_eq, tl_len hl2, ble_t (Nat.le_refl _), cond_true, bindL_eq,
          tl_take hl2, tl_2, withI_at, tl_len hl2, beq_t, cond_true, splice_all (by rw [tl_len hl2]; rfl), bindL_eq, thenK_r, drr_Next.k0_1, tl_len hl2, ble_t (Nat.le_refl _), cond_true, bindL_eq, tl_take hl2]
        rfl
      · rw [if_neg (fun x => hle x.2)] at h
        have el : left t c = t := by simp [left, hz]
        have hp := past_right hr (fun x => hle x.2) (past hr c)
        rw [el] at h hp
        have hl3 : (mv t c).cr.length = 8 := hp.len
        rw [if_neg (by simpa using hle), cond_true, bindL_eq, cond_true, bindL_eq, hmv _ sg md, withOut_ret, withG_at, tl_len hl3, beq_t, cond_true, cond_true, splice_all (by rw [tl_len hl, tl_len hl3]), bindL_eq, thenK_n]
        exact next_loop hc hk hmv sg m M _ r hp h (by omega)
end Go.Abs
