/- THE DOCUMENT's Next: the same turns. -/
import Derived.Test.YtafmbianlodemaaDrrN
namespace Go.Abs
set_option linter.unusedSectionVars false
set_option linter.unusedSimpArgs false
set_option linter.unusedVariables false
open Go.Drr

variable {C : CallF} {N : Nat}
theorem rcost_ev {q x : Int} (hq : 1 ≤ q) (sg : Sg) : evalF C N ref26_Cost.a [I q, I x] sg = some (.ret (I (min (max x 0) q)) sg) := by
  rw [ref26_Cost.main]
  simp only [decide_eq_true_eq]
  by_cases h1 : x < 0
  · rw [if_pos h1, show min (max x 0) q = 0 by omega]
  · rw [if_neg h1]
    by_cases h2 : x > q
    · rw [if_pos h2, show min (max x 0) q = q by omega]
    · rw [if_neg h2, show min (max x 0) q = x by omega]

def advT (cs l1 zs : List AVal) (sg : Sg) (k : Ex → St → R) : R :=
  withI .i64 cs[2]? fun n => if (0 : Int) ≤ n ∧ n < (↑(8 : Nat) : Int) then withI .i64 l1[0 + n.toNat * 1]? fun n => if decide (n > 0) = true then
      withI .i64 cs[2]? fun n => withI .i64 cs[2]? fun n_7 => if (0 : Int) ≤ n_7 ∧ n_7 < (↑(8 : Nat) : Int) then withI .i64 cs[3 + n_7.toNat * 1]? fun n_8 => withI .i64 cs[1]? fun n_9 =>
        if (0 : Int) ≤ n ∧ n < (↑(8 : Nat) : Int) then bif (3 + n.toNat * 1 + 1).ble cs.length then bindL (splice cs (3 + n.toNat * 1) [I (IntKind.i64.wrap (n_8 + n_9))]) fun cs =>
          k .normal (mkS [2, 3, 4] [Slot.lp 2 0, Slot.lp 3 0, Slot.lp 4 0] [some { cells := cs }, some { cells := l1 }, some { cells := zs }] (RVal.sg sg)) else none else none else none
    else k .normal (mkS [2, 3, 4] [Slot.lp 2 0, Slot.lp 3 0, Slot.lp 4 0] [some { cells := cs }, some { cells := l1 }, some { cells := zs }] (RVal.sg sg))
  else none
def advE (cs l1 zs : List AVal) (sg : Sg) (k : Ex → St → R) : R :=
  withI .i64 cs[2]? fun n => bif Nat.ble 3 cs.length then bindL (splice cs 2 [I (IntKind.i64.wrap (n + 1))]) fun cs =>
    withI .i64 cs[2]? fun n => withI .i64 cs[0]? fun n_6 =>
    if (n == n_6) = true then (bif Nat.ble 3 cs.length then bindL (splice cs 2 [I 0]) fun cs => advT cs l1 zs sg k else none)
    else advT cs l1 zs sg k
  else none

theorem advT_ev {s : T} {c : List Int} (hs : s.cr.length = 8) (hc : c.length = 8) (a0 : 0 ≤ s.a) (a8 : s.a < 8) (hq : 1 ≤ s.q ∧ s.q ≤ 65536) (hcr : 0 ≤ at_ s.cr s.a ∧ at_ s.cr s.a ≤ 131072) (zs : List AVal) (sg : Sg) (k : Ex → St → R) :
    advT (tl s) (cl c) zs sg k = k .normal (mkS [2, 3, 4] [Slot.lp 2 0, Slot.lp 3 0, Slot.lp 4 0] [some { cells := tl (if 0 < cost s.q c s.a then s.set s.a (at_ s.cr s.a + s.q) else s) }, some { cells := cl c }, some { cells := zs }] (RVal.sg sg)) := by
  have h8 : (0 : Int) ≤ s.a ∧ s.a < (↑(8 : Nat) : Int) := ⟨a0, by simpa using a8⟩
  unfold advT
  rw [tl_2, withI_at, if_pos h8, cl_get hc a0 a8, withI_at]
  by_cases hp : at_ c s.a > 0
  · have hp' : 0 < cost s.q c s.a := (cost_pos hq.1).2 hp
    rw [if_pos (by simpa using hp), withI_at, withI_at, if_pos h8, tl_get hs a0 a8, withI_at, tl_1, withI_at, if_pos h8, tl_len hs, ble_t (by omega), cond_true, i64_id (by omega), tl_set hs a0 a8, bindL_eq, if_pos hp']
  · have hp' : ¬ 0 < cost s.q c s.a := fun x => hp ((cost_pos hq.1).1 x)
    rw [if_neg (by simpa using hp), if_neg hp']

theorem advE_ev {s : T} {c : List Int} (h : Mild s) (hc : c.length = 8) (zs : List AVal) (sg : Sg) (k : Ex → St → R) :
    advE (tl s) (cl c) zs sg k = k .normal (mkS [2, 3, 4] [Slot.lp 2 0, Slot.lp 3 0, Slot.lp 4 0] [some { cells := tl (mv s c) }, some { cells := cl c }, some { cells := zs }] (RVal.sg sg)) := by
  have n1 := h.n1
  have n8 := h.n8
  have a0 := h.a0
  have an := h.an
  have hs := h.len
  have hs2 : ({ s with a := s.a + 1 } : T).cr.length = 8 := hs
  unfold advE
  rw [tl_2, withI_at, tl_len hs, ble_t (by omega), cond_true, i64_id (by omega), tl_at, bindL_eq, tl_2, withI_at, tl_0, withI_at]
  by_cases hw : s.a + 1 = s.n
  · rw [if_pos (by simpa using hw), tl_len hs2, ble_t (by omega), cond_true, tl_at, bindL_eq]
    have hcr := h.cr 0 (by omega) (by omega)
    rw [advT_ev (s := { ({ s with a := s.a + 1 } : T) with a := 0 }) hs hc (by show (0 : Int) ≤ 0; omega) (by show (0 : Int) < 8; omega) ⟨h.q1, h.q2⟩ hcr]
    have e : nxt s.n s.a = 0 := by unfold nxt; rw [if_pos hw]
    simp only [mv, e]
  · rw [if_neg (by simpa using hw)]
    have hcr := h.cr (s.a + 1) (by omega) (by omega)
    rw [advT_ev (s := { s with a := s.a + 1 }) hs hc (by show 0 ≤ s.a + 1; omega) (by show s.a + 1 < 8; omega) ⟨h.q1, h.q2⟩ hcr]
    have e : nxt s.n s.a = s.a + 1 := by unfold nxt; rw [if_neg hw]
    simp only [mv, e]

theorem rnext_loop {c : List Int} (hc : c.length = 8) (hk : ∀ q x sg, 1 ≤ q → C 35 [I q, I x] sg = some (.ret (I (min (max x 0) q)) sg)) (sg : Sg) :
    ∀ (m M : Nat) (t : T) (r : T × Int), Right t → next m t c = some r → m ≤ M →
    iter (ref26_Next.R2 C N) M (mkS [2, 3, 4] [Slot.lp 2 0, Slot.lp 3 0, Slot.lp 4 0] [some { cells := tl t }, some { cells := cl c }, some { cells := z11 }] (RVal.sg sg)) (ref26_Next.K2 C N) =
      some (.ret (.tup [.agg (tl r.1), I r.2, B true]) sg)
  | 0, M, t, r, _, h, _ => by simp [next] at h
  | m + 1, 0, t, r, _, h, hM => by omega
  | m + 1, M + 1, t, r, hr, h, hM => by
    have md := right_mild hr
    have hl := hr.len
    have a0 := hr.a0
    have a8 : t.a < 8 := by have := hr.an; have := hr.n8; omega
    have h8 : (0 : Int) ≤ t.a ∧ t.a < (↑(8 : Nat) : Int) := ⟨a0, by simpa using a8⟩
    have ek : min (max (at_ c t.a) 0) t.q = cost t.q c t.a := rfl
    rw [next_succ] at h
    rw [iter_succ, ref26_Next.r2, tl_1, withI_at, tl_2, withI_at, if_pos h8, cl_get hc a0 a8, withI_at, hk t.q _ sg hr.q1, withOut_ret, withI_at, ek]
    have q0 := cost_nn hr.q1 c t.a
    have q3 := cost_le t.q c t.a
    have q2 := hr.q2
    by_cases hz : cost t.q c t.a = 0
    · have hl2 : (t.set t.a 0).cr.length = 8 := by simp [T.set, hl]
      have el : left t c = t.set t.a 0 := by simp [left, hz]
      rw [if_neg (by omega)] at h
      have hp := past_right hr (by omega) (past hr c)
      rw [el] at h hp
      have mm := left_mild hr c
      rw [el] at mm
      rw [if_pos (by simpa using hz), withI_at, if_pos h8, tl_len hl, ble_t (by omega), cond_true, tl_set hl a0 a8, bindL_eq, if_neg (by simp; omega)]
      refine (advE_ev mm hc z11 sg _).trans ?_
      rw [thenK_n]
      exact rnext_loop hc hk sg m M _ r hp h (by omega)
    · rw [if_neg (by simpa using hz), if_pos (by simp; omega), withI_at, if_pos h8, tl_get hl a0 a8, withI_at]
      by_cases hle : cost t.q c t.a ≤ at_ t.cr t.a
      · rw [if_pos ⟨fun e => hz e.symm, hle⟩] at h
        cases h
        have hcr := md.cr t.a a0 a8
        have hl2 : (t.set t.a (at_ t.cr t.a - cost t.q c t.a)).cr.length = 8 := by simp [T.set, hl]
        rw [if_pos (by simpa using hle), withI_at, withI_at, if_pos h8, tl_get hl a0 a8, withI_at, if_pos h8, tl_len hl, ble_t (by omega), cond_true, i64_id (by omega), tl_set hl a0 a8, bindL_eq, tl_len hl2, ble_t (Nat.le_refl _), cond_true, bindL_eq,
          tl_take hl2, tl_2, withI_at, tl_len hl2, beq_t, cond_true, splice_all (by rw [tl_len hl2]; rfl), bindL_eq, thenK_r, ref26_Next.k2_1, tl_len hl2, ble_t (Nat.le_refl _), cond_true, bindL_eq, tl_take hl2]
        rfl
      · rw [if_neg (fun x => hle x.2)] at h
        have el : left t c = t := by simp [left, hz]
        have hp := past_right hr (fun x => hle x.2) (past hr c)
        rw [el] at h hp
        rw [if_neg (by simp; omega)]
        refine (advE_ev md hc z11 sg _).trans ?_
        rw [thenK_n]
        exact rnext_loop hc hk sg m M _ r hp h (by omega)
end Go.Abs
