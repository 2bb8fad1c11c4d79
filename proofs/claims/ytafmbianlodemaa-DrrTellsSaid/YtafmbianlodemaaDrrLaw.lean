/- THE TURNS: nobody waits for ever; of any two that wait all the time none gets much more. Plain Lean. -/
import Derived.Test.YtafmbianlodemaaDrrSpec
namespace Go.Drr
set_option linter.unusedVariables false
set_option linter.unusedSimpArgs false
set_option linter.unusedSectionVars false

def phi (t : T) (i : Int) : Int := 2 * (t.q * dist t.n t.a i) - 2 * t.q + at_ t.cr t.a

theorem dist_nxt {n a i : Int} (h1 : 1 ≤ n) (h2 : 0 ≤ a) (h3 : a < n) (h4 : 0 ≤ i) (h5 : i < n) (hne : nxt n a ≠ i) : dist n (nxt n a) i = dist n a i - 1 := by
  unfold dist nxt at *
  repeat' split at hne
  all_goals repeat' split
  all_goals omega
theorem dist_bound {n a i : Int} (h2 : 0 ≤ a) (h3 : a < n) (h4 : 0 ≤ i) (h5 : i < n) : 1 ≤ dist n a i ∧ dist n a i ≤ n := by
  unfold dist; split <;> omega

/-- Whoever waits is next, or comes nearer. -/
theorem nobody_step {c : List Int} {i : Int} {m : Nat} {t : T} {r : T × Int} (h : Right t) (h0 : 0 ≤ i) (hn : i < t.n) (hw : 0 < cost t.q c i) (hx : next m t c = some r) :
    r.1.n = t.n ∧ r.1.q = t.q ∧ Right r.1 ∧ 0 ≤ r.2 ∧ r.2 < t.n ∧ 0 < cost t.q c r.2 ∧ (r.2 = i ∨ phi r.1 i < phi t i) := by
  refine next_inv (c := c) (P := fun u => u.n = t.n ∧ u.q = t.q ∧ ((u.a = i ∧ cost u.q c i ≤ at_ u.cr i) ∨ phi u i ≤ phi t i))
    (Q := fun u k => u.n = t.n ∧ u.q = t.q ∧ Right u ∧ 0 ≤ k ∧ k < t.n ∧ 0 < cost t.q c k ∧ (k = i ∨ phi u i < phi t i)) ?_ ?_ m t r h ⟨rfl, rfl, .inr (Int.le_refl _)⟩ hx
  · rintro s u hs ⟨en, eq, hp⟩ hun p
    have hph : phi s i ≤ phi t i := by
      rcases hp with ⟨e1, e2⟩ | hp
      · exact absurd ⟨by rw [e1, eq]; omega, by rw [e1]; exact e2⟩ hun
      · exact hp
    refine ⟨by rw [p.n, en], by rw [p.q, eq], ?_⟩
    have hr := past_right hs hun p
    have h8 : u.a < 8 := by have := hr.an; have := hr.n8; omega
    by_cases hui : u.a = i
    · left
      refine ⟨hui, ?_⟩
      have e := p.cr u.a hr.a0 h8
      have c1 := cost_le s.q c u.a
      have c0 := hs.cr0 u.a hr.a0 h8
      rw [← hui, e, p.q]
      have hpos : 0 < cost s.q c u.a := by rw [hui, eq]; exact hw
      simp only [hpos, true_and, if_true]
      split <;> omega
    · right
      have e := p.a
      have hd := dist_nxt (i := i) hs.n1 hs.a0 hs.an h0 (by rw [en]; exact hn) (by rw [← e]; exact hui)
      have hm := hr.crm u.a hr.a0 h8
      have hge : ¬ u.a ≥ u.n := by have := hr.an; omega
      simp only [most, hge, if_false, if_true] at hm
      have ca := hs.cr0 s.a hs.a0 (by have := hs.an; have := hs.n8; omega)
      have e2 : phi u i = 2 * (s.q * (dist s.n s.a i - 1)) - 2 * s.q + at_ u.cr u.a := by
        unfold phi; rw [p.q, p.n, e, hd]
      rw [Int.mul_sub, Int.mul_one] at e2
      rw [p.q] at hm
      unfold phi at hph
      unfold phi at e2 ⊢
      omega
  · rintro s hs ⟨en, eq, hp⟩ hk hle
    refine ⟨en, eq, serve_right hs hle, hs.a0, by rw [← en]; exact hs.an, by rw [← eq]; exact hk, ?_⟩
    rcases hp with ⟨e1, e2⟩ | hp
    · exact .inl e1
    · right
      refine Int.lt_of_lt_of_le ?_ hp
      have : at_ (s.cr.set s.a.toNat (at_ s.cr s.a - cost s.q c s.a)) s.a = at_ s.cr s.a - cost s.q c s.a := by
        rw [at_set hs.a0 hs.a0 (by have := hs.an; have := hs.n8; rw [hs.len]; omega)]; simp
      unfold phi
      simp only [T.set]
      rw [this]
      omega

theorem phi_le {t : T} {i : Int} (h : Right t) (h0 : 0 ≤ i) (hn : i < t.n) : 0 ≤ phi t i ∧ phi t i ≤ 2 * (t.q * t.n) := by
  obtain ⟨d1, d2⟩ := dist_bound h.a0 h.an h0 hn
  have h8 : t.a < 8 := by have := h.an; have := h.n8; omega
  have hm := h.crm t.a h.a0 h8
  have hge : ¬ t.a ≥ t.n := by have := h.an; omega
  simp only [most, hge, if_false, if_true] at hm
  have c0 := h.cr0 t.a h.a0 h8
  have q1 := h.q1
  have e1 : t.q * 1 ≤ t.q * dist t.n t.a i := Int.mul_le_mul_of_nonneg_left d1 (by omega)
  have e2 : t.q * dist t.n t.a i ≤ t.q * t.n := Int.mul_le_mul_of_nonneg_left d2 (by omega)
  unfold phi
  omega

/-! ### Of two that wait -/
def side (t : T) (i j : Int) : Int := if i < j then (if i ≤ t.a ∧ t.a < j then t.q else 0) else (if j ≤ t.a ∧ t.a < i then -t.q else 0)
structure Two (t : T) (i j g D : Int) : Prop where
  ci : t.a ≠ i → at_ t.cr i < max D 1
  cj : t.a ≠ j → at_ t.cr j < max D 1
  ci2 : at_ t.cr i < t.q + max D 1
  cj2 : at_ t.cr j < t.q + max D 1
  g : g = side t i j - at_ t.cr i + at_ t.cr j

theorem two_step {c : List Int} {i j g D : Int} {m : Nat} {t : T} {r : T × Int} (h : Right t) (i0 : 0 ≤ i) (ineq : i < t.n) (j0 : 0 ≤ j) (jn : j < t.n) (hne : i ≠ j)
    (wi : 0 < cost t.q c i) (wj : 0 < cost t.q c j) (h2 : Two t i j g D) (hx : next m t c = some r) :
    r.1.n = t.n ∧ r.1.q = t.q ∧ Right r.1 ∧ 0 ≤ r.2 ∧ r.2 < t.n ∧ 0 < cost t.q c r.2 ∧
      Two r.1 i j (g + (if r.2 = i then cost t.q c r.2 else 0) - (if r.2 = j then cost t.q c r.2 else 0)) (max D (max (cost t.q c i) (cost t.q c j))) := by
  refine next_inv (c := c) (P := fun u => u.n = t.n ∧ u.q = t.q ∧ Two u i j g (max D (max (cost t.q c i) (cost t.q c j))))
    (Q := fun u k => u.n = t.n ∧ u.q = t.q ∧ Right u ∧ 0 ≤ k ∧ k < t.n ∧ 0 < cost t.q c k ∧ Two u i j (g + (if k = i then cost t.q c k else 0) - (if k = j then cost t.q c k else 0)) (max D (max (cost t.q c i) (cost t.q c j)))) ?_ ?_ m t r h ⟨rfl, rfl, ?_⟩ hx
  · rintro s u hs ⟨en, eq, hp⟩ hun p
    refine ⟨by rw [p.n, en], by rw [p.q, eq], ?_⟩
    obtain ⟨a1, a2, a3, a4, a5⟩ := hp
    obtain ⟨pn, pq, pa, pl, pc⟩ := p
    have n8 := hs.n8
    have ei := pc i i0 (by omega)
    have ej := pc j j0 (by omega)
    have q1 := hs.q1
    have sa0 := hs.a0
    have san := hs.an
    rw [← eq] at wi wj a1 a2 a3 a4 ⊢
    have zi : s.a = i → ¬ cost s.q c i = 0 ∧ at_ s.cr i < cost s.q c i := fun e => by
      rw [e] at hun
      refine ⟨by omega, ?_⟩
      have : ¬ cost s.q c i ≤ at_ s.cr i := fun x => hun ⟨by omega, x⟩
      omega
    have zj : s.a = j → ¬ cost s.q c j = 0 ∧ at_ s.cr j < cost s.q c j := fun e => by
      rw [e] at hun
      refine ⟨by omega, ?_⟩
      have : ¬ cost s.q c j ≤ at_ s.cr j := fun x => hun ⟨by omega, x⟩
      omega
    have xi : ¬ (cost s.q c s.a = 0 ∧ i = s.a) := fun ⟨x, y⟩ => by rw [← y] at x; omega
    have xj : ¬ (cost s.q c s.a = 0 ∧ j = s.a) := fun ⟨x, y⟩ => by rw [← y] at x; omega
    rw [if_neg xi] at ei
    rw [if_neg xj] at ej
    have yi : (0 < cost s.q c u.a ∧ i = u.a) ↔ u.a = i := ⟨fun x => x.2.symm, fun x => ⟨by rw [x]; exact wi, x.symm⟩⟩
    have yj : (0 < cost s.q c u.a ∧ j = u.a) ↔ u.a = j := ⟨fun x => x.2.symm, fun x => ⟨by rw [x]; exact wj, x.symm⟩⟩
    simp only [yi] at ei
    simp only [yj] at ej
    have hD1 : cost s.q c i ≤ max D (max (cost s.q c i) (cost s.q c j)) := by omega
    have hD2 : cost s.q c j ≤ max D (max (cost s.q c i) (cost s.q c j)) := by omega
    generalize max D (max (cost s.q c i) (cost s.q c j)) = D' at *
    have bi : at_ s.cr i < max D' 1 := by
      by_cases e : s.a = i
      · have := zi e; omega
      · exact a1 e
    have bj : at_ s.cr j < max D' 1 := by
      by_cases e : s.a = j
      · have := zj e; omega
      · exact a2 e
    rw [← en] at ineq jn
    refine ⟨fun e => ?_, fun e => ?_, ?_, ?_, ?_⟩
    · rw [ei, if_neg e]; omega
    · rw [ej, if_neg e]; omega
    · rw [ei, pq]; split <;> omega
    · rw [ej, pq]; split <;> omega
    · rw [a5, ei, ej]
      simp only [side, pq]
      have hua : (s.a + 1 = s.n ∧ u.a = 0) ∨ (s.a + 1 ≠ s.n ∧ u.a = s.a + 1) := by
        rw [pa]; unfold nxt; split <;> omega
      by_cases hij : i < j
      · simp only [hij, if_true]
        repeat' split
        all_goals omega
      · simp only [hij, if_false]
        repeat' split
        all_goals omega
  · rintro s hs ⟨en, eq, hp⟩ hk hle
    refine ⟨en, eq, serve_right hs hle, hs.a0, by rw [← en]; exact hs.an, by rw [← eq]; exact hk, ?_⟩
    obtain ⟨a1, a2, a3, a4, a5⟩ := hp
    have n8 := hs.n8
    have sa0 := hs.a0
    have san := hs.an
    have hset : ∀ x : Int, 0 ≤ x → at_ (s.set s.a (at_ s.cr s.a - cost s.q c s.a)).cr x = if x = s.a then at_ s.cr s.a - cost s.q c s.a else at_ s.cr x := fun x hx => at_set sa0 hx (by rw [hs.len]; omega)
    rw [← eq] at *
    have si := hset i i0
    have sj := hset j j0
    have ea : (s.set s.a (at_ s.cr s.a - cost s.q c s.a)).a = s.a := rfl
    have eqq : (s.set s.a (at_ s.cr s.a - cost s.q c s.a)).q = s.q := rfl
    have es : side (s.set s.a (at_ s.cr s.a - cost s.q c s.a)) i j = side s i j := rfl
    refine ⟨?_, ?_, ?_, ?_, ?_⟩
    · rw [ea, si]; intro e; rw [if_neg (Ne.symm e)]; exact a1 e
    · rw [ea, sj]; intro e; rw [if_neg (Ne.symm e)]; exact a2 e
    · rw [eqq, si]; split
      · rename_i e; rw [← e] at hk hle ⊢; omega
      · exact a3
    · rw [eqq, sj]; split
      · rename_i e; rw [← e] at hk hle ⊢; omega
      · exact a4
    · rw [es, si, sj, a5]
      by_cases e1 : s.a = i
      · have e2 : s.a ≠ j := by omega
        have e3 : ¬ j = s.a := fun x => e2 x.symm
        rw [if_pos e1, if_neg e2, if_pos e1.symm, if_neg e3, e1]; omega
      · have e4 : ¬ i = s.a := fun x => e1 x.symm
        by_cases e2 : s.a = j
        · rw [if_neg e1, if_pos e2, if_neg e4, if_pos e2.symm, e2]; omega
        · have e3 : ¬ j = s.a := fun x => e2 x.symm
          rw [if_neg e1, if_neg e2, if_neg e4, if_neg e3]; omega
  · obtain ⟨a1, a2, a3, a4, a5⟩ := h2
    refine ⟨fun e => ?_, fun e => ?_, ?_, ?_, a5⟩
    · have := a1 e; omega
    · have := a2 e; omega
    · omega
    · omega

/-- How far they are apart. -/
theorem two_bound {t : T} {i j g D : Int} (h : Right t) (i0 : 0 ≤ i) (hi : i < t.n) (j0 : 0 ≤ j) (hj : j < t.n) (h2 : Two t i j g D) :
    (i < j → 1 - max D 1 ≤ g ∧ g ≤ t.q + max D 1 - 1) ∧ (¬ i < j → i ≠ j → 1 - max D 1 - t.q ≤ g ∧ g ≤ max D 1 - 1) := by
  obtain ⟨a1, a2, a3, a4, a5⟩ := h2
  have n8 := h.n8
  have c1 := h.cr0 i i0 (by omega)
  have c2 := h.cr0 j j0 (by omega)
  have q1 := h.q1
  rw [a5]
  unfold side
  constructor
  · intro hij
    simp only [hij, if_true]
    by_cases e1 : t.a = i
    · have := a2 (by omega); split <;> omega
    · have := a1 e1
      by_cases e2 : t.a = j
      · split <;> omega
      · have := a2 e2; split <;> omega
  · intro hij hne
    simp only [hij, if_false]
    by_cases e1 : t.a = i
    · have := a2 (by omega); split <;> omega
    · have := a1 e1
      by_cases e2 : t.a = j
      · split <;> omega
      · have := a2 e2; split <;> omega
end Go.Drr
