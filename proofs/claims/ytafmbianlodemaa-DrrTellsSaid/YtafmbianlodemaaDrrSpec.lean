/- THE TURNS, in plain Lean: what Next computes, that it ends, what it keeps. -/
namespace Go.Drr
set_option linter.unusedVariables false
set_option linter.unusedSimpArgs false
set_option linter.unusedSectionVars false

structure T where
  n : Int
  q : Int
  a : Int
  cr : List Int

def at_ (l : List Int) (i : Int) : Int := l.getD i.toNat 0
def cost (q : Int) (c : List Int) (i : Int) : Int := min (max (at_ c i) 0) q
def T.set (t : T) (i : Int) (x : Int) : T := { t with cr := t.cr.set i.toNat x }
def nxt (n a : Int) : Int := if a + 1 = n then 0 else a + 1
def mv (t : T) (c : List Int) : T :=
  let t1 : T := { t with a := nxt t.n t.a }
  if 0 < cost t.q c t1.a then t1.set t1.a (at_ t1.cr t1.a + t.q) else t1
def next : Nat → T → List Int → Option (T × Int)
  | 0, _, _ => none
  | m + 1, t, c =>
    let k := cost t.q c t.a
    if k = 0 then next m (mv (t.set t.a 0) c) c
    else if k ≤ at_ t.cr t.a then some (t.set t.a (at_ t.cr t.a - k), t.a)
    else next m (mv t c) c

def most (t : T) (i : Int) : Int := if i ≥ t.n then 0 else if i = t.a then 2 * t.q else t.q
structure Right (t : T) : Prop where
  n1 : 1 ≤ t.n
  n8 : t.n ≤ 8
  q1 : 1 ≤ t.q
  q2 : t.q ≤ 65536
  a0 : 0 ≤ t.a
  an : t.a < t.n
  len : t.cr.length = 8
  cr0 : ∀ i : Int, 0 ≤ i → i < 8 → 0 ≤ at_ t.cr i
  crm : ∀ i : Int, 0 ≤ i → i < 8 → at_ t.cr i ≤ most t i

theorem at_set {l : List Int} {i j : Int} {x : Int} (hi : 0 ≤ i) (hj : 0 ≤ j) (hl : i < l.length) : at_ (l.set i.toNat x) j = if j = i then x else at_ l j := by
  unfold at_
  rw [List.getD_eq_getElem?_getD, List.getD_eq_getElem?_getD, List.getElem?_set]
  by_cases h : j = i
  · subst h
    have : j.toNat < l.length := by omega
    simp [this]
  · have : i.toNat ≠ j.toNat := by omega
    simp [h, this]

theorem nxt_lt {n a : Int} (h1 : 1 ≤ n) (h2 : 0 ≤ a) (h3 : a < n) : 0 ≤ nxt n a ∧ nxt n a < n := by
  unfold nxt; split <;> omega

theorem cost_le (q : Int) (c : List Int) (i : Int) : cost q c i ≤ q := by unfold cost; omega
theorem cost_nn {q : Int} (hq : 1 ≤ q) (c : List Int) (i : Int) : 0 ≤ cost q c i := by unfold cost; omega
theorem cost_pos {q : Int} (hq : 1 ≤ q) {c : List Int} {i : Int} : 0 < cost q c i ↔ 0 < at_ c i := by unfold cost; omega

/-- The state that is left behind where nobody was served. -/
def left (t : T) (c : List Int) : T := if cost t.q c t.a = 0 then t.set t.a 0 else t
theorem next_succ (m : Nat) (t : T) (c : List Int) : next (m + 1) t c =
    if 0 ≠ cost t.q c t.a ∧ cost t.q c t.a ≤ at_ t.cr t.a then some (t.set t.a (at_ t.cr t.a - cost t.q c t.a), t.a) else next m (mv (left t c) c) c := by
  simp only [next, left]
  split
  · rename_i h; simp [h]
  · rename_i h
    by_cases h2 : cost t.q c t.a ≤ at_ t.cr t.a
    · rw [if_pos h2, if_pos ⟨Ne.symm h, h2⟩]
    · rw [if_neg h2, if_neg (fun x => h2 x.2)]

theorem mv_a (t : T) (c : List Int) : (mv t c).a = nxt t.n t.a := by simp only [mv]; split <;> rfl
theorem mv_n (t : T) (c : List Int) : (mv t c).n = t.n := by simp only [mv]; split <;> rfl
theorem mv_q (t : T) (c : List Int) : (mv t c).q = t.q := by simp only [mv]; split <;> rfl
theorem left_a (t : T) (c : List Int) : (left t c).a = t.a := by simp only [left]; split <;> rfl
theorem left_n (t : T) (c : List Int) : (left t c).n = t.n := by simp only [left]; split <;> rfl
theorem left_q (t : T) (c : List Int) : (left t c).q = t.q := by simp only [left]; split <;> rfl
theorem left_len (t : T) (c : List Int) : (left t c).cr.length = t.cr.length := by simp only [left]; split <;> simp [T.set]
theorem mv_len (t : T) (c : List Int) : (mv t c).cr.length = t.cr.length := by simp only [mv]; split <;> simp [T.set]

theorem left_cr {t : T} (c : List Int) (ha : 0 ≤ t.a) (hl : t.a < t.cr.length) {j : Int} (hj : 0 ≤ j) : at_ (left t c).cr j = if cost t.q c t.a = 0 ∧ j = t.a then 0 else at_ t.cr j := by
  simp only [left]
  by_cases h : cost t.q c t.a = 0
  · simp only [h, if_true, true_and, T.set]; rw [at_set ha hj hl]
  · simp [h]
theorem mv_cr {t : T} (c : List Int) (ha : 0 ≤ nxt t.n t.a) (hl : nxt t.n t.a < t.cr.length) {j : Int} (hj : 0 ≤ j) :
    at_ (mv t c).cr j = if 0 < cost t.q c (nxt t.n t.a) ∧ j = nxt t.n t.a then at_ t.cr j + t.q else at_ t.cr j := by
  simp only [mv]
  by_cases h : 0 < cost t.q c (nxt t.n t.a)
  · simp only [h, if_true, true_and, T.set]; rw [at_set ha hj hl]
    split
    · rename_i e; rw [e]
    · rfl
  · simp [h]

/-- ONE STEP past a tenant that was not served. -/
structure Past (t : T) (c : List Int) (u : T) : Prop where
  n : u.n = t.n
  q : u.q = t.q
  a : u.a = nxt t.n t.a
  len : u.cr.length = t.cr.length
  cr : ∀ j : Int, 0 ≤ j → j < 8 → at_ u.cr j = (if cost t.q c t.a = 0 ∧ j = t.a then 0 else at_ t.cr j) + (if 0 < cost t.q c u.a ∧ j = u.a then t.q else 0)
theorem past {t : T} (h : Right t) (c : List Int) : Past t c (mv (left t c) c) := by
  obtain ⟨n1, n8, q1, q2, a0, an, len, cr0, crm⟩ := h
  obtain ⟨b0, b1⟩ := nxt_lt n1 a0 an
  have ea : (mv (left t c) c).a = nxt t.n t.a := by rw [mv_a, left_n, left_a]
  refine ⟨by rw [mv_n, left_n], by rw [mv_q, left_q], ea, by rw [mv_len, left_len], fun j hj hj8 => ?_⟩
  rw [ea, mv_cr (t := left t c) c (by rw [left_n, left_a]; exact b0) (by rw [left_n, left_a, left_len, len]; omega) hj, left_n, left_a, left_q, left_cr c a0 (by rw [len]; omega) hj]
  split <;> simp_all

theorem past_right {t u : T} {c : List Int} (h : Right t) (hu : ¬ (0 ≠ cost t.q c t.a ∧ cost t.q c t.a ≤ at_ t.cr t.a)) (p : Past t c u) : Right u := by
  obtain ⟨n1, n8, q1, q2, a0, an, len, cr0, crm⟩ := h
  obtain ⟨pn, pq, pa, pl, pc⟩ := p
  obtain ⟨b0, b1⟩ := nxt_lt n1 a0 an
  have hq := cost_le t.q c t.a
  have hq0 := cost_nn q1 c t.a
  have h8 : t.a < 8 := by omega
  have crm' : ∀ i : Int, 0 ≤ i → i < 8 → at_ t.cr i ≤ (if i ≥ t.n then 0 else if i = t.a then 2 * t.q else t.q) := crm
  have ca0 := cr0 t.a a0 h8
  refine ⟨by omega, by omega, by omega, by omega, by rw [pa]; exact b0, by rw [pa, pn]; exact b1, by omega, fun i h1 h2 => ?_, fun i h1 h2 => ?_⟩
  · rw [pc i h1 h2]
    have := cr0 i h1 h2
    split <;> split <;> omega
  · rw [pc i h1 h2]
    have e0 := cr0 i h1 h2
    have e1 := crm' i h1 h2
    simp only [most, pn, pq, pa]
    by_cases hi : i = t.a
    · subst hi
      by_cases hz : cost t.q c t.a = 0
      · simp only [hz, true_and, if_true]
        repeat' split
        all_goals omega
      · have : at_ t.cr t.a < t.q := by
          have : ¬ cost t.q c t.a ≤ at_ t.cr t.a := fun x => hu ⟨Ne.symm hz, x⟩
          omega
        simp only [hz, false_and, if_false]
        repeat' split
        all_goals omega
    · simp only [hi, and_false, if_false]
      simp only [hi, if_false] at e1
      repeat' split
      all_goals (split at e1 <;> omega)

theorem serve_right {t : T} {c : List Int} (h : Right t) (hs : cost t.q c t.a ≤ at_ t.cr t.a) : Right (t.set t.a (at_ t.cr t.a - cost t.q c t.a)) := by
  obtain ⟨n1, n8, q1, q2, a0, an, len, cr0, crm⟩ := h
  have hq0 := cost_nn q1 c t.a
  have hset : ∀ j : Int, 0 ≤ j → at_ (t.cr.set t.a.toNat (at_ t.cr t.a - cost t.q c t.a)) j = if j = t.a then at_ t.cr t.a - cost t.q c t.a else at_ t.cr j := fun j hj => at_set a0 hj (by rw [len]; omega)
  refine ⟨n1, n8, q1, q2, a0, an, by simp [T.set, len], fun i h1 h2 => ?_, fun i h1 h2 => ?_⟩
  · simp only [T.set]; rw [hset i h1]
    have := cr0 i h1 h2
    split <;> omega
  · simp only [T.set, most]; rw [hset i h1]
    have e0 := crm i h1 h2
    simp only [most] at e0
    split
    · rename_i e; subst e; omega
    · exact e0

/-- What goes wrong nowhere: if a property of the states passed holds at first, is kept by each step past, and gives the claim where somebody is served, the claim holds of what Next gives. -/
theorem next_inv {c : List Int} {P : T → Prop} {Q : T → Int → Prop} (hpast : ∀ t u, Right t → P t → ¬ (0 ≠ cost t.q c t.a ∧ cost t.q c t.a ≤ at_ t.cr t.a) → Past t c u → P u)
    (hserve : ∀ t, Right t → P t → 0 < cost t.q c t.a → cost t.q c t.a ≤ at_ t.cr t.a → Q (t.set t.a (at_ t.cr t.a - cost t.q c t.a)) t.a) :
    ∀ (m : Nat) (t : T) r, Right t → P t → next m t c = some r → Q r.1 r.2
  | 0, t, r, _, _, h => by simp [next] at h
  | m + 1, t, r, hr, hp, h => by
    rw [next_succ] at h
    split at h
    · rename_i hs
      cases h
      have := cost_nn hr.q1 c t.a
      exact hserve t hr hp (by omega) hs.2
    · rename_i hs
      have p := past hr c
      exact next_inv hpast hserve m _ r (past_right hr hs p) (hpast _ _ hr hp hs p) h

/-- From a to w, going on. -/
def dist (n a w : Int) : Int := if a < w then w - a else w - a + n

/-- Next ends where somebody waits. -/
theorem next_ends {c : List Int} {w : Int} : ∀ (m : Nat) (t : T), Right t → 0 ≤ w → w < t.n → 0 < cost t.q c w → dist t.n t.a w + 1 ≤ m → ∃ r, next m t c = some r
  | 0, t, h, w0, wn, _, hd => by
    have := h.a0; have := h.an
    unfold dist at hd; split at hd <;> omega
  | 1, t, h, w0, wn, _, hd => by
    have := h.a0; have := h.an
    unfold dist at hd; split at hd <;> omega
  | m + 2, t, h, w0, wn, hw, hd => by
    rw [next_succ]
    split
    · exact ⟨_, rfl⟩
    · rename_i hs
      have p := past h c
      have hr := past_right h hs p
      generalize mv (left t c) c = u at p hr
      have a0 := h.a0
      have an := h.an
      by_cases hu : 0 < cost t.q c u.a
      · -- served at once
        rw [next_succ, if_pos]
        · exact ⟨_, rfl⟩
        · have h8 : u.a < 8 := by have := hr.an; have := hr.n8; omega
          have e := p.cr u.a hr.a0 h8
          have := cost_le t.q c u.a
          have c0 := h.cr0 u.a hr.a0 h8
          rw [p.q, e]
          refine ⟨by omega, ?_⟩
          simp only [hu, true_and, if_true]
          split <;> omega
      · have hne : u.a ≠ w := fun e => hu (by rw [e]; exact hw)
        refine next_ends (m + 1) u hr w0 (by rw [p.n]; exact wn) (by rw [p.q]; exact hw) ?_
        have e := p.a
        rw [p.n, e]
        rw [e] at hne
        unfold dist nxt at *
        repeat' split
        all_goals (repeat' split at hd) 
        all_goals (repeat' split at hne)
        all_goals omega

end Go.Drr
