/- THE DISK in the store, with all that it holds. -/
import Derived.Test.YtimoaolannkpcaaGreatTabT

import Derived.Test.YtimoaolannkpcaaGreatRsA
import Derived.Test.YtimoaolannkpcaaGreatEv
set_option linter.unusedVariables false
set_option linter.unusedSimpArgs false
set_option linter.unusedSectionVars false
namespace Go.Abs
open Go
set_option linter.unusedVariables false
set_option maxRecDepth 100000
/-- A disk: what is safe, what waits (where, what), in how many steps it fails (0: in none), whether it is down, how many steps there were. -/
structure ADisk where
  safe : List ByteArray
  wr : List (Nat × ByteArray)
  armed : Int
  down : Bool
  ops : Int
def flatW : List (Nat × ByteArray) → List AVal
  | [] => []
  | p :: l => vI p.1 :: vS p.2 :: flatW l
def wrV (w : Nat) (l : List (Nat × ByteArray)) : AVal := match l with
  | [] => .sl true w []
  | _ :: _ => .gs w 2 0 l.length
def wrH (w : Nat) (l : List (Nat × ByteArray)) : Hp := match l with
  | [] => []
  | _ :: _ => [(w, .mk (flatW l))]
def dkB (g w : Nat) (D : ADisk) : Box := .mk [.gs g 1 0 D.safe.length, wrV w D.wr, vI D.armed, vB D.down, vI D.ops]
def dkH (d g w : Nat) (D : ADisk) : Hp := (d, dkB g w D) :: (g, .mk (D.safe.map vS)) :: wrH w D.wr
def ADisk.stop (D : ADisk) : Bool := D.down || D.armed == 1
def ADisk.fail (D : ADisk) : ADisk := { D with down := true, armed := 0 }
def ADisk.go (D : ADisk) : ADisk := { D with armed := max2 (IntKind.i64.wrap (D.armed - 1)) 0, ops := IntKind.i64.wrap (D.ops + 1) }
theorem flatW_len : ∀ l, (flatW l).length = 2 * l.length
  | [] => rfl
  | p :: l => by simp [flatW, flatW_len l]; omega
theorem flatW_app (p : Nat × ByteArray) : ∀ l, flatW (l ++ [p]) = flatW l ++ [vI p.1, vS p.2]
  | [] => rfl
  | q :: l => by simp [flatW, flatW_app p l]
theorem flatW_at : ∀ (l : List (Nat × ByteArray)) (i : Nat) (p : Nat × ByteArray), l[i]? = some p → ((flatW l).drop (i * 2)).take 2 = [vI p.1, vS p.2]
  | [], i, p, h => by simp at h
  | q :: l, 0, p, h => by
    simp at h; subst h; simp [flatW]
  | q :: l, i + 1, p, h => by
    have e : (i + 1) * 2 = (i * 2 + 1) + 1 := by omega
    rw [e]
    simp only [flatW, List.drop_succ_cons]
    exact flatW_at l i p (by simpa using h)
variable {N dp : Nat} {sg : Sg} {d g w : Nat} {D : ADisk} {R : Hp}
theorem step_ok (h : Has sg (dkH d g w D ++ R)) (hs : D.stop = false) :
    Ev (tab N (dp + 1) 235 [.gp d 0] sg) (Rt fun v sg' => v = vI 0 ∧ Has sg' (dkH d g w D.go ++ R)) := by
  simp only [ADisk.stop, Bool.or_eq_false_iff] at hs
  refine ev_of ((t235 ..).trans (disk_Disk_step.main ..)) ?_
  refine ev_ldB h 0 rfl rfl (ev_if hs.1 ?_)
  refine ev_ldI h 0 rfl rfl (ev_else (by simp [hs.2]) ?_)
  refine ev_ldI h 0 rfl rfl ?_
  refine ev_st h 0 rfl rfl (Nat.le_of_ble_eq_true rfl) (Nat.succ_pos _) fun sg1 h1 => ?_
  refine ev_ldI h1 0 rfl rfl ?_
  refine ev_st h1 0 rfl rfl (Nat.le_of_ble_eq_true rfl) (Nat.succ_pos _) fun sg2 h2 => ?_
  exact ev_ret ⟨rfl, h2⟩
theorem step_no (h : Has sg (dkH d g w D ++ R)) (hs : D.stop = true) :
    Ev (tab N (dp + 1) 235 [.gp d 0] sg) (Rt fun v sg' => v = vI 17 ∧ Has sg' (dkH d g w D.fail ++ R)) := by
  refine ev_of ((t235 ..).trans (disk_Disk_step.main ..)) ?_
  refine ev_ldB h 0 rfl rfl ?_
  cases hd : D.down with
  | true =>
    refine ev_else (by simp) ?_
    refine ev_st h 0 rfl rfl (Nat.le_of_ble_eq_true rfl) (Nat.succ_pos _) fun sg1 h1 => ?_
    refine ev_st h1 0 rfl rfl (Nat.le_of_ble_eq_true rfl) (Nat.succ_pos _) fun sg2 h2 => ?_
    exact ev_ret ⟨rfl, h2⟩
  | false =>
    simp only [ADisk.stop, hd, Bool.false_or] at hs
    refine ev_if rfl ?_
    refine ev_ldI h 0 rfl rfl (ev_if hs ?_)
    refine ev_st h 0 rfl rfl (Nat.le_of_ble_eq_true rfl) (Nat.succ_pos _) fun sg1 h1 => ?_
    refine ev_st h1 0 rfl rfl (Nat.le_of_ble_eq_true rfl) (Nat.succ_pos _) fun sg2 h2 => ?_
    exact ev_ret ⟨rfl, h2⟩
theorem len_ok (h : Has sg (dkH d g w D ++ R)) : Ev (tab N (dp + 1) 129 [.gp d 0] sg) (Rt fun v sg' => v = vI D.safe.length ∧ sg' = sg) := by
  refine ev_of ((t129 ..).trans (disk_Disk_Len.main ..)) ?_
  refine ev_else (by decide) ?_
  refine ev_ldA h 0 rfl rfl ?_
  exact ev_O rfl (ev_ret ⟨rfl, rfl⟩)
theorem has_ok {i : Int} (h : Has sg (dkH d g w D ++ R)) :
    Ev (tab N (dp + 2) 234 [.gp d 0, vI i] sg) (Rt fun v sg' => v = vB (decide (0 ≤ i ∧ i < D.safe.length)) ∧ sg' = sg) := by
  refine ev_of ((t234 ..).trans (disk_Disk_has.main ..)) ?_
  refine ev_ite (fun h0 => ?_) (fun h0 => ?_)
  · refine ev_call (len_ok h) rfl ?_
    rintro _ sg1 ⟨rfl, rfl⟩
    refine ev_I rfl (ev_ret ⟨?_, rfl⟩)
    have : 0 ≤ i := by simpa using h0
    simp [this]
  · refine ev_ret ⟨?_, rfl⟩
    have : ¬ 0 ≤ i := by simpa using h0
    simp [this]
theorem wrV_app (w : Nat) (l : List (Nat × ByteArray)) (p : Nat × ByteArray) : wrV w (l ++ [p]) = .gs w 2 0 (l.length + 1) := by
  cases l <;> simp [wrV]
theorem wrH_app (w : Nat) (l : List (Nat × ByteArray)) (p : Nat × ByteArray) : wrH w (l ++ [p]) = [(w, .mk (flatW l ++ [vI p.1, vS p.2]))] := by
  rw [← flatW_app]; cases l <;> rfl
def ADisk.write (D : ADisk) (i : Nat) (s : ByteArray) : ADisk := { D.go with wr := D.wr ++ [(i, s)] }
theorem write_ok {i : Nat} {s : ByteArray} (h : Has sg (dkH d g w D ++ R)) (hi : i < D.safe.length) (hs : s.size = 512) (hk : (D.wr.length + 1) * 24 ≤ 35184372088832) (hd : D.stop = false) :
    Ev (tab N (dp + 3) 130 [.gp d 0, vI i, vS s] sg) (Rt fun v sg' => v = vI 0 ∧ ∃ w', Has sg' (dkH d g w' (D.write i s) ++ R)) := by
  refine ev_of ((t130 ..).trans (disk_Disk_Write.main ..)) ?_
  refine ev_call (has_ok h) rfl ?_
  rintro _ _ ⟨rfl, rfl⟩
  refine ev_B rfl (ev_if (by simp; omega) (ev_else (by simp [hs]) ?_))
  refine ev_call (step_ok h hd) rfl ?_
  rintro _ sg1 ⟨rfl, h1⟩
  refine ev_I rfl (ev_if rfl ?_)
  refine ev_ldA h1 0 rfl rfl ?_
  refine ev_bif rfl ?_
  have h2 := h1.new (Box.mk [vI i, vS s])
  refine ev_O (flatG_gs (h2.at (n := 0) rfl) (Nat.le_of_ble_eq_true rfl) (Nat.succ_pos _)) ?_
  refine ev_bie rfl (ev_if (show (1 : Nat) * 24 ≤ 35184372088832 by decide) ?_)
  obtain ⟨safe, wr, armed, down, ops⟩ := D
  cases wr with
  | nil =>
    refine ev_app_nil h2 fun w' sg2 h3 => ?_
    refine ev_A rfl ?_
    refine ev_st h3 2 rfl rfl (Nat.le_of_ble_eq_true rfl) (Nat.succ_pos _) fun sg3 h4 => ?_
    refine ev_ret ⟨rfl, w', ?_⟩
    have h5 : Has sg3 ((w', Box.mk [vI i, vS s]) :: (sg1.length, Box.mk [vI i, vS s]) :: (d, _) :: (g, Box.mk (safe.map vS)) :: R) := h4
    exact (h5.sub (.cons_cons _ (.cons _ (List.Sublist.refl _)))).rot (A := [_, _])
  | cons x l =>
    refine ev_app_gs h2 3 rfl (by rw [flatW_len]; omega) (by rw [flatW_len]; simp [ADisk.go]) (by simpa [ADisk.go] using hk) fun w' sg2 h3 => ?_
    refine ev_A rfl ?_
    refine ev_st h3 2 rfl rfl (Nat.le_of_ble_eq_true rfl) (Nat.succ_pos _) fun sg3 h4 => ?_
    refine ev_ret ⟨rfl, w', ?_⟩
    have h5 : Has sg3 ((w', Box.mk (flatW (x :: l) ++ [vI i, vS s])) :: (sg1.length, Box.mk [vI i, vS s]) :: (d, _) :: (g, Box.mk (safe.map vS)) :: (w, Box.mk []) :: R) := h4
    have h6 := (h5.sub (.cons_cons _ (.cons _ (.cons_cons _ (.cons_cons _ (.cons _ (List.Sublist.refl _))))))).rot (A := [_, _])
    unfold dkH ADisk.write
    rw [wrH_app, dkB, wrV_app]
    exact h6
def appl (l : List (Nat × ByteArray)) (s : List ByteArray) : List ByteArray := l.foldl (fun s p => s.set p.1 p.2) s
theorem appl_len : ∀ (l : List (Nat × ByteArray)) (s : List ByteArray), (appl l s).length = s.length
  | [], s => rfl
  | p :: l, s => by
    show (appl l (s.set p.1 p.2)).length = _
    rw [appl_len l, List.length_set]
theorem appl_snoc (l : List (Nat × ByteArray)) (p : Nat × ByteArray) (s : List ByteArray) : appl (l ++ [p]) s = (appl l s).set p.1 p.2 := by simp [appl]
def ADisk.settled (D : ADisk) : ADisk := { D with safe := appl D.wr D.safe, wr := [] }
def setSt (d w : Nat) (D : ADisk) (n : Int) (i : Nat) (sg : Sg) : St := mkS [0, 1, 5, 11, 12, 13]
  [.v (.gp d 0) false, .v (.clo 236 [] []) false, .v (vI n) false, .v (wrV w D.wr) false, .v (vI D.wr.length) false, .v (vI i) false] [none, none, none, none, none, none] (.sg sg)
theorem settle_ok (h : Has sg (dkH d g w D ++ R)) (hw : ∀ p, p ∈ D.wr → p.1 < D.safe.length) (hN : D.wr.length < N) (hb : D.wr.length < 4611686018427387904) :
    Ev (tab N (dp + 2) 150 [.gp d 0, .clo 236 [] []] sg) (Rt fun v sg' => (∃ n, v = vI n) ∧ Has sg' (dkH d g 0 D.settled ++ R)) := by
  refine ev_of ((t150 ..).trans (disk_Disk_settle.main ..)) ?_
  refine ev_ldA h 0 rfl rfl ?_
  refine ev_O (a := D.wr.length) (by cases D.wr <;> rfl) ?_
  refine ev_loop D.wr.length (fun i st => ∃ n sg', st = setSt d w D n i sg' ∧ Has sg' (dkH d g w { D with safe := appl (D.wr.take i) D.safe } ++ R)) hN ⟨0, sg, rfl, h⟩ ?_
  rintro i st K hi ⟨n, sg1, rfl, h1⟩ hnext hexit _
  refine ev_of (disk_Disk_settle.r0 ..) ?_
  rcases Nat.lt_or_ge i D.wr.length with hlt | hge
  · refine ev_if (by simpa using hlt) ?_
    obtain ⟨p, hp⟩ : ∃ p, D.wr[i]? = some p := ⟨_, List.getElem?_eq_getElem hlt⟩
    have hpm : p ∈ D.wr := List.mem_of_getElem? hp
    have hpl := hw p hpm
    obtain ⟨safe, wr, armed, down, ops⟩ := D
    cases wr with
    | nil => simp at hlt
    | cons x l =>
      refine ev_elem (by omega) (Int.ofNat_lt.2 hlt) ?_
      have e1 : 0 + ((i : Nat) : Int).toNat * 2 = i * 2 := by simp
      rw [e1]
      refine ev_ldG h1 2 rfl (flatW_at _ i p hp) rfl (by decide) ?_
      refine ev_bif rfl (ev_L ?_)
      refine ev_call (f := 236) (φ := fun v sg' => v = vB true ∧ sg' = sg1) ?_ rfl ?_
      · exact ev_of ((t236 ..).trans (disk_Disk_Flush_1.main ..)) (ev_ret ⟨rfl, rfl⟩)
      · rintro _ _ ⟨rfl, rfl⟩
        refine ev_B rfl (ev_if rfl ?_)
        refine ev_ldA h1 0 rfl rfl ?_
        refine ev_I rfl (ev_S rfl ?_)
        refine ev_elem (by omega) (by rw [appl_len]; exact Int.ofNat_lt.2 hpl) ?_
        refine ev_st h1 1 rfl rfl ?_ ?_ fun sg2 h2 => ?_
        · simp [appl_len]; exact hpl
        · simp [appl_len]; exact Nat.lt_of_le_of_lt (Nat.zero_le _) hpl
        · rw [i64_nat (by omega)]
          refine hnext _ hlt ⟨_, sg2, rfl, ?_⟩
          have e2 : appl (List.take (i + 1) (x :: l)) safe = (appl (List.take i (x :: l)) safe).set p.1 p.2 := by
            rw [List.take_add_one, hp]; exact appl_snoc ..
          have h3 : Has sg2 ((d, dkB g w { safe := appl (List.take i (x :: l)) safe, wr := x :: l, armed := armed, down := down, ops := ops }) ::
            (g, Box.mk (splice ((appl (List.take i (x :: l)) safe).map vS) (0 + ((p.1 : Nat) : Int).toNat * 1) (vS p.2).cells)) :: (w, Box.mk (flatW (x :: l))) :: R) := h2
          rw [splice_map vS rfl (by rw [appl_len]; exact hpl), ← e2] at h3
          have e3 : dkB g w { safe := appl (List.take (i + 1) (x :: l)) safe, wr := x :: l, armed := armed, down := down, ops := ops } = dkB g w { safe := appl (List.take i (x :: l)) safe, wr := x :: l, armed := armed, down := down, ops := ops } := by
            simp only [dkB, appl_len]
          rw [← e3] at h3
          exact h3
  · obtain rfl : i = D.wr.length := by omega
    refine ev_else (by simp) ?_
    refine hexit _ _ ?_
    refine ev_of (disk_Disk_settle.k0_1 ..) ?_
    rw [List.take_length] at h1
    refine ev_st h1 0 rfl rfl (Nat.le_of_ble_eq_true rfl) (Nat.succ_pos _) fun sg2 h2 => ?_
    refine ev_ret ⟨⟨_, rfl⟩, ?_⟩
    obtain ⟨safe, wr, armed, down, ops⟩ := D
    cases wr with
    | nil => exact h2
    | cons x l =>
      have h3 : Has sg2 ((d, dkB g 0 { safe := appl (x :: l) safe, wr := [], armed := armed, down := down, ops := ops }) :: (g, Box.mk ((appl (x :: l) safe).map vS)) :: (w, Box.mk (flatW (x :: l))) :: R) := h2
      exact h3.sub (.cons_cons _ (.cons_cons _ (.cons _ (List.Sublist.refl _))))
theorem flush_ok (h : Has sg (dkH d g w D ++ R)) (hw : ∀ p, p ∈ D.wr → p.1 < D.safe.length) (hN : D.wr.length < N) (hb : D.wr.length < 4611686018427387904) (hd : D.stop = false) :
    Ev (tab N (dp + 3) 132 [.gp d 0] sg) (Rt fun v sg' => v = vI 0 ∧ Has sg' (dkH d g 0 D.go.settled ++ R)) := by
  refine ev_of ((t132 ..).trans (disk_Disk_Flush.main ..)) ?_
  refine ev_else (by decide) ?_
  refine ev_call (step_ok h hd) rfl ?_
  rintro _ sg1 ⟨rfl, h1⟩
  refine ev_I rfl (ev_if rfl ?_)
  refine ev_call (settle_ok h1 hw hN hb) rfl ?_
  rintro _ sg2 ⟨⟨n, rfl⟩, h2⟩
  exact ev_I rfl (ev_ret ⟨rfl, h2⟩)
theorem down_ok (h : Has sg (dkH d g w D ++ R)) : Ev (tab N (dp + 1) 141 [.gp d 0] sg) (Rt fun v sg' => v = vB D.down ∧ sg' = sg) := by
  refine ev_of ((t141 ..).trans (disk_Disk_Down.main ..)) ?_
  refine ev_if (by decide) ?_
  exact ev_ldB h 0 rfl rfl (ev_ret ⟨rfl, rfl⟩)
/-- A disk that does not fail: n sectors, k writes that wait, the boxes A. -/
def Dk (n k d : Nat) (A : Hp) : Prop := ∃ g w D, A = dkH d g w D ∧ D.down = false ∧ D.armed = 0 ∧ D.safe.length = n ∧ D.wr.length = k ∧ ∀ p, p ∈ D.wr → p.1 < n
theorem go_armed {D : ADisk} (h : D.armed = 0) : D.go.armed = 0 := by
  simp only [ADisk.go, h]; decide
theorem stop_of {D : ADisk} (h1 : D.down = false) (h2 : D.armed = 0) : D.stop = false := by simp [ADisk.stop, h1, h2]
variable {A : Hp} {n k : Nat}
theorem dk_write {i : Nat} {s : ByteArray} (hA : Dk n k d A) (h : Has sg (A ++ R)) (hi : i < n) (hs : s.size = 512) (hk : k < 1073741824) :
    Ev (tab N (dp + 3) 130 [.gp d 0, vI i, vS s] sg) (Rt fun v sg' => v = vI 0 ∧ ∃ A', Dk n (k + 1) d A' ∧ Has sg' (A' ++ R)) := by
  obtain ⟨g, w, D, rfl, h1, h2, h3, h4, h5⟩ := hA
  refine (write_ok h (by omega) hs (by omega) (stop_of h1 h2)).imt ?_
  rintro v sg' ⟨rfl, w', h6⟩
  refine ⟨rfl, _, ⟨g, w', D.write i s, rfl, h1, go_armed h2, h3, ?_, ?_⟩, h6⟩
  · simp [ADisk.write, ADisk.go, h4]
  · intro p hp
    simp only [ADisk.write, List.mem_append, List.mem_singleton] at hp
    rcases hp with hp | rfl
    · exact h5 p hp
    · exact hi
theorem dk_flush (hA : Dk n k d A) (h : Has sg (A ++ R)) (hN : k < N) (hk : k < 1073741824) :
    Ev (tab N (dp + 3) 132 [.gp d 0] sg) (Rt fun v sg' => v = vI 0 ∧ ∃ A', Dk n 0 d A' ∧ Has sg' (A' ++ R)) := by
  obtain ⟨g, w, D, rfl, h1, h2, h3, h4, h5⟩ := hA
  refine (flush_ok h (by rw [h3]; exact h5) (by omega) (by omega) (stop_of h1 h2)).imt ?_
  rintro v sg' ⟨rfl, h6⟩
  refine ⟨rfl, _, ⟨g, 0, D.go.settled, rfl, h1, go_armed h2, ?_, rfl, ?_⟩, h6⟩
  · simp [ADisk.settled, appl_len, ADisk.go, h3]
  · intro p hp; cases hp
theorem dk_down (hA : Dk n k d A) (h : Has sg (A ++ R)) : Ev (tab N (dp + 1) 141 [.gp d 0] sg) (Rt fun v sg' => v = vB false ∧ sg' = sg) := by
  obtain ⟨g, w, D, rfl, h1, h2, h3, h4, h5⟩ := hA
  refine (down_ok h).imt ?_
  rintro v sg' ⟨rfl, rfl⟩
  rw [h1]; exact ⟨rfl, rfl⟩
theorem dk_len (hA : Dk n k d A) (h : Has sg (A ++ R)) : Ev (tab N (dp + 1) 129 [.gp d 0] sg) (Rt fun v sg' => v = vI n ∧ sg' = sg) := by
  obtain ⟨g, w, D, rfl, h1, h2, h3, h4, h5⟩ := hA
  refine (len_ok h).imt ?_
  rintro v sg' ⟨rfl, rfl⟩
  rw [h3]; exact ⟨rfl, rfl⟩
end Go.Abs
