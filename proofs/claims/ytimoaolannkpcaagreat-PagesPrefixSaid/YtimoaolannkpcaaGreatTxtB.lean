/- What the functions of the program come to, one after another: several texts joined. -/
import Derived.Test.YtimoaolannkpcaaGreatTxtA
import Derived.Test.YtimoaolannkpcaaGreatRsP
import Derived.Test.YtimoaolannkpcaaGreatRsQ
import Derived.Test.YtimoaolannkpcaaGreatRsY
set_option linter.unusedVariables false
set_option linter.unusedSimpArgs false
set_option linter.unusedSectionVars false
namespace Go.Abs
open Go
set_option linter.unusedVariables false
set_option maxRecDepth 100000
section
variable {Q : Out → Prop} {sg : Sg} {L : Hp} {g k : Nat} {sv : List AVal}
/-! ### Loops over a function: the loop's own box. -/
theorem ev_lpW {p : Nat} {c : Nat × List AVal × Nat → R} (hL : Has sg L) (n : Nat) (e : L[n]? = some (g, .loop k sv p)) (h : Ev (c (k, sv, p)) Q) : Ev (withO (loopW sg g) c) Q := by
  have : loopW sg g = some (k, sv, p) := by simp only [loopW, hL.at e]
  rw [this]; exact h
theorem ev_lpS {c : Sg → R} (hL : Has sg L) (n : Nat) (e : L[n]? = some (g, .loop k sv 0)) (h : ∀ sg', Has sg' (L.set n (g, .loop k sv 1)) → Ev (c sg') Q) : Ev (withO (loopS sg g) c) Q := by
  have : loopS sg g = some (sg.set g (.loop k sv 1)) := by simp only [loopS, hL.at e]
  rw [this]; exact h _ (hL.put _ e)
theorem ev_lpE {m : Nat} {c : Sg → R} (hL : Has sg L) (n : Nat) (e : L[n]? = some (g, .loop k sv 1)) (h : ∀ sg', Has sg' (L.set n (g, .loop k sv m)) → Ev (c sg') Q) : Ev (withO (loopE sg g m) c) Q := by
  have : loopE sg g m = some (sg.set g (.loop k sv m)) := by simp only [loopE, hL.at e]
  rw [this]; exact h _ (hL.put _ e)
theorem ev_callY {r : R} {φ : AVal → Sg → Prop} {ok pan : AVal → Sg → R} (h : Ev r (Rt φ)) (hk : ∀ v sg, φ v sg → Ev (ok v sg) Q) : Ev (withOut r ok pan) Q := by
  obtain ⟨v, sg', rfl, e2⟩ := ev_get h
  exact hk v sg' e2
theorem ev_Y {C : CallF} {N : Nat} {y : AYield} {xs : List AVal} {φ : AVal → Sg → Prop} (hL : Has sg L) (n : Nat) (e : L[n]? = some (g, .loop k sv 0)) (ha : xs.length = y.params.length) (hs : sv.length = y.live.length)
    (h : Ev (evalC C N y.asg (startY y sv xs sg) (beginY C N y g)) (Rt φ)) : Ev (evalY C N y k (.yl g :: xs) sg) (Rt φ) := by
  obtain ⟨v, sg', e1, e2⟩ := ev_get h
  refine ⟨.ret v sg', ?_, e2⟩
  simp only [evalY, hL.at e, ha, hs]
  rw [e1]
  simp [noPan]
end
variable {N dp : Nat} {sg : Sg} {d g w : Nat} {D : ADisk} {R : Hp}
abbrev rdSv (m1 m2 m3 : Nat) : List AVal := [.gp m1 0, .gp m2 0, .gp m3 0]
theorem rd_yield {l m1 m2 m3 : Nat} {n i p1 e : Int} {x p2 : ByteArray}
    (h : Has sg ((l, .loop 900000 (rdSv m1 m2 m3) 0) :: (m1, .mk [vI i]) :: (m2, .mk [vS x]) :: (m3, .mk [vI e]) :: R)) :
    Ev (tab N (dp + 1) 1900000 [.yl l, vI n, .agg [vI p1, vS p2]] sg) (Rt fun v sg' => v = vB (decide (p1 ≠ i)) ∧
      Has sg' ((l, .loop 900000 (rdSv m1 m2 m3) (if p1 = i then 2 else 0)) :: (m1, .mk [vI i]) :: (m2, .mk [vS (if p1 = i then p2 else x)]) :: (m3, .mk [vI (if p1 = i then 0 else e)]) :: R)) := by
  refine ev_of (t1900000 ..) (ev_Y h 0 rfl rfl rfl ?_)
  refine ev_of (disk_Disk_Read.y900000 ..) ?_
  refine ev_st (h.new _) 0 rfl rfl (by show 2 ≤ 2; omega) (by show 0 < 2; omega) fun sg1 h1 => ?_
  refine ev_lpS h1 1 rfl fun sg2 h2 => ?_
  refine ev_ldI h2 0 rfl rfl (ev_ldI h2 2 rfl rfl ?_)
  refine ev_ite (fun hp => ?_) (fun hp => ?_)
  · have hp : p1 = i := by simpa using hp
    refine ev_ldS h2 0 rfl rfl ?_
    refine ev_st h2 3 rfl rfl (by show 1 ≤ 1; omega) (by show 0 < 1; omega) fun sg3 h3 => ?_
    refine ev_st h3 4 rfl rfl (by show 1 ≤ 1; omega) (by show 0 < 1; omega) fun sg4 h4 => ?_
    refine ev_lpE h4 1 rfl fun sg5 h5 => ev_ret ⟨by simp [hp], ?_⟩
    rw [if_pos hp, if_pos hp, if_pos hp]
    exact h5.tail
  · have hp : p1 ≠ i := by simpa using hp
    refine ev_lpE h2 1 rfl fun sg5 h5 => ev_ret ⟨by simp [hp], ?_⟩
    rw [if_neg hp, if_neg hp, if_neg hp]
    exact h5.tail
/-- What was written last to a place, among these. -/
def lastW (i : Int) : List (Nat × ByteArray) → Option ByteArray
  | [] => none
  | p :: l => match lastW i l with
    | some s => some s
    | none => if (p.1 : Int) = i then some p.2 else none
theorem lastW_none {i : Int} : ∀ {l : List (Nat × ByteArray)}, (∀ p, p ∈ l → (p.1 : Int) ≠ i) → lastW i l = none
  | [], _ => rfl
  | p :: l, h => by
    simp only [lastW, lastW_none (l := l) fun q hq => h q (List.mem_cons_of_mem _ hq)]
    rw [if_neg (h p (List.mem_cons_self ..))]
theorem lastW_cut {i : Int} {p : Nat × ByteArray} {l : List (Nat × ByteArray)} (hp : (p.1 : Int) = i) (h : ∀ q, q ∈ l → (q.1 : Int) ≠ i) : ∀ a : List (Nat × ByteArray), lastW i (a ++ p :: l) = some p.2
  | [] => by
    show (match lastW i l with | some s => some s | none => _) = _
    rw [lastW_none h]
    exact if_pos hp
  | q :: a => by
    show (match lastW i (a ++ p :: l) with | some s => some s | none => _) = _
    rw [lastW_cut hp h a]
theorem lastW_appl (i : Nat) : ∀ (l : List (Nat × ByteArray)) (s : List ByteArray), i < s.length → (appl l s)[i]? = some ((lastW i l).getD ((s[i]?).getD ⟨#[]⟩))
  | [], s, hi => by simp [appl, lastW, List.getElem?_eq_getElem hi]
  | p :: l, s, hi => by
    have h1 := lastW_appl i l (s.set p.1 p.2) (by rw [List.length_set]; exact hi)
    show (appl l (s.set p.1 p.2))[i]? = _
    rw [h1]
    simp only [lastW]
    cases lastW (i : Int) l with
    | some x => rfl
    | none =>
      by_cases hp : (p.1 : Int) = i
      · have hp' : p.1 = i := by omega
        rw [if_pos hp, hp', List.getElem?_set_self hi]; rfl
      · have hp' : p.1 ≠ i := by omega
        rw [if_neg hp, List.getElem?_set_ne hp']
theorem wr_len (w : Nat) (l : List (Nat × ByteArray)) : lenV (wrV w l) = some l.length := by cases l <;> rfl
theorem bw_ok {l m1 m2 m3 c : Nat} {i e : Int} {x : ByteArray} {wr : List (Nat × ByteArray)} (hN : wr.length < N) (hb : wr.length < 4611686018427387904)
    (h : Has sg ((l, .loop 900000 (rdSv m1 m2 m3) 0) :: (m1, .mk [vI i]) :: (m2, .mk [vS x]) :: (m3, .mk [vI e]) :: (c, .mk [wrV w wr]) :: (wrH w wr ++ R))) :
    Ev (tab N (dp + 2) 382 [.yl l, .gp c 0] sg) (Rt fun v sg' =>
      Has sg' ((l, .loop 900000 (rdSv m1 m2 m3) (if (lastW i wr).isSome then 2 else 0)) :: (m1, .mk [vI i]) :: (m2, .mk [vS ((lastW i wr).getD x)]) :: (m3, .mk [vI (if (lastW i wr).isSome then 0 else e)]) :: (c, .mk [wrV w wr]) :: (wrH w wr ++ R))) := by
  refine ev_of ((t382 ..).trans (slices_Backward_disk_write_disk_write_1.main ..)) ?_
  refine ev_ldA h 4 rfl rfl (ev_O (wr_len w wr) ?_)
  rw [i64_in (by omega)]
  refine ev_loop wr.length (fun j st => ∃ sg', st = mkS [0, 1, 3] [.v (.yl l) false, .v (.gp c 0) false, .v (vI ((wr.length : Int) - 1 - j)) false] [none, none, none] (.sg sg') ∧
    Has sg' ((l, .loop 900000 (rdSv m1 m2 m3) 0) :: (m1, .mk [vI i]) :: (m2, .mk [vS x]) :: (m3, .mk [vI e]) :: (c, .mk [wrV w wr]) :: (wrH w wr ++ R)) ∧ ∀ p, p ∈ wr.drop (wr.length - j) → (p.1 : Int) ≠ i) hN ⟨sg, ?_, h, ?_⟩ ?_
  · simp
  · intro p hp; simp at hp
  rintro j st K hj ⟨sg1, rfl, h, hno⟩ hnext hexit hret
  refine ev_of (slices_Backward_disk_write_disk_write_1.r0 ..) ?_
  refine ev_ite (fun hlt => ?_) (fun hge => ?_)
  · have hlt : j < wr.length := by have : (0 : Int) ≤ (wr.length : Int) - 1 - j := by simpa using hlt
                                   omega
    have eN : ((wr.length : Int) - 1 - j).toNat = wr.length - (j + 1) := by omega
    obtain ⟨p, hp⟩ : ∃ p, wr[wr.length - (j + 1)]? = some p := ⟨_, List.getElem?_eq_getElem (by omega)⟩
    have hdr : wr.drop (wr.length - (j + 1)) = p :: wr.drop (wr.length - j) := by
      have hk : wr.length - (j + 1) < wr.length := by omega
      rw [List.drop_eq_getElem_cons hk]
      rw [List.getElem?_eq_getElem hk] at hp
      rw [Option.some.inj hp]
      congr 2; omega
    have hcut : wr = wr.take (wr.length - (j + 1)) ++ p :: wr.drop (wr.length - j) := by rw [← hdr]; exact (List.take_append_drop ..).symm
    cases wr with
    | nil => simp at hlt
    | cons q0 l0 =>
      refine ev_ldA h 4 rfl rfl (ev_elem (by omega) (by show _ < (((q0 :: l0).length : Nat) : Int); omega) ?_)
      have e1 : 0 + (((q0 :: l0).length : Int) - 1 - j).toNat * 2 = ((q0 :: l0).length - (j + 1)) * 2 := by rw [eN]; omega
      rw [e1]
      refine ev_ldG h 5 rfl (flatW_at _ _ p hp) rfl (by decide) ?_
      refine ev_lpW h 0 rfl ?_
      refine ev_callY (rd_yield h) ?_
      rintro _ sg2 ⟨rfl, h2⟩
      refine ev_B rfl ?_
      by_cases hpi : (p.1 : Int) = i
      · refine ev_if (by simp [hpi]) (hret _ ?_)
        refine ev_of (slices_Backward_disk_write_disk_write_1.k0_1 ..) (ev_ret ?_)
        have e3 : lastW i (q0 :: l0) = some p.2 := by rw [hcut]; exact lastW_cut hpi hno _
        rw [if_pos hpi, if_pos hpi, if_pos hpi] at h2
        rw [e3]
        exact h2
      · refine ev_else (by simp [hpi]) ?_
        rw [if_neg hpi, if_neg hpi, if_neg hpi] at h2
        have e4 : IntKind.i64.wrap (((q0 :: l0).length : Int) - 1 - j - 1) = ((q0 :: l0).length : Int) - 1 - ((j + 1 : Nat) : Int) := by rw [i64_in (by omega)]; omega
        refine hnext _ hlt ⟨sg2, by rw [e4], h2, ?_⟩
        rw [hdr]
        intro q hq
        rcases List.mem_cons.1 hq with rfl | hq
        · exact hpi
        · exact hno q hq
  · have hj' : j = wr.length := by have : ¬ (0 : Int) ≤ (wr.length : Int) - 1 - j := by simpa using hge
                                   omega
    refine hexit _ _ ?_
    refine ev_of (slices_Backward_disk_write_disk_write_1.k0_2 ..) (ev_ret ?_)
    have e3 : lastW i wr = none := lastW_none fun p hp => hno p (by rw [hj', Nat.sub_self]; exact hp)
    rw [e3]
    exact h
end Go.Abs
namespace Go.Abs
open Go
set_option linter.unusedVariables false
set_option maxRecDepth 100000
variable {N dp : Nat} {sg : Sg} {d g w : Nat} {D : ADisk} {R : Hp}
theorem plain_wr (w : Nat) (l : List (Nat × ByteArray)) : plainA (wrV w l) = some (wrV w l) := by cases l <;> rfl
theorem cells_wr (w : Nat) (l : List (Nat × ByteArray)) : (wrV w l).cells = [wrV w l] := by cases l <;> rfl
theorem bwd_ok {wr : List (Nat × ByteArray)} (h : Has sg R) : Ev (tab N (dp + 1) 329 [wrV w wr] sg) (Rt fun v sg' => ∃ c, v = .clo 382 [] [.gp c 0] ∧ Has sg' ((c, .mk [wrV w wr]) :: R)) := by
  refine ev_of ((t329 ..).trans (slices_Backward_disk_write_disk_write.main ..)) ?_
  refine ev_A (plain_wr w wr) (ev_ret ⟨_, rfl, ?_⟩)
  have := h.new (.mk [wrV w wr])
  rw [cells_wr]; exact this
theorem permT {α : Type} (a b c d e f h : α) (W R : List α) : (a :: b :: c :: d :: e :: f :: h :: (W ++ R)).Perm (a :: e :: d :: c :: b :: (W ++ ([f, h] ++ R))) := by
  classical
  refine List.perm_iff_count.2 fun x => ?_
  simp only [List.cons_append, List.nil_append, List.count_cons, List.count_append]
  omega
theorem permS {α : Type} (a b c d e f h : α) (W R : List α) : (a :: b :: c :: d :: e :: (W ++ ([f, h] ++ R))).Perm ([f, h, a, b, c, d, e] ++ (W ++ R)) := by
  classical
  refine List.perm_iff_count.2 fun x => ?_
  simp only [List.cons_append, List.nil_append, List.count_cons, List.count_append]
  omega
theorem dread_ok {i : Nat} (h : Has sg (dkH d g w D ++ R)) (hd : D.down = false) (hi : i < D.safe.length) (hN : D.wr.length < N) (hb : D.wr.length < 4611686018427387904) :
    Ev (tab N (dp + 4) 239 [.gp d 0, vI i] sg) (Rt fun v sg' => v = .tup [vS (((appl D.wr D.safe)[i]?).getD ⟨#[]⟩), vI 0] ∧ Has sg' (dkH d g w D ++ R)) := by
  refine ev_of ((t239 ..).trans (disk_Disk_Read.main ..)) ?_
  have h3 := ((h.new (.mk [vI i])).new (.mk [vS ⟨#[]⟩])).new (.mk [vI 0])
  refine ev_if rfl (ev_ldB h3 3 rfl rfl (ev_else (by simp [hd]) ?_))
  refine ev_ldI h3 2 rfl rfl ?_
  refine ev_call (has_ok (N := N) (dp := dp + 1) (Has.sw [_, _, _] (dkH d g w D) h3)) rfl ?_
  rintro _ _ ⟨rfl, rfl⟩
  refine ev_B rfl (ev_else (by simp; omega) ?_)
  refine ev_ldA h3 3 rfl rfl (ev_A (plain_wr w D.wr) ?_)
  refine ev_call (bwd_ok (N := N) (dp := dp + 2) h3) rfl ?_
  rintro _ sg4 ⟨c, rfl, h4⟩
  refine ev_A rfl (ev_O rfl (ev_L2 rfl ?_))
  have h5 := h4.new (.loop 900000 (rdSv sg.length (sg ++ [Box.mk [vI i]]).length (sg ++ [Box.mk [vI i]] ++ [Box.mk [vS ⟨#[]⟩]]).length) 0)
  obtain ⟨safe, wr, armed, down, ops⟩ := D
  have h6 : Has _ ((sg4.length, .loop 900000 (rdSv sg.length (sg ++ [Box.mk [vI i]]).length (sg ++ [Box.mk [vI i]] ++ [Box.mk [vS ⟨#[]⟩]]).length) 0) :: (sg.length, .mk [vI i]) :: ((sg ++ [Box.mk [vI i]]).length, .mk [vS ⟨#[]⟩]) :: ((sg ++ [Box.mk [vI i]] ++ [Box.mk [vS ⟨#[]⟩]]).length, .mk [vI 0]) ::
      (c, .mk [wrV w wr]) :: (wrH w wr ++ ([(d, dkB g w ⟨safe, wr, armed, down, ops⟩), (g, .mk (safe.map vS))] ++ R))) := h5.perm ?_
  refine ev_call (bw_ok (N := N) (dp := dp + 1) hN hb h6) rfl ?_
  rintro _ sg6 h7
  refine ev_lpW h7 0 rfl ?_
  have h8 := h7.put (n := 0) (.mk []) rfl
  have hl := lastW_appl i wr safe hi
  have h9 := h8.perm (M := [(d, dkB g w ⟨safe, wr, armed, down, ops⟩), (g, .mk (safe.map vS)), (sg4.length, .mk []), (sg.length, .mk [vI i]), ((sg ++ [Box.mk [vI i]]).length, .mk [vS ((lastW i wr).getD ⟨#[]⟩)]),
    ((sg ++ [Box.mk [vI i]] ++ [Box.mk [vS ⟨#[]⟩]]).length, .mk [vI (if (lastW i wr).isSome then 0 else 0)]), (c, .mk [wrV w wr])] ++ (wrH w wr ++ R)) (permS ..)
  have fin : ∀ {sg' : Sg} {B1 B2 : Box}, Has sg' ([(d, dkB g w ⟨safe, wr, armed, down, ops⟩), (g, .mk (safe.map vS)), (sg4.length, .mk []), (sg.length, .mk [vI i]), ((sg ++ [Box.mk [vI i]]).length, B1),
    ((sg ++ [Box.mk [vI i]] ++ [Box.mk [vS ⟨#[]⟩]]).length, B2), (c, .mk [wrV w wr])] ++ (wrH w wr ++ R)) → Has sg' (dkH d g w ⟨safe, wr, armed, down, ops⟩ ++ R) := fun h =>
      h.sub (.cons_cons _ (.cons_cons _ (.cons _ (.cons _ (.cons _ (.cons _ (.cons _ (List.Sublist.refl _))))))))
  show Ev _ (Rt fun v sg' => v = .tup [vS (((appl wr safe)[i]?).getD ⟨#[]⟩), vI 0] ∧ Has sg' (dkH d g w ⟨safe, wr, armed, down, ops⟩ ++ R))
  rw [hl]
  cases hw : lastW (i : Int) wr with
  | none =>
    rw [hw] at h9
    refine ev_bif rfl ?_
    refine ev_ldA h9 0 rfl rfl (ev_ldI h9 3 rfl rfl (ev_elem (by omega) (Int.ofNat_lt.2 hi) ?_))
    have hi' : i < safe.length := hi
    refine ev_ldS (a := (safe[i]?).getD ⟨#[]⟩) h9 1 rfl ?_ ?_
    · show (safe.map vS)[0 + (i : Int).toNat * 1]? = _
      simp [List.getElem?_eq_getElem hi']
    refine ev_st h9 4 rfl rfl (by show 1 ≤ 1; omega) (by show 0 < 1; omega) fun sg8 g8 => ?_
    refine ev_st g8 5 rfl rfl (by show 1 ≤ 1; omega) (by show 0 < 1; omega) fun sg9 g9 => ?_
    refine ev_ldS g9 4 rfl rfl (ev_ldI g9 5 rfl rfl (ev_ret ⟨rfl, ?_⟩))
    exact fin g9
  | some x =>
    rw [hw] at h9
    refine ev_bie rfl (ev_bif rfl ?_)
    refine ev_ldS h9 4 rfl rfl (ev_ldI h9 5 rfl rfl (ev_ret ⟨rfl, fin h9⟩))
  exact permT ..
end Go.Abs
namespace Go.Abs
open Go
set_option linter.unusedVariables false
set_option maxRecDepth 100000
variable {N dp : Nat} {sg : Sg} {d g w : Nat} {D : ADisk} {R : Hp}
theorem write_no {i : Nat} {s : ByteArray} (h : Has sg (dkH d g w D ++ R)) (hi : i < D.safe.length) (hs : s.size = 512) (hd : D.stop = true) :
    Ev (tab N (dp + 3) 130 [.gp d 0, vI i, vS s] sg) (Rt fun v sg' => v = vI 17 ∧ Has sg' (dkH d g w D.fail ++ R)) := by
  refine ev_of ((t130 ..).trans (disk_Disk_Write.main ..)) ?_
  refine ev_call (has_ok h) rfl ?_
  rintro _ _ ⟨rfl, rfl⟩
  refine ev_B rfl (ev_if (by simp; omega) (ev_else (by simp [hs]) ?_))
  refine ev_call (step_no h hd) rfl ?_
  rintro _ sg1 ⟨rfl, h1⟩
  exact ev_I rfl (ev_else (by decide) (ev_ret ⟨rfl, h1⟩))
theorem flush_no (h : Has sg (dkH d g w D ++ R)) (hd : D.stop = true) :
    Ev (tab N (dp + 3) 132 [.gp d 0] sg) (Rt fun v sg' => v = vI 17 ∧ Has sg' (dkH d g w D.fail ++ R)) := by
  refine ev_of ((t132 ..).trans (disk_Disk_Flush.main ..)) ?_
  refine ev_else (by decide) ?_
  refine ev_call (step_no h hd) rfl ?_
  rintro _ sg1 ⟨rfl, h1⟩
  exact ev_I rfl (ev_else (by decide) (ev_ret ⟨rfl, h1⟩))
def ADisk.arm (D : ADisk) (n : Int) : ADisk := { D with armed := max2 n 0 }
theorem arm_ok {n : Int} (h : Has sg (dkH d g w D ++ R)) : Ev (tab N (dp + 1) 47 [.gp d 0, vI n] sg) (Rt fun v sg' => v = .tup [] ∧ Has sg' (dkH d g w (D.arm n) ++ R)) := by
  refine ev_of ((t47 ..).trans (disk_Disk_Arm.main ..)) ?_
  refine ev_if rfl ?_
  refine ev_st h 0 rfl rfl (Nat.le_of_ble_eq_true rfl) (Nat.succ_pos _) fun sg1 h1 => ev_ret ⟨rfl, h1⟩
/-- Some of the writes, in order. -/
def applK (keep : Nat → Bool) (wr : List (Nat × ByteArray)) : Nat → List ByteArray → List ByteArray
  | 0, s => s
  | i + 1, s => match wr[i]? with
    | some p => if keep i then (applK keep wr i s).set p.1 p.2 else applK keep wr i s
    | none => applK keep wr i s
theorem applK_len (keep : Nat → Bool) (wr : List (Nat × ByteArray)) (s : List ByteArray) : ∀ i, (applK keep wr i s).length = s.length
  | 0 => rfl
  | i + 1 => by
    simp only [applK]
    split
    · split
      · rw [List.length_set, applK_len keep wr s i]
      · exact applK_len keep wr s i
    · exact applK_len keep wr s i
def ADisk.keptBy (D : ADisk) (keep : Nat → Bool) : ADisk := { D with safe := applK keep D.wr D.wr.length D.safe, wr := [] }
def setSt2 (d w : Nat) (D : ADisk) (f : FuncId) (l2 l3 : List AVal) (n : Int) (i : Nat) (sg : Sg) : St := mkS [0, 1, 5, 11, 12, 13]
  [.v (.gp d 0) false, .v (.clo f l2 l3) false, .v (vI n) false, .v (wrV w D.wr) false, .v (vI D.wr.length) false, .v (vI i) false] [none, none, none, none, none, none] (.sg sg)
theorem settleK_ok {f : FuncId} {l2 l3 : List AVal} {keep : Nat → Bool} (hf : Nat.blt f 1000000 = true) (h : Has sg (dkH d g w D ++ R)) (hw : ∀ p, p ∈ D.wr → p.1 < D.safe.length) (hN : D.wr.length < N) (hb : D.wr.length < 4611686018427387904)
    (hk : ∀ (i : Nat) (sg' : Sg) (D' : ADisk), i < D.wr.length → Has sg' (dkH d g w D' ++ R) → Ev (tab N (dp + 1) f (l2 ++ ([vI i] ++ l3)) sg') (Rt fun v sg'' => v = vB (keep i) ∧ sg'' = sg')) :
    Ev (tab N (dp + 2) 150 [.gp d 0, .clo f l2 l3] sg) (Rt fun v sg' => (∃ n, v = vI n) ∧ Has sg' (dkH d g 0 (D.keptBy keep) ++ R)) := by
  refine ev_of ((t150 ..).trans (disk_Disk_settle.main ..)) ?_
  refine ev_ldA h 0 rfl rfl ?_
  refine ev_O (a := D.wr.length) (by cases D.wr <;> rfl) ?_
  refine ev_loop D.wr.length (fun i st => ∃ n sg', st = setSt2 d w D f l2 l3 n i sg' ∧ Has sg' (dkH d g w { D with safe := applK keep D.wr i D.safe } ++ R)) hN ⟨0, sg, rfl, h⟩ ?_
  rintro i st K hi ⟨n, sg1, rfl, h1⟩ hnext hexit _
  refine ev_of (disk_Disk_settle.r0 ..) ?_
  rcases Nat.lt_or_ge i D.wr.length with hlt | hge
  · refine ev_if (by simpa using hlt) ?_
    obtain ⟨p, hp⟩ : ∃ p, D.wr[i]? = some p := ⟨_, List.getElem?_eq_getElem hlt⟩
    have hpm : p ∈ D.wr := List.mem_of_getElem? hp
    have hpl := hw p hpm
    obtain ⟨safe, wr, armed, down, ops⟩ := D
    cases wr with
    | nil => simp at hlt
    | cons x l =>
      refine ev_elem (by omega) (Int.ofNat_lt.2 hlt) ?_
      have e1 : 0 + ((i : Nat) : Int).toNat * 2 = i * 2 := by simp
      rw [e1]
      refine ev_ldG h1 2 rfl (flatW_at _ i p hp) rfl (by decide) ?_
      refine ev_bif rfl (ev_L ?_)
      refine ev_call (hk i sg1 _ hlt h1) hf ?_
      rintro _ _ ⟨rfl, rfl⟩
      have e3 : ∀ {s : List ByteArray}, s.length = safe.length → dkB g w { safe := s, wr := x :: l, armed := armed, down := down, ops := ops } = dkB g w { safe := safe, wr := x :: l, armed := armed, down := down, ops := ops } := fun hs => by
        simp only [dkB, hs]
      cases hkp : keep i with
      | true =>
        refine ev_B rfl (ev_if rfl ?_)
        refine ev_ldA h1 0 rfl rfl ?_
        refine ev_I rfl (ev_S rfl ?_)
        refine ev_elem (by omega) (by rw [applK_len]; exact Int.ofNat_lt.2 hpl) ?_
        refine ev_st h1 1 rfl rfl ?_ ?_ fun sg2 h2 => ?_
        · simp [applK_len]; exact hpl
        · simp [applK_len]; exact Nat.lt_of_le_of_lt (Nat.zero_le _) hpl
        · rw [i64_nat (by omega)]
          refine hnext _ hlt ⟨_, sg2, rfl, ?_⟩
          have e2 : applK keep (x :: l) (i + 1) safe = (applK keep (x :: l) i safe).set p.1 p.2 := by
            simp only [applK, hp, hkp, if_true]
          have h3 : Has sg2 ((d, dkB g w { safe := applK keep (x :: l) i safe, wr := x :: l, armed := armed, down := down, ops := ops }) ::
            (g, Box.mk (splice ((applK keep (x :: l) i safe).map vS) (0 + ((p.1 : Nat) : Int).toNat * 1) (vS p.2).cells)) :: (w, Box.mk (flatW (x :: l))) :: R) := h2
          rw [splice_map vS rfl (by rw [applK_len]; exact hpl), ← e2, e3 (applK_len ..), ← e3 (applK_len keep (x :: l) safe (i + 1))] at h3
          exact h3
      | false =>
        refine ev_B rfl (ev_else (by decide) ?_)
        rw [i64_nat (by omega)]
        refine hnext _ hlt ⟨_, _, rfl, ?_⟩
        have e2 : applK keep (x :: l) (i + 1) safe = applK keep (x :: l) i safe := by
          simp only [applK, hp, hkp]; rfl
        rw [e2]; exact h1
  · obtain rfl : i = D.wr.length := by omega
    refine ev_else (by simp) ?_
    refine hexit _ _ ?_
    refine ev_of (disk_Disk_settle.k0_1 ..) ?_
    refine ev_st h1 0 rfl rfl (Nat.le_of_ble_eq_true rfl) (Nat.succ_pos _) fun sg2 h2 => ?_
    refine ev_ret ⟨⟨_, rfl⟩, ?_⟩
    obtain ⟨safe, wr, armed, down, ops⟩ := D
    cases wr with
    | nil => exact h2
    | cons x l =>
      have h3 : Has sg2 ((d, dkB g 0 { safe := applK keep (x :: l) (x :: l).length safe, wr := [], armed := armed, down := down, ops := ops }) :: (g, Box.mk ((applK keep (x :: l) (x :: l).length safe).map vS)) :: (w, Box.mk (flatW (x :: l))) :: R) := h2
      exact h3.sub (.cons_cons _ (.cons_cons _ (.cons _ (List.Sublist.refl _))))
def ADisk.up (D : ADisk) (bits : List Bool) : ADisk := { (D.keptBy fun i => bits.getD i false) with down := false, armed := 0 }
theorem mask_ok {bits : List Bool} {nn : Bool} {c i k : Nat} {L : Hp} (h : Has sg L) (e : L[k]? = some (c, .mk [.sl nn 1 (bits.map vB)])) :
    Ev (tab N (dp + 1) 151 [vI i, .gp c 0] sg) (Rt fun v sg' => v = vB (bits.getD i false) ∧ sg' = sg) := by
  refine ev_of ((t151 ..).trans (disk_Disk_Up_1.main ..)) ?_
  refine ev_ldA h k e rfl (ev_O (a := bits.length) (by simp [lenV]) ?_)
  refine ev_ite (fun hlt => ?_) (fun hge => ?_)
  · have hlt : i < bits.length := by simpa using hlt
    refine ev_ldA h k e rfl ?_
    have e1 : elemV 1 (i : Int) (.sl nn 1 (bits.map vB)) = some (.ep [vB bits[i]]) := by
      have : (bits.map vB)[(i : Int).toNat]? = some (vB bits[i]) := by simp [List.getElem?_map, List.getElem?_eq_getElem hlt]
      simp only [elemV, this]
      rfl
    refine ev_O e1 (ev_O rfl (ev_B rfl (ev_ret ⟨?_, rfl⟩)))
    simp [List.getD_eq_getElem?_getD, List.getElem?_eq_getElem hlt]
  · have hge : bits.length ≤ i := by have : ¬ i < bits.length := by simpa using hge
                                     omega
    refine ev_ret ⟨?_, rfl⟩
    simp [List.getD_eq_getElem?_getD, List.getElem?_eq_none hge]
end Go.Abs
namespace Go.Abs
open Go
set_option linter.unusedVariables false
set_option maxRecDepth 100000
def ADisk.wrt (D : ADisk) (i : Nat) (s : List UInt8) : Int × ADisk := if D.stop then (17, D.fail) else (0, D.write i (tx s))
def ADisk.flu (D : ADisk) : Int × ADisk := if D.stop then (17, D.fail) else (0, D.go.settled)
/-- Writes, one after another, up to the first failure. -/
def seqW : List (Nat × List UInt8) → ADisk → Int × ADisk
  | [], D => (0, D)
  | p :: l, D => if D.stop then (17, D.fail) else seqW l (D.write p.1 (tx p.2))
/-- A disk of n sectors, at most k writes wait. -/
structure DOk (n k : Nat) (D : ADisk) : Prop where
  len : D.safe.length = n
  wr : ∀ p, p ∈ D.wr → p.1 < n
  few : D.wr.length ≤ k
variable {N dp : Nat} {sg : Sg} {j d g w n k : Nat} {D : ADisk} {R H : Hp} {a1 : AVal}
theorem DOk.write {i : Nat} {s : ByteArray} (h : DOk n k D) (hi : i < n) : DOk n (k + 1) (D.write i s) := by
  refine ⟨h.len, fun p hp => ?_, ?_⟩
  · simp only [ADisk.write, List.mem_append, List.mem_singleton] at hp
    rcases hp with hp | rfl
    · exact h.wr p hp
    · exact hi
  · simp only [ADisk.write, List.length_append, List.length_singleton]
    have := h.few
    show D.wr.length + 1 ≤ _
    omega
theorem DOk.fail (h : DOk n k D) : DOk n k D.fail := ⟨h.len, h.wr, h.few⟩
theorem DOk.mono {k' : Nat} (h : DOk n k D) (hk : k ≤ k') : DOk n k' D := ⟨h.len, h.wr, Nat.le_trans h.few hk⟩
theorem DOk.flu (h : DOk n k D) : DOk n k D.flu.2 := by
  unfold ADisk.flu
  split
  · exact h.fail
  · exact ⟨(appl_len _ _).trans h.len, fun p hp => (by cases hp), Nat.zero_le _⟩
theorem DOk.seq : ∀ {l : List (Nat × List UInt8)} {k : Nat} {D : ADisk}, DOk n k D → (∀ p, p ∈ l → p.1 < n) → DOk n (k + l.length) (seqW l D).2
  | [], k, D, h, _ => h
  | p :: l, k, D, h, hp => by
    unfold seqW
    split
    · exact h.fail.mono (by omega)
    · have := DOk.seq (h.write (s := tx p.2) (hp p (by simp))) (l := l) (fun q hq => hp q (by simp [hq]))
      exact this.mono (by simp; omega)
theorem write_eq {i : Nat} {s : List UInt8} (h : Has sg (dkH d g w D ++ R)) (hD : DOk n k D) (hi : i < n) (hs : s.length = 512) (hk : k ≤ 1000000) :
    Ev (tab N (dp + 3) 130 [.gp d 0, vI i, vS (tx s)] sg) (Rt fun v sg' => v = vI (D.wrt i s).1 ∧ ∃ w', Has sg' (dkH d g w' (D.wrt i s).2 ++ R)) := by
  have hl := hD.len
  have hf := hD.few
  cases hst : D.stop with
  | true =>
    refine (write_no h (by omega) (by rw [tx_size]; exact hs) hst).imt ?_
    rintro v sg' ⟨rfl, h1⟩
    have e : D.wrt i s = (17, D.fail) := by simp [ADisk.wrt, hst]
    rw [e]
    exact ⟨rfl, w, h1⟩
  | false =>
    refine (write_ok h (by omega) (by rw [tx_size]; exact hs) (by omega) hst).imt ?_
    rintro v sg' ⟨rfl, w', h1⟩
    have e : D.wrt i s = (0, D.write i (tx s)) := by simp [ADisk.wrt, hst]
    rw [e]
    exact ⟨by rfl, w', h1⟩
theorem flush_eq (h : Has sg (dkH d g w D ++ R)) (hD : DOk n k D) (hk : k ≤ 1000000) (hN : 1000000 < N) :
    Ev (tab N (dp + 3) 132 [.gp d 0] sg) (Rt fun v sg' => v = vI D.flu.1 ∧ ∃ w', Has sg' (dkH d g w' D.flu.2 ++ R)) := by
  have hf := hD.few
  cases hst : D.stop with
  | true =>
    refine (flush_no h hst).imt ?_
    rintro v sg' ⟨rfl, h1⟩
    have e : D.flu = (17, D.fail) := by simp [ADisk.flu, hst]
    rw [e]
    exact ⟨rfl, w, h1⟩
  | false =>
    refine (flush_ok h (by rw [hD.len]; exact hD.wr) (by omega) (by omega) hst).imt ?_
    rintro v sg' ⟨rfl, h1⟩
    have e : D.flu = (0, D.go.settled) := by simp [ADisk.flu, hst]
    rw [e]
    exact ⟨by rfl, 0, h1⟩
abbrev AIm := Nat × List UInt8
def imL (l : List AIm) : List (Int × ByteArray) := l.map fun p => ((p.1 : Int), tx p.2)
def imgW (ep pos num : Nat) : Nat → List AIm → List (Nat × List UInt8)
  | _, [] => []
  | i, p :: l => (1 + pos + i, (ASec.mk 2 ep (num + 1) p.1 i p.2).simg) :: imgW ep pos num (i + 1) l
def endW (ep pos num k : Nat) : Nat × List UInt8 := (1 + pos + k, (ASec.mk 3 ep (num + 1) 0 k (List.replicate 480 0)).simg)
/-- What a transaction writes. -/
def txW (ep pos num : Nat) (l : List AIm) : List (Nat × List UInt8) := imgW ep pos num 0 l ++ [endW ep pos num l.length]
theorem jwrite_eq {size ep pos num : Nat} {s : ASec} {i : Nat} {e0 n0 : Int} (h : Has sg ((j, jnB d size ep pos num) :: (dkH d g w D ++ R))) (hs : (ASec.mk s.kind ep (num + 1) s.pos s.many s.body).Ok) (hD : DOk n k D) (hk : k ≤ 1000000) (hN : 10 < N)
    (hi : 1 + pos + i < n) (hn : n ≤ 100000) :
    Ev (tab N (dp + 4) 249 [.gp j 0, vI i, secV s.kind e0 n0 s.pos s.many (tx s.body)] sg) (Rt fun v sg' => v = vI (D.wrt (1 + pos + i) (ASec.mk s.kind ep (num + 1) s.pos s.many s.body).simg).1 ∧
      ∃ w', Has sg' ((j, jnB d size ep pos num) :: (dkH d g w' (D.wrt (1 + pos + i) (ASec.mk s.kind ep (num + 1) s.pos s.many s.body).simg).2 ++ R))) := by
  refine ev_of ((t249 ..).trans (journal_Journal_write.main ..)) ?_
  refine ev_ldI h 0 rfl rfl ?_
  refine ev_ldI h 0 rfl rfl ?_
  have e1 : IntKind.u64.wrap ((num : Int) + 1) = ((num + 1 : Nat) : Int) := by
    have := hs.n
    rw [Go.IntWalk.u64_in _ (by simp only at this; omega)]; omega
  rw [e1]
  refine ev_call (seal_eq (s := ASec.mk s.kind ep (num + 1) s.pos s.many s.body) hs hN) rfl ?_
  rintro _ _ rfl
  refine ev_T (ev_bif rfl (ev_S rfl (ev_I rfl (ev_else (by decide) ?_))))
  refine ev_ldA h 0 rfl rfl ?_
  refine ev_ldI h 0 rfl rfl ?_
  refine ev_A rfl ?_
  have e : IntKind.i64.wrap (IntKind.i64.wrap (1 + (pos : Int)) + (i : Int)) = ((1 + pos + i : Nat) : Int) := by
    rw [i64_in (n := 1 + (pos : Int)) (by omega), i64_in (by omega)]; omega
  rw [e]
  refine ev_call (write_eq (N := N) (dp := dp) h.rot hD hi (ASec.seal_len hs) hk) rfl ?_
  rintro _ sg1 ⟨rfl, w', h1⟩
  exact ev_I rfl (ev_ret ⟨rfl, w', h1.tor⟩)
end Go.Abs
namespace Go.Abs
open Go
set_option linter.unusedVariables false
set_option maxRecDepth 100000
variable {N dp : Nat} {sg : Sg} {j d g w n k : Nat} {D : ADisk} {R H : Hp} {a1 : AVal}
/-- Images of pages below n, none twice. -/
structure AImOk (n : Nat) (l : List AIm) : Prop where
  nd : (l.map (·.1)).Nodup
  rg : ∀ p, p ∈ l → p.1 < n ∧ p.2.length = 480
theorem imL_len (l : List AIm) : (imL l).length = l.length := List.length_map ..
theorem AImOk.im {l : List AIm} (h : AImOk n l) : ImOk n (imL l) := by
  refine ⟨?_, ?_⟩
  · have e : (imL l).map (·.1) = (l.map (·.1)).map (fun x : Nat => (x : Int)) := by simp [imL]
    rw [e]
    exact List.Pairwise.map _ (fun a b (hab : a ≠ b) (he : (a : Int) = (b : Int)) => hab (by omega)) h.nd
  · intro p hp
    obtain ⟨q, hq, rfl⟩ := List.mem_map.1 hp
    have := h.rg q hq
    exact ⟨⟨by omega, by show (q.1 : Int) < _; omega⟩, (tx_size _).trans this.2⟩
theorem stop_wrt {i : Nat} {s : List UInt8} (h : D.stop = true) : D.wrt i s = (17, D.fail) := by simp [ADisk.wrt, h]
theorem go_wrt {i : Nat} {s : List UInt8} (h : D.stop = false) : D.wrt i s = (0, D.write i (tx s)) := by simp [ADisk.wrt, h]
theorem seqW_stop {p : Nat × List UInt8} {l : List (Nat × List UInt8)} (h : D.stop = true) : seqW (p :: l) D = (17, D.fail) := by simp [seqW, h]
theorem seqW_go {p : Nat × List UInt8} {l : List (Nat × List UInt8)} (h : D.stop = false) : seqW (p :: l) D = seqW l (D.write p.1 (tx p.2)) := by simp [seqW, h]
theorem append_eq {size ep pos num : Nat} {l : List AIm} (hI : ImH a1 (imL l) H) (h : Has sg ((j, jnB d size ep pos num) :: (dkH d g w D ++ R))) (hD : DOk n k D) (hl : AImOk 3840 l) (hne : l ≠ []) (hroom : pos + l.length < size) (hs : size ≤ 1024) (hn : size < n) (hn2 : n ≤ 100000)
    (hep : ep < 2 ^ 64) (hnum : num + 1 < 2 ^ 64) (hN : 2000 < N) (hk : k + 2000 ≤ 1000000) (hH : ∀ q, q ∈ H → q ∈ R) :
    Ev (tab N (dp + 5) 142 [.gp j 0, a1] sg) (Rt fun v sg' => v = vI (seqW (txW ep pos num l) D).1 ∧
      ∃ w', Has sg' ((j, jnB d size ep (if (seqW (txW ep pos num l) D).1 = 0 then pos + l.length + 1 else pos) (if (seqW (txW ep pos num l) D).1 = 0 then num + 1 else num : Nat)) :: (dkH d g w' (seqW (txW ep pos num l) D).2 ++ R))) := by
  have hle := imL_len l
  refine ev_of ((t142 ..).trans (journal_Journal_Append.main ..)) ?_
  refine ev_if (by decide) (ev_A hI.plain ?_)
  refine ev_call (jcheck_ok hI hl.im (Nat.le_refl _) (fun e => hne (List.eq_nil_of_length_eq_zero (by rw [← hle, e]; rfl))) (by omega) (by omega) h (fun q hq => by simp [hH q hq])) rfl ?_
  rintro _ sg1 ⟨rfl, h1⟩
  refine ev_I rfl (ev_else (by decide) ?_)
  have eL := hI.len
  rw [hle] at eL
  refine ev_O eL ?_
  refine ev_call (room_ok h1 (by omega) hs) rfl ?_
  rintro _ _ ⟨rfl, rfl⟩
  refine ev_I rfl (ev_else (by simp; omega) ?_)
  refine ev_O eL ?_
  refine ev_loop l.length (fun i st => ∃ sg' w' D', st = mkS [0, 1, 24, 25, 26] [.v (.gp j 0) false, .v a1 false, .v a1 false, .v (vI l.length) false, .v (vI i) false] [none, none, none, none, none] (.sg sg') ∧
    DOk n (k + i) D' ∧ seqW (imgW ep pos num i (l.drop i) ++ [endW ep pos num l.length]) D' = seqW (txW ep pos num l) D ∧ Has sg' ((j, jnB d size ep pos num) :: (dkH d g w' D' ++ R))) (by omega) ⟨_, w, D, rfl, hD, rfl, h1⟩ ?_
  rintro i st K hi ⟨sg2, w2, D2, rfl, hD2, hseq, h2⟩ hnext hexit hret
  refine ev_of (journal_Journal_Append.r0 ..) ?_
  refine ev_ite (fun hlt => ?_) (fun hge => ?_)
  · have hlt : i < l.length := by simpa using hlt
    obtain ⟨hr1, hr2⟩ := hl.rg l[i] (List.getElem_mem hlt)
    have hi2 : i < (imL l).length := by rw [hle]; exact hlt
    have ei : (imL l)[i] = ((l[i].1 : Int), tx l[i].2) := by simp [imL]
    refine ev_im hI h2 (fun q hq => by simp [hH q hq]) hi2 (ev_bif rfl (ev_L ?_))
    rw [ei]
    refine ev_I rfl (ev_S rfl ?_)
    have hd : l.drop i = l[i] :: l.drop (i + 1) := List.drop_eq_getElem_cons hlt
    rw [hd] at hseq
    have hok : (ASec.mk 2 ep (num + 1) l[i].1 i l[i].2).Ok := ⟨(by decide : 1 ≤ 2), (by decide : 2 ≤ 4), hep, hnum, by show l[i].1 ≤ 65535; omega, by show i ≤ 65535; omega, hr2⟩
    refine ev_call (jwrite_eq (s := ASec.mk 2 0 0 l[i].1 i l[i].2) h2 hok hD2 (by omega) (by omega) (by omega) hn2) rfl ?_
    rintro _ sg3 ⟨rfl, w3, h3⟩
    refine ev_I rfl ?_
    cases hst : D2.stop with
    | true =>
      rw [stop_wrt hst] at h3 ⊢
      have hq : seqW (txW ep pos num l) D = (17, D2.fail) := by rw [← hseq]; exact seqW_stop hst
      refine ev_if (show ((17 : Int) != 0) = true by decide) (hret _ ?_)
      rw [hq]
      exact ev_of (journal_Journal_Append.k0_1 ..) (ev_ret ⟨rfl, w3, h3⟩)
    | false =>
      rw [go_wrt hst] at h3 ⊢
      refine ev_else (show ¬ ((0 : Int) != 0) = true by decide) ?_
      rw [i64_nat (by omega)]
      refine hnext _ hlt ⟨_, w3, _, rfl, (hD2.write (i := 1 + pos + i) (by omega)).mono (by omega), ?_, h3⟩
      rw [← hseq]
      exact (seqW_go (p := (1 + pos + i, (ASec.mk 2 ep (num + 1) l[i].1 i l[i].2).simg)) hst).symm
  · have hge : i = l.length := by
      have : l.length ≤ i := by simpa using hge
      omega
    subst hge
    rw [List.drop_length] at hseq
    refine hexit _ _ ?_
    refine ev_of (journal_Journal_Append.k0_2 ..) ?_
    refine ev_O eL ?_
    refine ev_call (pad_ok (n := 480) (by decide) (by decide)) rfl ?_
    rintro _ _ ⟨rfl, rfl⟩
    refine ev_S rfl (ev_O eL ?_)
    have hok : (ASec.mk 3 ep (num + 1) 0 l.length (List.replicate 480 0)).Ok := ⟨(by decide : 1 ≤ 3), (by decide : 3 ≤ 4), hep, hnum, (by decide : 0 ≤ 65535), by show l.length ≤ 65535; omega, List.length_replicate ..⟩
    refine ev_call (jwrite_eq (s := ASec.mk 3 0 0 0 l.length (List.replicate 480 0)) h2 hok hD2 (by omega) (by omega) (by omega) hn2) rfl ?_
    rintro _ sg3 ⟨rfl, w3, h3⟩
    refine ev_I rfl ?_
    cases hst : D2.stop with
    | true =>
      rw [stop_wrt hst] at h3 ⊢
      have hq : seqW (txW ep pos num l) D = (17, D2.fail) := by rw [← hseq]; exact seqW_stop hst
      rw [hq]
      exact ev_if (show ((17 : Int) != 0) = true by decide) (ev_ret ⟨rfl, w3, h3⟩)
    | false =>
      rw [go_wrt hst] at h3 ⊢
      have hq : seqW (txW ep pos num l) D = (0, D2.write (1 + pos + l.length) (tx (ASec.mk 3 ep (num + 1) 0 l.length (List.replicate 480 0)).simg)) := by rw [← hseq]; exact seqW_go hst
      rw [hq]
      refine ev_else (show ¬ ((0 : Int) != 0) = true by decide) ?_
      refine ev_ldI h3 0 rfl rfl (ev_O eL ?_)
      refine ev_st h3 0 rfl rfl (Nat.le_of_ble_eq_true rfl) (Nat.succ_pos _) fun sg4 h4 => ?_
      refine ev_ldI h4 0 rfl rfl ?_
      refine ev_st h4 0 rfl rfl (Nat.le_of_ble_eq_true rfl) (Nat.succ_pos _) fun sg5 h5 => ?_
      have e : IntKind.i64.wrap ((pos : Int) + IntKind.i64.wrap ((l.length : Int) + 1)) = ((pos + l.length + 1 : Nat) : Int) := by
        rw [i64_in (n := (l.length : Int) + 1) (by omega), i64_in (by omega)]; omega
      have e2 : IntKind.u64.wrap ((num : Int) + 1) = ((num + 1 : Nat) : Int) := by
        rw [Go.IntWalk.u64_in _ (by omega)]; omega
      refine ev_ret ⟨rfl, w3, ?_⟩
      rw [e, e2] at h5
      exact h5
end Go.Abs
namespace Go.Abs
open Go
set_option linter.unusedVariables false
set_option maxRecDepth 100000
def stB (d size p n m : Nat) (jv : AVal) (wt : Int) : Box := .mk [.gp d 0, vI size, .gs p 1 0 n, .gm m, jv, vI wt]
theorem insI_pm (x : Int) : ∀ l, (insI x l).Perm (x :: l)
  | [] => List.Perm.refl _
  | y :: l => by
    simp only [insI]; split
    · exact List.Perm.refl _
    · exact ((insI_pm x l).cons y).trans (List.Perm.swap x y l)
theorem sortI_pm : ∀ l, (sortI l).Perm l
  | [] => List.Perm.refl _
  | x :: l => (insI_pm x (sortI l)).trans ((sortI_pm l).cons x)
/-- Which pages are fresh: numbers below n, none twice. -/
structure FrOk (n : Nat) (l : List (Int × Unit)) : Prop where
  nd : (l.map (·.1)).Nodup
  rg : ∀ x : Int, x ∈ l.map (·.1) → 0 ≤ x ∧ x < (n : Int)
theorem FrOk.len {n : Nat} {l : List (Int × Unit)} (h : FrOk n l) : l.length ≤ n := by
  have := len_le_of_nodup h.nd h.rg
  simpa using this
theorem FrOk.ins {n : Nat} {l : List (Int × Unit)} (h : FrOk n l) {x : Int} (hx : 0 ≤ x ∧ x < n) : FrOk n (insM x () l) :=
  ⟨nodup_ins h.nd, fun y hy => by
    rcases keys_ins.1 hy with rfl | hy
    · exact hx
    · exact h.rg y hy⟩
variable {N dp : Nat} {sg : Sg} {s d p m n k size : Nat} {jv : AVal} {wt ep : Int} {A R : Hp}
theorem sizes_ok {a b : Int} : Ev (tab N (dp + 1) 148 [vI a, vI b] sg) (Rt fun v _ => v = vB (decide (8 ≤ a ∧ a ≤ 3840 ∧ 4 ≤ b ∧ b ≤ 1024))) := by
  refine ev_of ((t148 ..).trans (pages_sizes.main ..)) ?_
  refine ev_ite (fun h1 => ev_ite (fun h2 => ev_ite (fun h3 => ev_ret ?_) (fun h3 => ev_ret ?_)) (fun h2 => ev_ret ?_)) (fun h1 => ev_ret ?_)
  · have h1 : 8 ≤ a := by simpa using h1
    have h2 : a ≤ 3840 := by simpa using h2
    have h3 : 4 ≤ b := by simpa using h3
    simp [h1, h2, h3]
  · have h3 : ¬ 4 ≤ b := by simpa using h3
    simp [h3]
  · have h3 : ¬ a ≤ 3840 := by simpa using h2
    simp [h3]
  · have h3 : ¬ 8 ≤ a := by simpa using h1
    simp [h3]
theorem size_ok {a b : Int} : Ev (tab N (dp + 2) 41 [vI a, vI b] sg) (Rt fun v sg' => v = (if 8 ≤ a ∧ a ≤ 3840 ∧ 4 ≤ b ∧ b ≤ 1024 then .tup [vI (1 + b + a), vI 0] else .tup [vI 0, vI 18]) ∧ sg' = sg) := by
  refine ev_of ((t41 ..).trans (pages_Size.main ..)) ?_
  refine ev_call sizes_ok rfl ?_
  rintro _ _ rfl
  refine ev_B rfl (ev_ite (fun h => ev_ret ⟨?_, rfl⟩) (fun h => ev_ret ⟨?_, rfl⟩))
  · have h : ¬ (8 ≤ a ∧ a ≤ 3840 ∧ 4 ≤ b ∧ b ≤ 1024) := by simpa only [Bool.not_eq_true', decide_eq_false_iff_not] using h
    rw [if_neg h]
  · have h : 8 ≤ a ∧ a ≤ 3840 ∧ 4 ≤ b ∧ b ≤ 1024 := by simpa only [Bool.not_eq_true', decide_eq_false_iff_not, Classical.not_not] using h
    rw [if_pos h, i64_in (n := 1 + b) (by omega), i64_in (by omega)]
theorem held_ok {d : Nat} (h : Has sg R) (h1 : 1 ≤ n) (h2 : n ≤ 3840) (hN : 5000 < N) :
    Ev (tab N (dp + 4) 133 [.gp d 0, vI n, vI size] sg) (Rt fun v sg' => ∃ s p m, v = .gp s 0 ∧ Has sg' ((s, stB d size p n m (.at (.pointer none)) 0) :: (p, .mk ((List.replicate n (zeros 480)).map vS)) :: (m, .map (emb tV [])) :: R)) := by
  refine ev_of ((t133 ..).trans (pages_held.main ..)) ?_
  refine ev_call (pad_ok (n := 480) (by decide) (by decide)) rfl ?_
  rintro _ _ ⟨rfl, rfl⟩
  refine ev_S rfl (ev_bif rfl ?_)
  refine ev_call (repeat_ok (h.new _) h1 (by omega) hN) rfl ?_
  rintro _ sg1 ⟨p, rfl, h3⟩
  refine ev_A rfl (ev_bif rfl (ev_L (ev_ret ?_)))
  refine ⟨(sg1 ++ [Box.map []]).length, p, sg1.length, rfl, ?_⟩
  have h4 := (h3.new (.map [])).new (stB d size p n sg1.length (.at (.pointer none)) 0)
  have h5 : Has (sg1 ++ [Box.map []] ++ [stB d size p n sg1.length (.at (.pointer none)) 0]) ((List.length (sg1 ++ [Box.map []]), stB d size p n sg1.length (.at (.pointer none)) 0) :: (p, .mk ((List.replicate n (zeros 480)).map vS)) :: (sg1.length, .map (emb tV [])) :: R) := by
    rw [List.map_replicate]
    exact h4.perm ((List.Perm.swap _ _ _).cons _)
  exact h5
end Go.Abs
namespace Go.Abs
open Go
set_option linter.unusedVariables false
set_option maxRecDepth 100000
/-- Sorted keys, as they come. -/
def kV (q : Nat) (ks : List Int) : AVal := match ks with
  | [] => .sl true 1 []
  | _ :: _ => .gs q 1 0 ks.length
def kH (q : Nat) (ks : List Int) : Hp := match ks with
  | [] => []
  | _ :: _ => [(q, .mk (ks.map vI))]
theorem kV_len (q : Nat) (ks : List Int) : lenV (kV q ks) = some ks.length := by cases ks <;> rfl
variable {N dp : Nat} {sg : Sg} {s d p m n k size at_ : Nat} {jv : AVal} {wt ep : Int} {A R : Hp} {pgs : List ByteArray}
theorem sorted_ok {α : Type} {f : α → AVal} {F : FuncId} {l : List (Int × α)} {L : Hp} {i i' g : Nat} (h : Has sg L) (hF : keysFn F = true) (e1 : L[i]? = some (g, .mk [.gm m])) (e2 : L[i']? = some (m, .map (emb f l)))
    (hr : ∀ x : Int, x ∈ l.map (·.1) → 0 ≤ x ∧ x < 100000) (hl : l.length ≤ 100000) :
    Ev (tab N (dp + 1) 226 [.clo F [] [.gp g 0]] sg) (Rt fun v sg' => ∃ q, v = kV q (sortI (l.map (·.1))) ∧ Has sg' (kH q (sortI (l.map (·.1))) ++ L)) := by
  refine ev_of (t226 ..) ?_
  have hall : (l.map (·.1)).all inI64 = true := List.all_eq_true.2 fun x hx => by
    have := hr x hx
    simp only [inI64, Bool.and_eq_true, decide_eq_true_eq]; omega
  simp only [ovSortedN, hF, cond_true, h.at e1, h.at e2, keysI_emb, hall, Bool.true_and, List.length_map]
  refine ev_bif (Nat.ble_eq_true_of_le (by omega)) ?_
  cases l with
  | nil => exact ev_ret ⟨0, rfl, h⟩
  | cons x l =>
    have hp := sortI_pm (List.map (·.1) (x :: l))
    have hlen := hp.length_eq
    simp only [List.map_cons, List.length_cons, List.length_map] at hp hlen ⊢
    cases hs : sortI (x.1 :: List.map (·.1) l) with
    | nil => rw [hs] at hlen; simp at hlen
    | cons y ys =>
      rw [hs] at hlen
      refine ev_ret ⟨sg.length, ?_, h.new _⟩
      simp only [kV]; rw [hlen]
theorem shome_ok {L : Hp} {i : Nat} {a : Nat} (h : Has sg L) (e : L[i]? = some (s, stB d size p n m jv wt)) (hs : size ≤ 1024) (ha : a ≤ 3840) :
    Ev (tab N (dp + 1) 241 [.gp s 0, vI a] sg) (Rt fun v sg' => v = vI ((1 + size + a : Nat) : Int) ∧ sg' = sg) := by
  refine ev_of ((t241 ..).trans (pages_Store_home.main ..)) ?_
  refine ev_ldI h i e rfl (ev_ret ⟨?_, rfl⟩)
  rw [i64_in (n := 1 + (size : Int)) (by omega), i64_in (by omega)]
  congr 3
end Go.Abs
namespace Go.Abs
open Go
set_option linter.unusedVariables false
set_option maxRecDepth 100000
variable {N dp : Nat} {sg : Sg} {s d p m n k size at_ : Nat} {jv : AVal} {wt ep : Int} {A R L H : Hp} {pgs : List ByteArray} {l : List (Int × ByteArray)} {a1 : AVal}
theorem imOk_len {n : Nat} (h : ImOk n l) : l.length ≤ n := by
  have := len_le_of_nodup h.nd fun x hx => by
    obtain ⟨q, hq, rfl⟩ := List.mem_map.1 hx
    exact (h.rg q hq).1
  simpa using this
theorem pages_ok {i : Nat} (h : Has sg L) (e : L[i]? = some (s, stB d size p n m jv wt)) : Ev (tab N (dp + 1) 35 [.gp s 0] sg) (Rt fun v sg' => v = vI n ∧ sg' = sg) := by
  refine ev_of ((t35 ..).trans (pages_Store_Pages.main ..)) ?_
  refine ev_else (by decide) ?_
  exact ev_ldA h i e rfl (ev_O rfl (ev_ret ⟨rfl, rfl⟩))
theorem has1_ok {g i j : Nat} {a : Int} {t : ByteArray} (h : Has sg L) (e1 : L[j]? = some (g, .mk [.gp s 0])) (e : L[i]? = some (s, stB d size p n m jv wt)) (ha : a < n) :
    Ev (tab N (dp + 1) 248 [.agg [vI a, vS t], .gp g 0] sg) (Rt fun v sg' => v = vB false ∧ sg' = sg) := by
  refine ev_of ((t248 ..).trans (pages_Store_has_1.main ..)) ?_
  refine ev_I rfl ?_
  refine ev_ldA h j e1 rfl (ev_O (a := .gp s 0) rfl (ev_O (a := .gp s 2) rfl ?_))
  refine ev_ldA h i e rfl (ev_O (a := n) rfl (ev_ret ⟨?_, rfl⟩))
  simp; omega
theorem sthas_ok {i : Nat} (hI : ImH a1 l H) (hH : ∀ q, q ∈ H → q ∈ L) (h : Has sg L) (e : L[i]? = some (s, stB d size p n m jv wt)) (hl : ImOk n l) (hN : l.length < N) (hlen : l.length ≤ 100000) :
    Ev (tab N (dp + 4) 140 [.gp s 0, a1] sg) (Rt fun v sg' => v = vB true ∧ Has sg' L) := by
  refine ev_of ((t140 ..).trans (pages_Store_has.main ..)) (ev_A hI.plain ?_)
  have h0 := h.new (.mk [.gp s 0])
  generalize sg.length = g at h0 ⊢
  refine ev_call (φ := fun v sg' => v = vB false ∧ Has sg' L) ?_ rfl ?_
  · refine ev_of ((t247 ..).trans (slices_ContainsFunc_journal_Image_journal_Image.main ..)) (ev_A hI.plain ?_)
    refine ev_call (φ := fun v sg' => v = vI (-1) ∧ Has sg' L) ?_ rfl ?_
    · refine ev_of ((t334 ..).trans (slices_IndexFunc_journal_Image_journal_Image.main ..)) ?_
      refine ev_O hI.len ?_
      refine ev_loop l.length (fun i st => ∃ sg', st = mkS [0, 1, 7, 8] [.v a1 false, .v (.clo 248 [] [.gp g 0]) false, .v (vI l.length) false, .v (vI i) false] [none, none, none, none] (.sg sg') ∧ Has sg' ((g, .mk [.gp s 0]) :: L)) hN ⟨_, rfl, h0⟩ ?_
      rintro i2 st K hi ⟨sg1, rfl, h1⟩ hnext hexit hret
      refine ev_of (slices_IndexFunc_journal_Image_journal_Image.r0 ..) ?_
      refine ev_ite (fun hlt => ?_) (fun hge => ?_)
      · have hlt : i2 < l.length := by simpa using hlt
        refine ev_im hI h1 (fun q hq => List.mem_cons_of_mem _ (hH q hq)) hlt ?_
        refine ev_call (f := 248) (has1_ok (j := 0) (i := i + 1) h1 rfl e (hl.rg _ (List.getElem_mem hlt)).1.2) rfl ?_
        rintro _ _ ⟨rfl, rfl⟩
        refine ev_B rfl (ev_else (by decide) ?_)
        rw [i64_nat (by omega)]
        exact hnext _ hlt ⟨_, rfl, h1⟩
      · refine hexit _ _ ?_
        exact ev_of (slices_IndexFunc_journal_Image_journal_Image.k0_2 ..) (ev_ret ⟨rfl, h1.tail⟩)
    · rintro _ sg1 ⟨rfl, h1⟩
      exact ev_I rfl (ev_ret ⟨rfl, h1⟩)
  · rintro _ sg1 ⟨rfl, h1⟩
    exact ev_B rfl (ev_ret ⟨rfl, h1⟩)
/-- Pages after images. -/
def setIm (l : List (Int × ByteArray)) (pgs : List ByteArray) : List ByteArray := l.foldl (fun s p => s.set p.1.toNat p.2) pgs
theorem setIm_len : ∀ (l : List (Int × ByteArray)) (pgs : List ByteArray), (setIm l pgs).length = pgs.length
  | [], pgs => rfl
  | x :: l, pgs => by
    show (setIm l (pgs.set x.1.toNat x.2)).length = _
    rw [setIm_len l, List.length_set]
theorem setIm_snoc (l : List (Int × ByteArray)) (x : Int × ByteArray) (pgs : List ByteArray) : setIm (l ++ [x]) pgs = (setIm l pgs).set x.1.toNat x.2 := by simp [setIm]
theorem stroom_ok {L : Hp} {i i2 j : Nat} {num : Int} (h : Has sg L) (e : L[i]? = some (s, stB d size p n m (.gp j 0) wt)) (e2 : L[i2]? = some (j, jnB d size ep at_ num)) (h1 : at_ ≤ size) (h2 : size ≤ 1024) :
    Ev (tab N (dp + 2) 36 [.gp s 0] sg) (Rt fun v sg' => v = vI ((size - at_ : Nat) : Int) ∧ sg' = sg) := by
  refine ev_of ((t36 ..).trans (pages_Store_Room.main ..)) (ev_else (by decide) ?_)
  refine ev_ldA h i e rfl (ev_A rfl ?_)
  have hj : Has sg ((j, jnB d size ep at_ num) :: []) := ⟨by simp, fun q hq => by simp at hq; subst hq; exact h.at e2⟩
  refine ev_call (room_ok hj h1 h2) rfl ?_
  rintro _ _ ⟨rfl, rfl⟩
  exact ev_I rfl (ev_ret ⟨rfl, rfl⟩)
theorem stepoch_ok {L : Hp} {i i2 j : Nat} {num : Int} (h : Has sg L) (e : L[i]? = some (s, stB d size p n m (.gp j 0) wt)) (e2 : L[i2]? = some (j, jnB d size ep at_ num)) :
    Ev (tab N (dp + 2) 39 [.gp s 0] sg) (Rt fun v sg' => v = vU ep ∧ sg' = sg) := by
  refine ev_of ((t39 ..).trans (pages_Store_Epoch.main ..)) (ev_else (by decide) ?_)
  refine ev_ldA h i e rfl (ev_A rfl ?_)
  have hj : Has sg ((j, jnB d size ep at_ num) :: []) := ⟨by simp, fun q hq => by simp at hq; subst hq; exact h.at e2⟩
  refine ev_call (epoch_ok hj) rfl ?_
  rintro _ _ ⟨rfl, rfl⟩
  exact ev_I rfl (ev_ret ⟨rfl, rfl⟩)
def cmtTail (C : CallF) (m0 : Nat) (a1 : AVal) (sg' : Sg) : Option Out :=
  withO (loadC none sg' (AVal.gp m0 (4 : Nat))) fun p => withA p.fst[p.snd]? fun (r : AVal) => withA (plainA r) fun (a : AVal) => withA (plainA a1) fun (a_1 : AVal) =>
    withOut (bif Nat.blt (142 : Nat) (1000000 : Nat) then C (142 : FuncId) [a, a_1] sg' else none)
      (fun v sg' => withI IntKind.i64 (some v) fun (n : Int) => if (n != (0 : Int)) = true then some (Out.ret (AVal.at (Value.int IntKind.i64 n)) sg') else withA (plainA a1) fun (a : AVal) =>
        withOut (bif Nat.blt (143 : Nat) (1000000 : Nat) then C (143 : FuncId) [AVal.gp m0 (0 : Nat), a] sg' else none)
          (fun v sg' => withO (loadC none sg' (AVal.gp m0 (5 : Nat))) fun p => withI IntKind.i64 p.fst[p.snd]? fun (n : Int) =>
            withO (storeG none sg' (AVal.gp m0 (5 : Nat)) (1 : Nat) (AVal.at (Value.int IntKind.i64 (IntKind.i64.wrap (n + (1 : Int)))))) fun (sg : Sg) => some (Out.ret (AVal.at (Value.int IntKind.i64 (0 : Int))) sg))
          fun v sg' => some (Out.pan v sg'))
      fun v sg' => some (Out.pan v sg')
end Go.Abs
namespace Go.Abs
open Go
set_option linter.unusedVariables false
set_option maxRecDepth 100000
variable {N dp : Nat} {sg : Sg} {s d p m n k size g w : Nat} {jv : AVal} {wt : Int} {ep : Nat} {A R : Hp} {D : ADisk}
/-- One step, then, if it went well, the next. -/
def bindD (r : Int × ADisk) (f : ADisk → Int × ADisk) : Int × ADisk := if r.1 = 0 then f r.2 else r
theorem bindD_ok {r : Int × ADisk} {f : ADisk → Int × ADisk} (h : r.1 = 0) : bindD r f = f r.2 := if_pos h
theorem bindD_no {r : Int × ADisk} {f : ADisk → Int × ADisk} (h : r.1 ≠ 0) : bindD r f = r := if_neg h
def headS (ep n size : Nat) : ASec := ⟨1, ep, 0, n, size, List.replicate 480 0⟩
theorem headS_ok {ep n size : Nat} (h1 : ep < 2 ^ 64) (h2 : n ≤ 65535) (h3 : size ≤ 65535) : (headS ep n size).Ok :=
  ⟨(by decide : 1 ≤ 1), (by decide : 1 ≤ 4), h1, (by decide : 0 < 2 ^ 64), h2, h3, List.length_replicate ..⟩
theorem head_eq (h1 : ep < 2 ^ 64) (h2 : n ≤ 65535) (h3 : size ≤ 65535) (hN : 10 < N) : Ev (tab N (dp + 4) 237 [vI n, vI size, vU ep] []) (Rt fun v _ => v = .tup [vS (tx (headS ep n size).simg), vI 0]) := by
  refine ev_of ((t237 ..).trans (pages_head.main ..)) ?_
  refine ev_call (pad_ok (n := 480) (by decide) (by decide)) rfl ?_
  rintro _ _ ⟨rfl, rfl⟩
  refine ev_S rfl (ev_call (seal_eq (s := headS ep n size) (headS_ok h1 h2 h3) hN) rfl ?_)
  rintro _ _ rfl
  exact ev_T (ev_bif rfl (ev_S rfl (ev_I rfl (ev_ret rfl))))
theorem jopen_eq (h : Has sg (dkH d g w D ++ R)) (hD : DOk n k D) (h1 : 4 ≤ size) (h2 : size ≤ 1024) (h3 : size < n) :
    Ev (tab N (dp + 2) 238 [.gp d 0, vI size, vU ep] sg) (Rt fun v sg' => ∃ j, v = .tup [.gp j 0, vI 0] ∧ Has sg' ((j, jnB d size ep 0 0) :: (dkH d g w D ++ R))) := by
  refine ev_of ((t238 ..).trans (journal_Open.main ..)) ?_
  refine ev_if (by decide) (ev_if (by simp; omega) (ev_if (by simp; omega) ?_))
  refine ev_call (len_ok h) rfl ?_
  rintro _ _ ⟨rfl, rfl⟩
  rw [hD.len]
  refine ev_I rfl (ev_else (by simp; omega) (ev_ret ⟨_, rfl, h.new _⟩))
theorem DOk.wrt {i : Nat} {t : List UInt8} (h : DOk n k D) (hi : i < n) : DOk n (k + 1) (D.wrt i t).2 := by
  unfold ADisk.wrt
  split
  · exact h.fail.mono (by omega)
  · exact h.write hi
/-- The head, and that it is safe. -/
def swM (ep n size : Nat) (D : ADisk) : Int × ADisk := bindD (D.wrt 0 (headS ep n size).simg) fun D => D.flu
theorem ne_bne {x : Int} (h : x ≠ 0) : (x != 0) = true := by simpa using h
theorem eq_bne {x : Int} (h : x = 0) : ¬ (x != 0) = true := by simp [h]
theorem swrite_eq (h : Has sg ((s, stB d size p n m jv wt) :: (dkH d g w D ++ R))) (hD : DOk (1 + size + n) k D) (he : ep < 2 ^ 64) (hn : n ≤ 3840) (h4 : 4 ≤ size) (hs : size ≤ 1024) (hk : k + 1 ≤ 1000000) (hN : 1000000 < N) :
    Ev (tab N (dp + 5) 134 [.gp s 0, vU ep] sg) (Rt fun v sg' => v = vI (swM ep n size D).1 ∧
      ((swM ep n size D).1 = 0 → ∃ j w', Has sg' ((s, stB d size p n m (.gp j 0) wt) :: (j, jnB d size ep 0 0) :: (dkH d g w' (swM ep n size D).2 ++ R))) ∧
      ((swM ep n size D).1 ≠ 0 → ∃ w', Has sg' ((s, stB d size p n m jv wt) :: (dkH d g w' (swM ep n size D).2 ++ R)))) := by
  refine ev_of ((t134 ..).trans (pages_Store_write.main ..)) ?_
  refine ev_ldA h 0 rfl rfl (ev_O (a := n) rfl ?_)
  refine ev_ldI h 0 rfl rfl ?_
  refine ev_call (head_eq he (by omega) (by omega) (by omega)) rfl ?_
  rintro _ _ rfl
  refine ev_T (ev_bif rfl (ev_S rfl (ev_I rfl (ev_else (by decide) ?_))))
  refine ev_ldA h 0 rfl rfl (ev_A rfl ?_)
  refine ev_call (write_eq (i := 0) h.rot hD (by omega) (ASec.seal_len (headS_ok he (by omega) (by omega))) (by omega)) rfl ?_
  rintro _ sg1 ⟨rfl, w1, h1⟩
  replace h1 := h1.tor
  have hD1 := hD.wrt (i := 0) (t := (headS ep n size).simg) (by omega)
  by_cases e1 : (D.wrt 0 (headS ep n size).simg).1 = 0
  · have es : swM ep n size D = (D.wrt 0 (headS ep n size).simg).2.flu := bindD_ok e1
    rw [es]
    generalize D.wrt 0 (headS ep n size).simg = r1 at e1 h1 hD1 ⊢
    refine ev_I rfl (ev_else (eq_bne e1) ?_)
    refine ev_ldA h1 0 rfl rfl (ev_A rfl ?_)
    refine ev_call (flush_eq h1.rot hD1 (by omega) hN) rfl ?_
    rintro _ sg2 ⟨rfl, w2, h2⟩
    have hD2 := hD1.flu
    by_cases e2 : r1.2.flu.1 = 0
    · generalize r1.2.flu = r2 at e2 h2 hD2 ⊢
      refine ev_I rfl (ev_else (eq_bne e2) ?_)
      refine ev_ldA h2.tor 0 rfl rfl ?_
      refine ev_ldI h2.tor 0 rfl rfl (ev_A rfl ?_)
      refine ev_call (jopen_eq h2 hD2 h4 hs (by omega)) rfl ?_
      rintro _ sg3 ⟨j, rfl, h3⟩
      refine ev_T (ev_bif rfl (ev_A rfl (ev_I rfl (ev_A rfl ?_))))
      have h5 : Has sg3 ((s, stB d size p n m jv wt) :: (j, jnB d size ep 0 0) :: (dkH d g w2 r2.2 ++ R)) := Has.tor (A := (j, jnB d size ep 0 0) :: dkH d g w2 r2.2) h3
      refine ev_st h5 0 rfl rfl (Nat.le_of_ble_eq_true rfl) (Nat.succ_pos _) fun sg4 h6 => ?_
      refine ev_ret ⟨by rw [e2], fun _ => ⟨j, w2, h6⟩, fun hne => absurd e2 hne⟩
    · refine ev_I rfl (ev_if (ne_bne e2) (ev_ret ⟨rfl, fun h0 => absurd h0 e2, fun _ => ⟨w2, h2.tor⟩⟩))
  · have es : swM ep n size D = D.wrt 0 (headS ep n size).simg := bindD_no e1
    rw [es]
    refine ev_I rfl (ev_if (ne_bne e1) (ev_ret ⟨rfl, fun h0 => absurd h0 e1, fun _ => ⟨w1, h1⟩⟩))
end Go.Abs
namespace Go.Abs
open Go
set_option linter.unusedVariables false
set_option maxRecDepth 100000
variable {N dp : Nat} {sg : Sg} {s d p m n k size g w : Nat} {jv : AVal} {wt : Int} {ep : Nat} {A R : Hp} {D : ADisk}
/-- The home sectors of some pages. -/
def hW (size : Nat) (pgs : List (List UInt8)) (ks : List Int) : List (Nat × List UInt8) := ks.map fun x => (1 + size + x.toNat, homeL x.toNat (pgs.getD x.toNat []))
def ckM (ep n size : Nat) (pgs : List (List UInt8)) (ks : List Int) (D : ADisk) : Int × ADisk :=
  bindD D.flu fun D => bindD (seqW (hW size pgs ks) D) fun D => bindD D.flu fun D => swM ep n size D
abbrev pgB (pgs : List (List UInt8)) : Box := .mk ((pgs.map tx).map vS)
theorem checkpoint_eq {pgs : List (List UInt8)} {l : List (Int × Unit)} (h : Has sg ((s, stB d size p n m jv wt) :: (p, pgB pgs) :: (m, .map (emb tV l)) :: (dkH d g w D ++ R))) (hD : DOk (1 + size + n) k D) (hk : k ≤ 10000)
    (hpl : pgs.length = n) (hfr : FrOk n l) (hsz : ∀ t, t ∈ pgs → t.length = 480) (he : ep < 2 ^ 64) (hn1 : 8 ≤ n) (hn2 : n ≤ 3840) (hs1 : 4 ≤ size) (hs2 : size ≤ 1024) (hN : 1000000 < N) :
    Ev (tab N (dp + 6) 138 [.gp s 0, vU ep] sg) (Rt fun v sg' => v = vI (ckM ep n size pgs (sortI (l.map (·.1))) D).1 ∧
      ((ckM ep n size pgs (sortI (l.map (·.1))) D).1 = 0 → ∃ j w', Has sg' ((s, stB d size p n m (.gp j 0) 0) :: (p, pgB pgs) :: (m, .map (emb tV [])) :: (j, jnB d size ep 0 0) :: (dkH d g w' (ckM ep n size pgs (sortI (l.map (·.1))) D).2 ++ R))) ∧
      ((ckM ep n size pgs (sortI (l.map (·.1))) D).1 ≠ 0 → ∃ w', Has sg' ((s, stB d size p n m jv wt) :: (p, pgB pgs) :: (m, .map (emb tV l)) :: (dkH d g w' (ckM ep n size pgs (sortI (l.map (·.1))) D).2 ++ R)))) := by
  refine ev_of ((t138 ..).trans (pages_Store_checkpoint.main ..)) ?_
  refine ev_ldA h 0 rfl rfl (ev_A rfl ?_)
  have h1 : Has sg (dkH d g w D ++ ((s, stB d size p n m jv wt) :: (p, pgB pgs) :: (m, .map (emb tV l)) :: R)) := Has.sw [_, _, _] (dkH d g w D) h
  refine ev_call (flush_eq h1 hD (by omega) hN) rfl ?_
  rintro _ sg2 ⟨rfl, w2, h2⟩
  have hD2 := hD.flu
  by_cases e1 : D.flu.1 = 0
  rotate_left
  · have es : ∀ ks, ckM ep n size pgs ks D = D.flu := fun ks => bindD_no e1
    rw [es]
    refine ev_I rfl (ev_if (ne_bne e1) (ev_ret ⟨rfl, fun h0 => absurd h0 e1, fun _ => ⟨w2, Has.sw (dkH d g w2 D.flu.2) [_, _, _] h2⟩⟩))
  have es : ∀ ks, ckM ep n size pgs ks D = bindD (seqW (hW size pgs ks) D.flu.2) fun D => bindD D.flu fun D => swM ep n size D := fun ks => bindD_ok e1
  rw [es]
  clear es
  generalize D.flu = r1 at e1 h2 hD2 ⊢
  refine ev_I rfl (ev_else (eq_bne e1) ?_)
  refine ev_ldA (h2.drop _) 0 rfl rfl (ev_A rfl ?_)
  refine ev_call (φ := fun v sg' => ∃ q, v = .clo 331 [] [.gp q 0] ∧ Has sg' ((q, .mk [.gm m]) :: (dkH d g w2 r1.2 ++ ((s, stB d size p n m jv wt) :: (p, pgB pgs) :: (m, .map (emb tV l)) :: R)))) ?_ rfl ?_
  · refine ev_of ((t244 ..).trans (maps_Keys_map_intbool_int_bool.main ..)) ?_
    exact ev_A rfl (ev_ret ⟨_, rfl, h2.new _⟩)
  rintro _ sg3 ⟨q0, rfl, h3⟩
  refine ev_A rfl ?_
  have h3' := Has.rot (A := dkH d g w2 r1.2) h3
  have hkl : l.length ≤ n := hfr.len
  have h3'' : Has sg3 (((q0, .mk [.gm m]) :: (s, stB d size p n m jv wt) :: (p, pgB pgs) :: (m, .map (emb tV l)) :: R) ++ (dkH d g w2 r1.2 ++ [])) := by
    have := h3'.perm (List.perm_append_comm (l₁ := dkH d g w2 r1.2))
    rw [List.append_nil]
    exact this
  refine ev_call (sorted_ok (i := 0) (i' := 3) h3'' rfl rfl rfl (fun x hx => by have := hfr.rg x hx; omega) (by omega)) rfl ?_
  rintro _ sg4 ⟨q, rfl, h4⟩
  have hks : ∀ x : Int, x ∈ sortI (l.map (·.1)) → 0 ≤ x ∧ x < (n : Int) := fun x hx => hfr.rg x ((sortI_pm _).mem_iff.1 hx)
  have hkn : (sortI (l.map (·.1))).length ≤ n := by rw [(sortI_pm _).length_eq, List.length_map]; exact hkl
  generalize sortI (l.map (·.1)) = ks at h4 hks hkn ⊢
  refine ev_O (kV_len q ks) ?_
  have h5 : Has sg4 (dkH d g w2 r1.2 ++ (kH q ks ++ ((s, stB d size p n m jv wt) :: (p, pgB pgs) :: (m, .map (emb tV l)) :: R))) := by
    have h6 : Has sg4 (kH q ks ++ (((s, stB d size p n m jv wt) :: (p, pgB pgs) :: (m, .map (emb tV l)) :: R) ++ dkH d g w2 r1.2)) := by
      rw [List.append_nil] at h4
      exact h4.sub (List.Sublist.append (List.Sublist.refl _) (List.Sublist.append (.cons _ (List.Sublist.refl _)) (List.Sublist.refl _)))
    rw [← List.append_assoc] at h6
    exact h6.perm List.perm_append_comm
  have hlen : ∀ l' : List Int, (hW size pgs l').length = l'.length := fun l' => List.length_map ..
  refine ev_loop ks.length (fun i st => ∃ sg' w' D', st = mkS [0, 1, 26, 27, 28] [.v (.gp s 0) false, .v (vU ep) false, .v (kV q ks) false, .v (vI ks.length) false, .v (vI i) false] [none, none, none, none, none] (.sg sg') ∧
    DOk (1 + size + n) (k + i) D' ∧ seqW (hW size pgs (ks.drop i)) D' = seqW (hW size pgs ks) r1.2 ∧ Has sg' (dkH d g w' D' ++ (kH q ks ++ ((s, stB d size p n m jv wt) :: (p, pgB pgs) :: (m, .map (emb tV l)) :: R)))) (by omega) ⟨_, w2, r1.2, rfl, hD2, rfl, h5⟩ ?_
  rintro i st K hi ⟨sg5, w5, D5, rfl, hD5, hseq, h7⟩ hnext hexit hret
  refine ev_of (pages_Store_checkpoint.r0 ..) ?_
  refine ev_ite (fun hlt => ?_) (fun hge => ?_)
  · have hlt : i < ks.length := by simpa using hlt
    have hx := hks ks[i] (List.getElem_mem hlt)
    have hki : (ks.map vI)[0 + ((i : Nat) : Int).toNat * 1]? = some (vI ks[i]) := by simp [List.getElem?_eq_getElem hlt]
    have hdr : ks.drop i = ks[i] :: ks.drop (i + 1) := List.drop_eq_getElem_cons hlt
    rw [hdr] at hseq
    generalize hxe : ks[i] = x at hx hki hseq
    obtain ⟨a, rfl⟩ : ∃ a : Nat, x = a := ⟨x.toNat, by omega⟩
    have ha : a < n := by omega
    have hga : pgs.getD a [] = pgs[a]'(by omega) := by rw [List.getD_eq_getElem?_getD, List.getElem?_eq_getElem (show a < pgs.length by omega)]; rfl
    have hpg : ((pgs.map tx).map vS)[0 + ((a : Nat) : Int).toNat * 1]? = some (vS (tx (pgs.getD a []))) := by
      rw [hga]
      simp [List.getElem?_eq_getElem (show a < pgs.length by omega)]
    have hpz : (pgs.getD a []).length = 480 := by rw [hga]; exact hsz _ (List.getElem_mem _)
    have hseq' : seqW ((1 + size + a, homeL a (pgs.getD a [])) :: hW size pgs (ks.drop (i + 1))) D5 = seqW (hW size pgs ks) r1.2 := hseq
    cases ks with
    | nil => simp at hlt
    | cons y ys =>
      have h8 := h7.drop (dkH d g w5 D5)
      refine ev_elem (by omega) (Int.ofNat_lt.2 hlt) ?_
      refine ev_ldI h8 0 rfl hki ?_
      refine ev_ldA h8 1 rfl rfl ?_
      refine ev_elem (by omega) (Int.ofNat_lt.2 ha) ?_
      refine ev_ldS h8 2 rfl hpg ?_
      refine ev_call (home_eq (p := a) (by omega) hpz (by omega)) rfl ?_
      rintro _ _ rfl
      refine ev_T (ev_bif rfl (ev_S rfl (ev_I rfl (ev_else (by decide) ?_))))
      refine ev_ldA h8 1 rfl rfl ?_
      refine ev_call (shome_ok (i := 1) h8 rfl hs2 (by omega)) rfl ?_
      rintro _ _ ⟨rfl, rfl⟩
      refine ev_I rfl (ev_A rfl ?_)
      refine ev_call (write_eq h7 hD5 (by omega) (homeL_len (by omega) hpz) (by omega)) rfl ?_
      rintro _ sg6 ⟨rfl, w6, h9⟩
      refine ev_I rfl ?_
      cases hst : D5.stop with
      | true =>
        rw [stop_wrt hst] at h9 ⊢
        have hq : seqW (hW size pgs (y :: ys)) r1.2 = (17, D5.fail) := by rw [← hseq']; exact seqW_stop hst
        refine ev_if (show ((17 : Int) != 0) = true by decide) (hret _ ?_)
        rw [hq, bindD_no (show (17, D5.fail).1 ≠ (0 : Int) from (by decide : (17 : Int) ≠ 0))]
        refine ev_of (pages_Store_checkpoint.k0_1 ..) (ev_ret ⟨rfl, fun h0 => absurd h0 (by decide : (17 : Int) ≠ 0), fun _ => ⟨w6, ?_⟩⟩)
        exact Has.sw (dkH d g w6 D5.fail) [_, _, _] (h9.sub (List.Sublist.append (List.Sublist.refl _) (List.sublist_append_right _ _)))
      | false =>
        rw [go_wrt hst] at h9 ⊢
        refine ev_else (show ¬ ((0 : Int) != 0) = true by decide) ?_
        rw [i64_nat (by omega)]
        refine hnext _ hlt ⟨sg6, w6, _, rfl, (hD5.write (i := 1 + size + a) (by omega)).mono (by omega), ?_, h9⟩
        rw [← hseq']
        exact (seqW_go (p := (1 + size + a, homeL a (pgs.getD a []))) hst).symm
  · have hge : i = ks.length := by
      have : ks.length ≤ i := by simpa using hge
      omega
    subst hge
    rw [List.drop_length] at hseq
    have hq : seqW (hW size pgs ks) r1.2 = (0, D5) := hseq.symm
    refine hexit _ _ ?_
    rw [hq, bindD_ok (show ((0 : Int), D5).1 = 0 from rfl)]
    refine ev_of (pages_Store_checkpoint.k0_2 ..) ?_
    have h8 : Has sg5 (dkH d g w5 D5 ++ ((s, stB d size p n m jv wt) :: (p, pgB pgs) :: (m, .map (emb tV l)) :: R)) :=
      h7.sub (List.Sublist.append (List.Sublist.refl _) (List.sublist_append_right _ _))
    refine ev_ldA (h8.drop _) 0 rfl rfl (ev_A rfl ?_)
    refine ev_call (flush_eq h8 hD5 (by omega) hN) rfl ?_
    rintro _ sg6 ⟨rfl, w6, h9⟩
    have hD6 := hD5.flu
    show Ev _ (Rt fun v sg' => v = vI (bindD D5.flu fun D => swM ep n size D).1 ∧ ((bindD D5.flu fun D => swM ep n size D).1 = 0 → ∃ j w', Has sg' ((s, stB d size p n m (.gp j 0) 0) :: (p, pgB pgs) :: (m, .map (emb tV [])) :: (j, jnB d size ep 0 0) :: (dkH d g w' (bindD D5.flu fun D => swM ep n size D).2 ++ R))) ∧
      ((bindD D5.flu fun D => swM ep n size D).1 ≠ 0 → ∃ w', Has sg' ((s, stB d size p n m jv wt) :: (p, pgB pgs) :: (m, .map (emb tV l)) :: (dkH d g w' (bindD D5.flu fun D => swM ep n size D).2 ++ R))))
    by_cases e2 : D5.flu.1 = 0
    rotate_left
    · rw [bindD_no e2]
      refine ev_I rfl (ev_if (ne_bne e2) (ev_ret ⟨rfl, fun h0 => absurd h0 e2, fun _ => ⟨w6, Has.sw (dkH d g w6 D5.flu.2) [_, _, _] h9⟩⟩))
    rw [bindD_ok e2]
    generalize D5.flu = r2 at e2 h9 hD6 ⊢
    refine ev_I rfl (ev_else (eq_bne e2) ?_)
    refine ev_call (swrite_eq (ep := ep) h9.tor hD6 he hn2 hs1 hs2 (by omega) hN) rfl ?_
    rintro _ sg7 ⟨rfl, ho, hx⟩
    by_cases e3 : (swM ep n size r2.2).1 = 0
    · obtain ⟨j', w7, h10⟩ := ho e3
      generalize swM ep n size r2.2 = r3 at e3 h10 ⊢
      refine ev_I rfl (ev_else (eq_bne e3) ?_)
      refine ev_ldA h10 0 rfl rfl (ev_A rfl ?_)
      have h11 : Has sg7 ((s, stB d size p n m (.gp j' 0) wt) :: ([(p, pgB pgs), (m, .map (emb tV l))] ++ (((j', jnB d size ep 0 0) :: dkH d g w7 r3.2) ++ R))) :=
        Has.perm (L := (s, stB d size p n m (.gp j' 0) wt) :: (((j', jnB d size ep 0 0) :: dkH d g w7 r3.2) ++ ([(p, pgB pgs), (m, .map (emb tV l))] ++ R))) h10 ((List.perm_append_comm_assoc _ _ _).cons _)
      refine ev_map h11 2 rfl ?_
      refine ev_st (h11.put (n := 2) (.map []) rfl) 0 rfl rfl (Nat.le_of_ble_eq_true rfl) (Nat.succ_pos _) fun sg8 h12 => ?_
      refine ev_ret ⟨by rw [e3], fun _ => ⟨j', w7, h12⟩, fun hne => absurd e3 hne⟩
    · obtain ⟨w7, h10⟩ := hx e3
      generalize swM ep n size r2.2 = r3 at e3 h10 ⊢
      refine ev_I rfl (ev_if (ne_bne e3) (ev_ret ⟨rfl, fun h0 => absurd h0 e3, fun _ => ⟨w7, ?_⟩⟩))
      have h11 : Has sg7 ((s, stB d size p n m jv wt) :: ([(p, pgB pgs), (m, .map (emb tV l))] ++ (dkH d g w7 r3.2 ++ R))) :=
        Has.perm (L := (s, stB d size p n m jv wt) :: (dkH d g w7 r3.2 ++ ([(p, pgB pgs), (m, .map (emb tV l))] ++ R))) h10 ((List.perm_append_comm_assoc _ _ _).cons _)
      exact h11
end Go.Abs
namespace Go.Abs
open Go
set_option linter.unusedVariables false
set_option maxRecDepth 100000
/-- A store: how many pages, how many sectors the journal has, the pages, which are fresh, the journal's epoch, where it goes on, how many transactions it has, how many wait; the disk. -/
structure APg where
  n : Nat
  size : Nat
  pgs : List (List UInt8)
  fr : List (Int × Unit)
  ep : Nat
  pos : Nat
  num : Nat
  wt : Nat
  D : ADisk
def StE (s d g : Nat) (S : APg) (A : Hp) : Prop := ∃ p m j w, A = (s, stB d S.size p S.n m (.gp j 0) S.wt) :: (p, pgB S.pgs) :: (m, .map (emb tV S.fr)) :: (j, jnB d S.size S.ep S.pos S.num) :: dkH d g w S.D
/-- At most k writes wait, the epoch is below e. -/
structure SOk (k e : Nat) (S : APg) : Prop where
  dk : DOk (1 + S.size + S.n) k S.D
  len : S.pgs.length = S.n
  fr : FrOk S.n S.fr
  sz : ∀ t, t ∈ S.pgs → t.length = 480
  n1 : 8 ≤ S.n
  n2 : S.n ≤ 3840
  s1 : 4 ≤ S.size
  s2 : S.size ≤ 1024
  pos : S.pos ≤ S.size
  num : S.num ≤ S.pos
  ep : S.ep < e
  wt : S.wt ≤ S.num
variable {N dp : Nat} {sg : Sg} {s d g k e : Nat} {S : APg} {A R : Hp}
def ckptM (S : APg) : Int × APg :=
  if (ckM (S.ep + 1) S.n S.size S.pgs (sortI (S.fr.map (·.1))) S.D).1 = 0 then
    (0, { S with D := (ckM (S.ep + 1) S.n S.size S.pgs (sortI (S.fr.map (·.1))) S.D).2, fr := [], ep := S.ep + 1, pos := 0, num := 0, wt := 0 })
  else ((ckM (S.ep + 1) S.n S.size S.pgs (sortI (S.fr.map (·.1))) S.D).1, { S with D := (ckM (S.ep + 1) S.n S.size S.pgs (sortI (S.fr.map (·.1))) S.D).2 })
theorem ckpt_eq (hA : StE s d g S A) (hS : SOk k e S) (h : Has sg (A ++ R)) (hk : k ≤ 10000) (he : e < 2 ^ 63) (hN : 1000000 < N) :
    Ev (tab N (dp + 6) 138 [.gp s 0, vU (S.ep + 1 : Nat)] sg) (Rt fun v sg' => v = vI (ckptM S).1 ∧ ∃ A', StE s d g (ckptM S).2 A' ∧ Has sg' (A' ++ R)) := by
  obtain ⟨p, m, j, w, rfl⟩ := hA
  have hep := hS.ep
  have h1 : Has sg ((s, stB d S.size p S.n m (.gp j 0) S.wt) :: (p, pgB S.pgs) :: (m, .map (emb tV S.fr)) :: (dkH d g w S.D ++ ((j, jnB d S.size S.ep S.pos S.num) :: R))) :=
    h.perm (((List.perm_middle.symm.cons _).cons _).cons _)
  refine (checkpoint_eq (ep := S.ep + 1) h1 hS.dk hk hS.len hS.fr hS.sz (by omega) hS.n1 hS.n2 hS.s1 hS.s2 hN).imt ?_
  rintro v sg' ⟨rfl, ho, hx⟩
  by_cases e0 : (ckM (S.ep + 1) S.n S.size S.pgs (sortI (S.fr.map (·.1))) S.D).1 = 0
  · obtain ⟨j', w', h2⟩ := ho e0
    have ec : ckptM S = _ := if_pos e0
    rw [ec]
    refine ⟨by rw [e0], _, ⟨p, m, j', w', rfl⟩, ?_⟩
    have h3 := h2.perm (M := (s, stB d S.size p S.n m (.gp j' 0) 0) :: (p, pgB S.pgs) :: (m, .map (emb tV [])) :: (j', jnB d S.size (S.ep + 1 : Nat) 0 0) :: (j, jnB d S.size S.ep S.pos S.num) :: (dkH d g w' (ckM (S.ep + 1) S.n S.size S.pgs (sortI (S.fr.map (·.1))) S.D).2 ++ R))
      ((((List.perm_middle.cons _).cons _).cons _).cons _)
    exact h3.sub (.cons_cons _ (.cons_cons _ (.cons_cons _ (.cons_cons _ (.cons _ (List.Sublist.refl _))))))
  · obtain ⟨w', h2⟩ := hx e0
    have ec : ckptM S = _ := if_neg e0
    rw [ec]
    refine ⟨rfl, _, ⟨p, m, j, w', rfl⟩, ?_⟩
    exact h2.perm (((List.perm_middle.cons _).cons _).cons _)
theorem may_eq (hA : StE s d g S A) (h : Has sg (A ++ R)) : Ev (tab N (dp + 2) 144 [.gp s 0] sg) (Rt fun v sg' => v = vI (if S.D.down then 17 else 0) ∧ sg' = sg) := by
  obtain ⟨p, m, j, w, rfl⟩ := hA
  refine ev_of ((t144 ..).trans (pages_Store_may.main ..)) (ev_else (by decide) ?_)
  refine ev_ldA h 0 rfl rfl (ev_A rfl ?_)
  refine ev_call (down_ok (Has.sw [_, _, _, _] (dkH d g w S.D) h)) rfl ?_
  rintro _ _ ⟨rfl, rfl⟩
  cases hd : S.D.down with
  | true => exact ev_B rfl (ev_if rfl (ev_ret ⟨rfl, rfl⟩))
  | false => exact ev_B rfl (ev_else (by decide) (ev_ret ⟨rfl, rfl⟩))
def flushM (S : APg) : Int × APg := if S.D.down then (17, S) else if S.wt = 0 then (0, S) else if S.D.flu.1 = 0 then (0, { S with D := S.D.flu.2, wt := 0 }) else (S.D.flu.1, { S with D := S.D.flu.2 })
theorem sflush_eq (hA : StE s d g S A) (hS : SOk k e S) (h : Has sg (A ++ R)) (hk : k ≤ 10000) (hN : 1000000 < N) :
    Ev (tab N (dp + 4) 33 [.gp s 0] sg) (Rt fun v sg' => v = vI (flushM S).1 ∧ ∃ A', StE s d g (flushM S).2 A' ∧ Has sg' (A' ++ R)) := by
  refine ev_of ((t33 ..).trans (pages_Store_Flush.main ..)) ?_
  refine ev_call (may_eq hA h) rfl ?_
  rintro _ _ ⟨rfl, rfl⟩
  unfold flushM
  cases hd : S.D.down with
  | true => exact ev_I rfl (ev_else (by decide) (ev_ret ⟨rfl, A, hA, h⟩))
  | false =>
    simp only [Bool.false_eq_true, if_false]
    have hA0 := hA
    obtain ⟨p, m, j, w, rfl⟩ := hA
    refine ev_I rfl (ev_if rfl ?_)
    refine ev_ldI h 0 rfl rfl (ev_ite (fun h0 => ?_) (fun h0 => ?_))
    · have h0 : S.wt = 0 := by simpa using h0
      rw [if_pos h0]
      exact ev_ret ⟨rfl, _, hA0, h⟩
    · have h0 : ¬ S.wt = 0 := by simpa using h0
      rw [if_neg h0]
      refine ev_ldA h 0 rfl rfl (ev_A rfl ?_)
      refine ev_call (flush_eq (Has.sw [_, _, _, _] (dkH d g w S.D) h) hS.dk (by omega) hN) rfl ?_
      rintro _ sg2 ⟨rfl, w2, h2⟩
      replace h2 := Has.sw (dkH d g w2 S.D.flu.2) [_, _, _, _] h2
      by_cases e0 : S.D.flu.1 = 0
      · rw [if_pos e0]
        refine ev_I rfl (ev_if (by simp [e0]) ?_)
        refine ev_st h2 0 rfl rfl (Nat.le_of_ble_eq_true rfl) (Nat.succ_pos _) fun sg3 h3 => ?_
        exact ev_ret ⟨by rw [e0], _, ⟨p, m, j, w2, rfl⟩, h3⟩
      · rw [if_neg e0]
        refine ev_I rfl (ev_else (by simp [e0]) (ev_ret ⟨rfl, _, ⟨p, m, j, w2, rfl⟩, h2⟩))
def CheckpointM (S : APg) : Int × APg := if S.D.down then (17, S) else if S.num = 0 then (0, S) else ckptM S
theorem scheckpoint_eq (hA : StE s d g S A) (hS : SOk k e S) (h : Has sg (A ++ R)) (hk : k ≤ 10000) (he : e < 2 ^ 63) (hN : 1000000 < N) :
    Ev (tab N (dp + 7) 34 [.gp s 0] sg) (Rt fun v sg' => v = vI (CheckpointM S).1 ∧ ∃ A', StE s d g (CheckpointM S).2 A' ∧ Has sg' (A' ++ R)) := by
  refine ev_of ((t34 ..).trans (pages_Store_Checkpoint.main ..)) ?_
  refine ev_call (may_eq hA h) rfl ?_
  rintro _ sg1 ⟨rfl, rfl⟩
  unfold CheckpointM
  cases hd : S.D.down with
  | true => exact ev_I rfl (ev_else (by decide) (ev_ret ⟨rfl, A, hA, h⟩))
  | false =>
    simp only [Bool.false_eq_true, if_false]
    have hA0 := hA
    obtain ⟨p, m, j, w, rfl⟩ := hA
    refine ev_I rfl (ev_if rfl ?_)
    refine ev_ldA h 0 rfl rfl (ev_A rfl ?_)
    refine ev_call (φ := fun v sg' => v = vU S.num ∧ sg' = sg1) ?_ rfl ?_
    · refine ev_of ((t145 ..).trans (journal_Journal_Number.main ..)) (ev_else (by decide) ?_)
      exact ev_ldI h 3 rfl rfl (ev_ret ⟨rfl, rfl⟩)
    rintro _ _ ⟨rfl, rfl⟩
    refine ev_I rfl (ev_ite (fun h0 => ?_) (fun h0 => ?_))
    · have h0 : S.num = 0 := by simpa using h0
      rw [if_pos h0]
      exact ev_ret ⟨rfl, _, hA0, h⟩
    · have h0 : ¬ S.num = 0 := by simpa using h0
      rw [if_neg h0]
      refine ev_call (stepoch_ok (i := 0) (i2 := 3) h rfl rfl) rfl ?_
      rintro _ _ ⟨rfl, rfl⟩
      have hep := hS.ep
      have e1 : IntKind.u64.wrap ((S.ep : Int) + 1) = ((S.ep + 1 : Nat) : Int) := by
        rw [Go.IntWalk.u64_in _ (by omega)]; omega
      refine ev_I rfl ?_
      rw [e1]
      refine ev_call (ckpt_eq hA0 hS h hk he hN) rfl ?_
      rintro _ sg2 ⟨rfl, A2, hA2, h2⟩
      exact ev_I rfl (ev_ret ⟨rfl, A2, hA2, h2⟩)
end Go.Abs
namespace Go.Abs
open Go
set_option linter.unusedVariables false
set_option maxRecDepth 100000
def insAll (l : List (Int × ByteArray)) (f : List (Int × Unit)) : List (Int × Unit) := l.foldl (fun f p => insM p.1 () f) f
theorem insAll_snoc (l : List (Int × ByteArray)) (x : Int × ByteArray) (f : List (Int × Unit)) : insAll (l ++ [x]) f = insM x.1 () (insAll l f) := by simp [insAll]
section
variable {N dp : Nat} {sg : Sg} {s d p m n k size at_ : Nat} {jv : AVal} {wt ep : Int} {A R L H : Hp} {pgs : List ByteArray} {l : List (Int × ByteArray)} {a1 : AVal}
theorem change_eq {lf : List (Int × Unit)} (hI : ImH a1 l H) (hH : ∀ q, q ∈ H → q ∈ R) (h : Has sg ((s, stB d size p n m jv wt) :: (p, .mk (pgs.map vS)) :: (m, .map (emb tV lf)) :: R)) (hpl : pgs.length = n) (hfr : FrOk n lf) (hl : ImOk n l) (hN : l.length < N) (hlen : l.length ≤ 100000) :
    Ev (tab N (dp + 1) 143 [.gp s 0, a1] sg) (Rt fun v sg' => Has sg' ((s, stB d size p n m jv wt) :: (p, .mk ((setIm l pgs).map vS)) :: (m, .map (emb tV (insAll l lf))) :: R)) := by
  refine ev_of ((t143 ..).trans (pages_Store_change.main ..)) ?_
  refine ev_O hI.len ?_
  refine ev_loop l.length (fun i st => ∃ sg', st = mkS [0, 6, 7, 8] [.v (.gp s 0) false, .v a1 false, .v (vI l.length) false, .v (vI i) false] [none, none, none, none] (.sg sg') ∧
    Has sg' ((s, stB d size p n m jv wt) :: (p, .mk ((setIm (l.take i) pgs).map vS)) :: (m, .map (emb tV (insAll (l.take i) lf))) :: R)) hN ⟨_, rfl, h⟩ ?_
  rintro i st K hi ⟨sg1, rfl, h1⟩ hnext hexit hret
  refine ev_of (pages_Store_change.r0 ..) ?_
  refine ev_ite (fun hlt => ?_) (fun hge => ?_)
  · have hlt : i < l.length := by simpa using hlt
    have hx := hl.rg l[i] (List.getElem_mem hlt)
    have e0 : setIm (l.take (i + 1)) pgs = (setIm (l.take i) pgs).set l[i].1.toNat l[i].2 := by
      rw [List.take_add_one, List.getElem?_eq_getElem hlt]; exact setIm_snoc ..
    have e9 : insAll (l.take (i + 1)) lf = insM l[i].1 () (insAll (l.take i) lf) := by
      rw [List.take_add_one, List.getElem?_eq_getElem hlt]; exact insAll_snoc ..
    refine ev_im hI h1 (fun q hq => by simp [hH q hq]) hlt (ev_bif rfl (ev_L ?_))
    generalize l[i] = x at hx e0 e9
    obtain ⟨a, t⟩ := x
    obtain ⟨⟨hx1, hx2⟩, hx3⟩ := hx
    simp only at hx1 hx2 hx3 e0 e9
    obtain ⟨a, rfl⟩ : ∃ a' : Nat, a = a' := ⟨a.toNat, by omega⟩
    refine ev_ldA h1 0 rfl rfl (ev_I rfl (ev_S rfl ?_))
    refine ev_elem (by omega) hx2 ?_
    have hlen1 : a < (setIm (l.take i) pgs).length := by rw [setIm_len]; omega
    refine ev_st h1 1 rfl rfl ?_ ?_ fun sg2 h2 => ?_
    · show 0 + ((a : Nat) : Int).toNat * 1 + 1 ≤ ((setIm (l.take i) pgs).map vS).length
      rw [List.length_map]; simp; omega
    · show 0 < ((setIm (l.take i) pgs).map vS).length
      rw [List.length_map]; omega
    replace h2 : Has sg2 ((s, stB d size p n m jv wt) :: (p, .mk (splice ((setIm (l.take i) pgs).map vS) (0 + ((a : Nat) : Int).toNat * 1) (vS t).cells)) :: (m, .map (emb tV (insAll (l.take i) lf))) :: R) := h2
    rw [splice_map vS rfl hlen1] at h2
    refine ev_ldA h2 0 rfl rfl (ev_I rfl (ev_A rfl ?_))
    refine ev_map h2 2 rfl ?_
    refine ev_O (mSet_emb tV _ () _) ?_
    rw [i64_nat (by omega)]
    refine hnext _ hlt ⟨_, rfl, ?_⟩
    have h3 := h2.put (n := 2) (.map (emb tV (insM a () (insAll (l.take i) lf)))) rfl
    rw [e0, e9]
    exact h3
  · have hge : i = l.length := by
      have : l.length ≤ i := by simpa using hge
      omega
    subst hge
    refine hexit _ _ ?_
    rw [List.take_length] at h1
    exact ev_of (pages_Store_change.k0_1 ..) (ev_ret h1)
end
def setPg (l : List AIm) (pgs : List (List UInt8)) : List (List UInt8) := l.foldl (fun s p => s.set p.1 p.2) pgs
theorem setIm_tx : ∀ (l : List AIm) (pgs : List (List UInt8)), setIm (imL l) (pgs.map tx) = (setPg l pgs).map tx
  | [], _ => rfl
  | x :: l, pgs => by
    show setIm (imL l) ((pgs.map tx).set ((x.1 : Int)).toNat (tx x.2)) = (setPg l (pgs.set x.1 x.2)).map tx
    rw [← setIm_tx l, List.map_set]
    rfl
variable {N dp : Nat} {sg : Sg} {s d g k e : Nat} {S : APg} {A R H : Hp} {l : List AIm} {a1 : AVal}
/-- A transaction that is appended, and the pages after it. -/
def appM (l : List AIm) (S : APg) : Int × APg :=
  if (seqW (txW S.ep S.pos S.num l) S.D).1 = 0 then
    (0, { S with D := (seqW (txW S.ep S.pos S.num l) S.D).2, pos := S.pos + l.length + 1, num := S.num + 1, pgs := setPg l S.pgs, fr := insAll (imL l) S.fr, wt := S.wt + 1 })
  else ((seqW (txW S.ep S.pos S.num l) S.D).1, { S with D := (seqW (txW S.ep S.pos S.num l) S.D).2 })
theorem ctail_eq (hI : ImH a1 (imL l) H) (hH : ∀ q, q ∈ H → q ∈ R) (hA : StE s d g S A) (hS : SOk k e S) (h : Has sg (A ++ R)) (hl : AImOk S.n l) (hne : l ≠ []) (hroom : S.pos + l.length < S.size) (hk : k ≤ 10000) (he : e < 2 ^ 63) (hN : 1000000 < N) :
    Ev (cmtTail (tab N (dp + 5)) s a1 sg) (Rt fun v sg' => v = vI (appM l S).1 ∧ ∃ A', StE s d g (appM l S).2 A' ∧ Has sg' (A' ++ R)) := by
  obtain ⟨p, m, j, w, rfl⟩ := hA
  obtain ⟨hD, hpl, hfr, hsz, hn1, hn2, hs1, hs2, hpos, hnum, hep, hwt⟩ := hS
  unfold cmtTail
  refine ev_ldA h 0 rfl rfl (ev_A rfl (ev_A hI.plain ?_))
  have h1 : Has sg ([(s, stB d S.size p S.n m (.gp j 0) S.wt), (p, pgB S.pgs), (m, .map (emb tV S.fr))] ++ (((j, jnB d S.size S.ep S.pos S.num) :: dkH d g w S.D) ++ R)) := h
  have hl2 : AImOk 3840 l := ⟨hl.nd, fun q hq => ⟨by have := (hl.rg q hq).1; omega, (hl.rg q hq).2⟩⟩
  refine ev_call (append_eq hI (h1.sw _ ((j, jnB d S.size S.ep S.pos S.num) :: dkH d g w S.D)) hD hl2 hne hroom hs2 (by omega) (by omega) (by omega) (by omega) (by omega) (by omega) (fun q hq => by simp [hH q hq])) rfl ?_
  rintro _ sg2 ⟨rfl, w2, h2⟩
  replace h2 := Has.sw ((j, jnB d S.size S.ep _ _) :: dkH d g w2 _) [_, _, _] h2
  unfold appM
  by_cases e0 : (seqW (txW S.ep S.pos S.num l) S.D).1 = 0
  · rw [if_pos e0]
    rw [if_pos e0, if_pos e0] at h2
    generalize seqW (txW S.ep S.pos S.num l) S.D = r at e0 h2 ⊢
    refine ev_I rfl (ev_else (eq_bne e0) (ev_A hI.plain ?_))
    refine ev_call (change_eq (R := ((j, jnB d S.size S.ep (S.pos + l.length + 1) (S.num + 1 : Nat)) :: dkH d g w2 r.2) ++ R) hI (fun q hq => by simp [hH q hq]) h2 (by rw [List.length_map]; exact hpl) hfr hl.im (by rw [imL_len]; omega) (by rw [imL_len]; omega)) rfl ?_
    rintro _ sg3 h3
    rw [setIm_tx] at h3
    refine ev_ldI h3 0 rfl rfl ?_
    refine ev_st h3 0 rfl rfl (Nat.le_of_ble_eq_true rfl) (Nat.succ_pos _) fun sg4 h4 => ?_
    refine ev_ret ⟨rfl, _, ⟨p, m, j, w2, rfl⟩, ?_⟩
    rw [i64_nat (by omega)] at h4
    exact h4
  · rw [if_neg e0]
    rw [if_neg e0, if_neg e0] at h2
    refine ev_I rfl (ev_if (ne_bne e0) (ev_ret ⟨rfl, _, ⟨p, m, j, w2, rfl⟩, h2⟩))
end Go.Abs
namespace Go.Abs
open Go
set_option linter.unusedVariables false
set_option maxRecDepth 100000
theorem bindD_zero {r : Int × ADisk} {f : ADisk → Int × ADisk} (h : (bindD r f).1 = 0) : r.1 = 0 ∧ bindD r f = f r.2 := by
  by_cases e : r.1 = 0
  · exact ⟨e, bindD_ok e⟩
  · rw [bindD_no e] at h; exact absurd h e
theorem flu_zero {n k : Nat} {D : ADisk} (h : DOk n k D) (e : D.flu.1 = 0) : DOk n 0 D.flu.2 := by
  unfold ADisk.flu at e ⊢
  cases hst : D.stop with
  | true => rw [hst] at e; exact absurd e (by decide : (17 : Int) ≠ 0)
  | false => exact ⟨(appl_len _ _).trans h.len, fun p hp => (by cases hp), Nat.zero_le _⟩
theorem swM_zero {ep n size k m : Nat} {D : ADisk} (h : DOk m k D) (hm : 0 < m) (e : (swM ep n size D).1 = 0) : DOk m 0 (swM ep n size D).2 := by
  obtain ⟨e1, e2⟩ := bindD_zero e
  have e' : (bindD (D.wrt 0 (headS ep n size).simg) fun D => D.flu).1 = 0 := e
  rw [e2] at e'
  unfold swM
  rw [e2]
  exact flu_zero (h.wrt hm) e'
theorem hW_rg {size n : Nat} {pgs : List (List UInt8)} {ks : List Int} (h : ∀ x : Int, x ∈ ks → 0 ≤ x ∧ x < (n : Int)) : ∀ q, q ∈ hW size pgs ks → q.1 < 1 + size + n := fun q hq => by
  obtain ⟨x, hx, rfl⟩ := List.mem_map.1 hq
  have := h x hx
  show 1 + size + x.toNat < _
  omega
theorem ckM_zero {ep n size k : Nat} {pgs : List (List UInt8)} {ks : List Int} {D : ADisk} (h : DOk (1 + size + n) k D) (hks : ∀ x : Int, x ∈ ks → 0 ≤ x ∧ x < (n : Int)) (e : (ckM ep n size pgs ks D).1 = 0) : DOk (1 + size + n) 0 (ckM ep n size pgs ks D).2 := by
  unfold ckM at e ⊢
  obtain ⟨e1, e2⟩ := bindD_zero e
  rw [e2] at e ⊢
  obtain ⟨e3, e4⟩ := bindD_zero e
  rw [e4] at e ⊢
  obtain ⟨e5, e6⟩ := bindD_zero e
  rw [e6] at e ⊢
  exact swM_zero ((DOk.seq h.flu (hW_rg hks)).flu) (by omega) e
variable {N dp : Nat} {sg : Sg} {s d g k e : Nat} {S : APg} {A R H : Hp} {l : List AIm} {a1 : AVal}
theorem ckptM_zero (hS : SOk k e S) (h : (ckptM S).1 = 0) : SOk 0 (e + 1) (ckptM S).2 ∧ (ckptM S).2.pos = 0 ∧ (ckptM S).2.size = S.size ∧ (ckptM S).2.n = S.n := by
  by_cases e0 : (ckM (S.ep + 1) S.n S.size S.pgs (sortI (S.fr.map (·.1))) S.D).1 = 0
  · have ec : ckptM S = _ := if_pos e0
    rw [ec]
    have hep := hS.ep
    exact ⟨⟨ckM_zero hS.dk (fun x hx => hS.fr.rg x ((sortI_pm _).mem_iff.1 hx)) e0, hS.len, ⟨by simp, by simp⟩, hS.sz, hS.n1, hS.n2, hS.s1, hS.s2, Nat.zero_le _, Nat.le_refl _, by show S.ep + 1 < e + 1; omega, Nat.le_refl _⟩, rfl, rfl, rfl⟩
  · have ec : ckptM S = _ := if_neg e0
    rw [ec] at h
    exact absurd h e0
def commitM (l : List AIm) (S : APg) : Int × APg :=
  if S.size ≤ l.length then (14, S) else if S.D.down then (17, S) else
  if S.size - S.pos ≤ l.length then (if (ckptM S).1 = 0 then appM l (ckptM S).2 else ckptM S) else appM l S
theorem commit_eq (hI : ImH a1 (imL l) H) (hH : ∀ q, q ∈ H → q ∈ R) (hA : StE s d g S A) (hS : SOk k e S) (h : Has sg (A ++ R)) (hl : AImOk S.n l) (hne : l ≠ []) (hk : k ≤ 5000) (he : e < 2 ^ 62) (hN : 1000000 < N) :
    Ev (tab N (dp + 7) 32 [.gp s 0, a1] sg) (Rt fun v sg' => v = vI (commitM l S).1 ∧ ∃ A', StE s d g (commitM l S).2 A' ∧ Has sg' (A' ++ R)) := by
  have hS0 := hS
  have hA0 := hA
  obtain ⟨hD, hpl, hfr, hsz, hn1, hn2, hs1, hs2, hpos, hnum, hep, hwt⟩ := hS
  obtain ⟨p, m, j, w, rfl⟩ := hA
  have hll : (imL l).length ≤ S.n := imOk_len hl.im
  rw [imL_len] at hll
  have hne' : imL l ≠ [] := fun e => hne (List.eq_nil_of_length_eq_zero (by rw [← imL_len, e]; rfl))
  refine ev_of ((t32 ..).trans (pages_Store_Commit.main ..)) (ev_if (by decide) (ev_A hI.plain ?_))
  refine ev_call (jcheck_ok hI hl.im hn2 hne' (by rw [imL_len]; omega) (by rw [imL_len]; omega) h (fun q hq => by simp [hH q hq])) rfl ?_
  rintro _ sg1 ⟨rfl, h1⟩
  refine ev_I rfl (ev_if rfl (ev_A hI.plain ?_))
  refine ev_call (sthas_ok (i := 0) hI (fun q hq => by simp [hH q hq]) h1 rfl hl.im (by rw [imL_len]; omega) (by rw [imL_len]; omega)) rfl ?_
  rintro _ sg2 ⟨rfl, h2⟩
  have eL := hI.len
  rw [imL_len] at eL
  refine ev_B rfl (ev_else (by decide) (ev_O eL ?_))
  unfold commitM
  refine ev_ldI h2 0 rfl rfl (ev_ite (fun hge => ?_) (fun hlt => ?_))
  · have hge : S.size ≤ l.length := by
      have : (S.size : Int) ≤ l.length := by simpa using hge
      omega
    rw [if_pos hge]
    exact ev_ret ⟨rfl, _, hA0, h2⟩
  · have hlt : ¬ S.size ≤ l.length := by
      have : ¬ (S.size : Int) ≤ l.length := by simpa using hlt
      omega
    rw [if_neg hlt]
    refine ev_ldA h2 0 rfl rfl (ev_A rfl ?_)
    refine ev_call (down_ok (h2.sw [_, _, _, _] (dkH d g w S.D))) rfl ?_
    rintro _ sg3 ⟨rfl, rfl⟩
    cases hd : S.D.down with
    | true => exact ev_B rfl (ev_if rfl (ev_ret ⟨rfl, _, hA0, h2⟩))
    | false =>
      simp only [Bool.false_eq_true, if_false]
      refine ev_B rfl (ev_else (by decide) (ev_O eL ?_))
      refine ev_call (stroom_ok (i := 0) (i2 := 3) h2 rfl rfl hpos hs2) rfl ?_
      rintro _ sg4 ⟨rfl, rfl⟩
      refine ev_I rfl (ev_ite (fun hr => ?_) (fun hr => ?_))
      · have hr : S.size - S.pos ≤ l.length := by
          have : ((S.size - S.pos : Nat) : Int) ≤ l.length := by simpa using hr
          omega
        rw [if_pos hr]
        refine ev_call (stepoch_ok (i := 0) (i2 := 3) h2 rfl rfl) rfl ?_
        rintro _ sg5 ⟨rfl, rfl⟩
        have e1 : IntKind.u64.wrap ((S.ep : Int) + 1) = ((S.ep + 1 : Nat) : Int) := by
          rw [Go.IntWalk.u64_in _ (by omega)]; omega
        refine ev_I rfl ?_
        rw [e1]
        refine ev_call (ckpt_eq hA0 hS0 h2 (by omega) (by omega) hN) rfl ?_
        rintro _ sg6 ⟨rfl, A6, hA6, h6⟩
        by_cases e0 : (ckptM S).1 = 0
        · rw [if_pos e0]
          obtain ⟨hS6, hp6, hz6, hn6⟩ := ckptM_zero hS0 e0
          refine ev_I rfl (ev_else (eq_bne e0) ?_)
          exact ctail_eq (dp := dp + 1) hI hH hA6 hS6 h6 (by rw [hn6]; exact hl) hne (by rw [hp6, hz6]; omega) (by omega) (by omega) hN
        · rw [if_neg e0]
          exact ev_I rfl (ev_if (ne_bne e0) (ev_ret ⟨rfl, A6, hA6, h6⟩))
      · have hr : ¬ S.size - S.pos ≤ l.length := by
          have : ¬ ((S.size - S.pos : Nat) : Int) ≤ l.length := by simpa using hr
          omega
        rw [if_neg hr]
        exact ctail_eq (dp := dp + 1) hI hH hA0 hS0 h2 hl hne (by omega) (by omega) (by omega) hN
end Go.Abs
