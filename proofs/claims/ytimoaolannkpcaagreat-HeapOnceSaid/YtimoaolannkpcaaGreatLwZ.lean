/- The law's function in a transaction. -/
import Derived.Test.YtimoaolannkpcaaGreatLwY
set_option linter.unusedVariables false
set_option linter.unusedSimpArgs false
set_option linter.unusedSectionVars false
namespace Go.Abs
open Go
set_option linter.unusedVariables false
set_option maxRecDepth 100000
def rcH (m3 m5 pm m6 mm m7 m0 : Nat) (t : PTxn) (n : Nat) (put : List (Int × ByteArray)) (met : List (Int × Unit)) : Hp :=
  [(m3, .mk (txnC t)), (m5, .mk [.gm pm]), (pm, .map (emb vS put)), (m6, .mk [.gm mm]), (mm, .map (emb tV met)), (m7, .mk [vB true]), (m0, .mk [vI n])]
variable {N dp : Nat} {sg : Sg} {h s n size m m3 m5 pm m6 mm m7 m0 : Nat} {A R R3 : Hp} {pgs : List ByteArray} {over put : List (Int × ByteArray)} {met : List (Int × Unit)} {t : PTxn}
theorem law_call (hav : LsV 4 t.av (t.acts.map actC)) (hA : St1 s n size pgs A) (hI : TxI n pgs over put met) (hl : t.acts.length ≤ 1000) (hN : 200000 < N)
    (hh : Has sg ((h, hpB s m) :: (m, .map (emb vS over)) :: (A ++ (rcH m3 m5 pm m6 mm m7 m0 t n put met ++ R3)))) :
    Ev (tab N (dp + 7) 19 [.gp h 0, .gp m3 0, .gp m5 0, .gp m7 0, .gp m6 0, .gp m0 0] sg) (Rp
      (fun _ sg2 => ∃ over R2, OvOk n over ∧ (∃ put met, TxI n pgs over put met ∧ R2 = rcH m3 m5 pm m6 mm m7 m0 t n put met ++ R3) ∧ Has sg2 ((h, hpB s m) :: (m, .map (emb vS over)) :: (A ++ R2)))
      (fun v sg2 => ∃ k R2, v = stopV k ∧ k ≠ 0 ∧ (∃ put met, R2 = rcH m3 m5 pm m6 mm m7 m0 t n put met ++ R3) ∧ Has sg2 (A ++ R2))) := by
  obtain ⟨f1, f2, f3, f4⟩ := hA.facts
  have swa : ∀ {sg' : Sg} {over put met}, Has sg' ((h, hpB s m) :: (m, .map (emb vS over)) :: (A ++ (rcH m3 m5 pm m6 mm m7 m0 t n put met ++ R3))) → Has sg' (rcH m3 m5 pm m6 mm m7 m0 t n put met ++ (((h, hpB s m) :: (m, .map (emb vS over)) :: A) ++ R3)) :=
    fun {sg' over put met} hx => Has.sw ((h, hpB s m) :: (m, .map (emb vS over)) :: A) (rcH m3 m5 pm m6 mm m7 m0 t n put met) hx
  have swb : ∀ {sg' : Sg} {over put met}, Has sg' (rcH m3 m5 pm m6 mm m7 m0 t n put met ++ (((h, hpB s m) :: (m, .map (emb vS over)) :: A) ++ R3)) → Has sg' ((h, hpB s m) :: (m, .map (emb vS over)) :: (A ++ (rcH m3 m5 pm m6 mm m7 m0 t n put met ++ R3))) :=
    fun {sg' over put met} hx => Has.sw (rcH m3 m5 pm m6 mm m7 m0 t n put met) ((h, hpB s m) :: (m, .map (emb vS over)) :: A) hx
  have pan : ∀ {k : Int} {sg' : Sg} {over put met}, k ≠ 0 → Has sg' ((h, hpB s m) :: (m, .map (emb vS over)) :: (A ++ (rcH m3 m5 pm m6 mm m7 m0 t n put met ++ R3))) → Ev (some (.pan (stopV k) sg')) (Rp
      (fun _ sg2 => ∃ over R2, OvOk n over ∧ (∃ put met, TxI n pgs over put met ∧ R2 = rcH m3 m5 pm m6 mm m7 m0 t n put met ++ R3) ∧ Has sg2 ((h, hpB s m) :: (m, .map (emb vS over)) :: (A ++ R2)))
      (fun v sg2 => ∃ k R2, v = stopV k ∧ k ≠ 0 ∧ (∃ put met, R2 = rcH m3 m5 pm m6 mm m7 m0 t n put met ++ R3) ∧ Has sg2 (A ++ R2))) :=
    fun {k sg' over put met} hk hx => ⟨_, rfl, k, _, rfl, hk, ⟨put, met, rfl⟩, hx.tail.tail⟩
  refine ev_of ((t19 ..).trans (law11_HeapOnce_1.main ..)) ?_
  refine ev_ldA (swa hh) 0 rfl rfl (ev_O (a := t.acts.length) (by rw [hav.len, List.length_map]) ?_)
  refine ev_loop t.acts.length (fun i st => ∃ sg' over put met, st = mkS [0, 2, 3, 4, 5, 11, 12, 13] [.v (.gp h 0) false, .v (.gp m5 0) false, .v (.gp m7 0) false, .v (.gp m6 0) false, .v (.gp m0 0) false, .v t.av false, .v (vI t.acts.length) false, .v (vI i) false]
    [none, none, none, none, none, none, none, none] (.sg sg') ∧ TxI n pgs over put met ∧ Has sg' ((h, hpB s m) :: (m, .map (emb vS over)) :: (A ++ (rcH m3 m5 pm m6 mm m7 m0 t n put met ++ R3)))) (by omega) ⟨sg, over, put, met, rfl, hI, hh⟩ ?_
  rintro i st K hi ⟨sg1, over, put, met, rfl, hT, h1⟩ hnext hexit hret
  have hb := cur_size (i := 1) hT.ov f1 f2 ⟨by omega, by omega⟩
  refine ev_of (law11_HeapOnce_1.r0 ..) ?_
  refine ev_ite (fun hlt => ?_) (fun hge => ?_)
  · have hlt : i < t.acts.length := by simpa using hlt
    have hw : IntKind.i64.wrap (((i : Nat) : Int) + 1) = ((i + 1 : Nat) : Int) := i64_nat (by omega)
    rw [hw]
    have hgo : ∀ {sg' : Sg} {over put met}, TxI n pgs over put met → Has sg' ((h, hpB s m) :: (m, .map (emb vS over)) :: (A ++ (rcH m3 m5 pm m6 mm m7 m0 t n put met ++ R3))) → Ev (K Ex.normal (mkS [0, 2, 3, 4, 5, 11, 12, 13] [.v (.gp h 0) false, .v (.gp m5 0) false, .v (.gp m7 0) false, .v (.gp m6 0) false, .v (.gp m0 0) false, .v t.av false, .v (vI t.acts.length) false, .v (vI (i + 1 : Nat)) false]
        [none, none, none, none, none, none, none, none] (.sg sg'))) _ := fun {sg' over put met} hT' hx => hnext _ hlt ⟨sg', over, put, met, rfl, hT', hx⟩
    have hact : (t.acts.map actC)[i]? = some (actC t.acts[i]) := by simp [List.getElem?_eq_getElem hlt]
    generalize t.acts[i] = a at hact
    refine ev_ls hav hact rfl (ev_bif rfl (ev_L2 (l' := [vI a.kind, vI a.num, v8 a.byte, vB a.short]) rfl (ev_I rfl ?_)))
    refine ev_ite (fun hk => ?_) (fun hk => ev_ite (fun hk2 => ?_) (fun hk2 => ev_ite (fun hk3 => ?_) (fun hk3 => ev_ite (fun hk5 => ?_) (fun hk5 => ?_))))
    · -- a page is put
      refine ev_I rfl (ev_ite (fun h1' => ?_) (fun h1' => hgo hT h1))
      have hn1 : a.num ≠ 1 := by simpa using h1'
      refine ev_I rfl (ev_bif rfl (ev_L2 (l' := [vI a.kind, vI a.num, v8 a.byte, vB a.short]) rfl (ev_bif rfl ?_)))
      refine ev_call (text_ok a) rfl ?_
      rintro _ _ rfl
      refine ev_S rfl (ev_callP (put_ok hA h1) rfl ?_ ?_)
      · rintro _ sg2 ⟨⟨h0, ht⟩, h2⟩
        have h3 := swa h2
        refine ev_ldA h3 1 rfl rfl (ev_I rfl (ev_bif rfl (ev_L2 (l' := [vI a.kind, vI a.num, v8 a.byte, vB a.short]) rfl (ev_bif rfl ?_))))
        refine ev_call (text_ok a) rfl ?_
        rintro _ _ rfl
        refine ev_S rfl (ev_A rfl (ev_map h3 2 rfl (ev_O (mSet_emb vS ..) ?_)))
        exact hgo (hT.put1 hn1 h0 ht) (swb (h3.put (n := 2) _ rfl))
      · rintro _ _ ⟨rfl, rfl⟩
        exact pan (by decide) h1
    · -- a page is taken
      refine ev_callP (take_ok hA hT.ov h1 (by omega)) rfl ?_ ?_
      · rintro _ sg2 ⟨x, hx, rfl, h2⟩
        obtain ⟨hnone, hx2, hT2⟩ := hT.take1 hb f4 hx
        have h3 := swa h2
        refine ev_I rfl (ev_ldB h3 5 rfl rfl (ev_if rfl ?_))
        refine ev_ldA h3 3 rfl rfl (ev_A rfl (ev_map h3 4 rfl (ev_O (mGet_emb tV ..) ?_)))
        rw [hnone]
        refine ev_A (a := vB false) rfl (ev_B rfl (ev_if rfl (ev_if (by simp; omega) ?_)))
        refine ev_ldI h3 6 rfl rfl (ev_if (by simp; omega) ?_)
        refine ev_call (get_ok (i := (x : Int)) hA hT2.ov h2 ⟨by omega, by omega⟩) rfl ?_
        rintro _ _ ⟨rfl, rfl⟩
        refine ev_S rfl (ev_call (page_ok (b := 0)) rfl ?_)
        rintro _ _ rfl
        refine ev_S rfl ?_
        have ez : cur (insM (x : Int) (zeros 480) (insM 1 (setS (cur over pgs 1) x true) over)) pgs (x : Int) = pgT 0 := by
          rw [cur_ins, if_pos rfl]; rfl
        rw [ez, eqS_iff.2 (rfl : pgT 0 = pgT 0)]
        refine ev_st h3 5 rfl rfl (Nat.le_of_ble_eq_true rfl) (Nat.succ_pos _) fun sg3 h4 => ?_
        replace h4 : Has sg3 (rcH m3 m5 pm m6 mm m7 m0 t n put met ++ (((h, hpB s m) :: (m, .map (emb vS (insM (x : Int) (zeros 480) (insM 1 (setS (cur over pgs 1) x true) over)))) :: A) ++ R3)) := h4
        refine ev_ldA h4 3 rfl rfl (ev_A rfl (ev_map h4 4 rfl (ev_O (mSet_emb tV _ () _) ?_)))
        have h5 : Has (List.set sg3 mm (Box.map (emb tV (insM (x : Int) () met)))) (rcH m3 m5 pm m6 mm m7 m0 t n put (insM (x : Int) () met) ++ (((h, hpB s m) :: (m, .map (emb vS (insM (x : Int) (zeros 480) (insM 1 (setS (cur over pgs 1) x true) over)))) :: A) ++ R3)) :=
          h4.put (n := 4) _ rfl
        refine ev_ldA h5 1 rfl rfl ?_
        refine ev_call (page_ok (b := 0)) rfl ?_
        rintro _ _ rfl
        refine ev_S rfl (ev_A rfl (ev_map h5 2 rfl (ev_O (mSet_emb vS ..) ?_)))
        exact hgo hT2 (swb (h5.put (n := 2) _ rfl))
      · rintro _ _ ⟨_, rfl, rfl⟩
        exact pan (by decide) h1
    · -- a page is given back
      refine ev_I rfl (ev_callP (give_ok hA hT.ov h1 (by omega)) rfl ?_ ?_)
      · rintro _ sg2 ⟨hx2, hu, h2⟩
        obtain ⟨hsome, hT2⟩ := hT.give1 hb f4 hx2 hu f3
        have h3 := swa h2
        refine ev_ldB h3 5 rfl rfl (ev_if rfl ?_)
        refine ev_ldA h3 3 rfl rfl (ev_I rfl (ev_A rfl (ev_map h3 4 rfl (ev_O (mGet_emb tV ..) ?_))))
        rw [hsome]
        refine ev_A (a := vB true) rfl (ev_A rfl ?_)
        refine ev_st h3 5 rfl rfl (Nat.le_of_ble_eq_true rfl) (Nat.succ_pos _) fun sg3 h4 => ?_
        replace h4 : Has sg3 (rcH m3 m5 pm m6 mm m7 m0 t n put met ++ (((h, hpB s m) :: (m, .map (emb vS (insM 1 (setS (cur over pgs 1) a.num false) over))) :: A) ++ R3)) := h4
        refine ev_ldA h4 3 rfl rfl (ev_I rfl (ev_A rfl (ev_map h4 4 rfl (ev_O (mDel_emb tV ..) ?_))))
        exact hgo hT2 (swb (h4.put (n := 4) _ rfl))
      · rintro _ sg2 ⟨_, rfl, h2⟩
        exact pan (by decide) h2
    · -- it stops
      refine ev_I rfl (ev_callP stop_ok rfl (fun _ _ h => h.elim) ?_)
      rintro _ _ ⟨rfl, rfl⟩
      refine pan ?_ h1
      split <;> omega
    · exact hgo hT h1
  · refine hexit _ _ ?_
    refine ev_of (law11_HeapOnce_1.k0_1 ..) ?_
    have h2 := swa h1
    refine ev_ldB h2 5 rfl rfl (ev_if rfl ?_)
    refine ev_call (hfree_ok hA hT.ov h1 (by omega)) rfl ?_
    rintro _ _ ⟨rfl, rfl⟩
    refine ev_I rfl (ev_ldI h2 6 rfl rfl ?_)
    refine ev_ldA h2 3 rfl rfl (ev_A rfl (ev_map h2 4 rfl ?_))
    have hcard := hT.card f3
    have hle := cnt_le (cur over pgs 1) (n - 2) 2
    have e : ((n : Int) - 2 - (cnt (cur over pgs 1) (n - 2) 2 : Int) == IntKind.i64.wrap (IntKind.i64.wrap ((n : Int) - 2) - ((emb tV met).length : Int))) = true := by
      rw [emb_len, hcard, i64_in (n := (n : Int) - 2) (by omega), i64_in (by omega)]; simp
    rw [e]
    refine ev_st h2 5 rfl rfl (Nat.le_of_ble_eq_true rfl) (Nat.succ_pos _) fun sg3 h3 => ?_
    exact ⟨_, rfl, over, _, hT.ov, ⟨put, met, hT, rfl⟩, swb h3⟩
end Go.Abs
