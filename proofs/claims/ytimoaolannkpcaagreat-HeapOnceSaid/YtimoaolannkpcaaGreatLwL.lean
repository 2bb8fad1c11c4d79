/- The law's own examples. -/
import Derived.Test.YtimoaolannkpcaaGreatLwM
import Derived.Test.YtimoaolannkpcaaGreatRsE
set_option linter.unusedVariables false
set_option linter.unusedSimpArgs false
set_option linter.unusedSectionVars false
namespace Go.Abs
open Go
set_option linter.unusedVariables false
set_option maxRecDepth 100000
variable {N dp : Nat} {sg : Sg} {h s n size m : Nat} {A R : Hp} {pgs : List ByteArray} {over : List (Int × ByteArray)}
theorem do_nil (C : CallF) (N : Nat) (sg : Sg) : evalF C N heap_Do.a [.at (.pointer none), .at .nilFunc] sg = some (.ret (vI 18) sg) := by kernel_rfl
theorem view_no {f : FuncId} {first cap : List AVal} {k : Int} (hs : Has sg (A ++ R)) (hf : Nat.blt f yBase = true)
    (hcall : ∀ h m sg', Has sg' ((h, hpB s m) :: (m, .map (emb vS [])) :: (A ++ R)) → Ev (tab N (dp + 7) f (first ++ (.gp h 0 :: cap)) sg') (Rp (fun _ _ => False) (fun v sg2 => v = stopV k ∧ Has sg2 (A ++ R)))) :
    Ev (tab N (dp + 9) 65 [.gp s 0, .clo f first cap] sg) (Rt fun v sg2 => v = vI k ∧ Has sg2 (A ++ R)) := by
  refine ev_of ((t65 ..).trans (heap_View.main ..)) (ev_if (by decide) (ev_else (by decide) ?_))
  have h1 := hs.new (.map [])
  have h2 := h1.new (.mk [.gp s 0, .gm sg.length])
  generalize sg.length = m at h2 ⊢
  generalize (sg ++ [Box.map []]).length = h at h2 ⊢
  refine ev_call (φ := fun v sg2 => v = vI k ∧ Has sg2 (A ++ R)) ?_ rfl ?_
  · obtain ⟨o, e1, e2⟩ := hcall h m _ h2
    refine ev_of (t121 ..) ?_
    simp only [ovTry, callC, hf, cond_true]
    rw [e1]
    cases o with
    | ret v sg2 => exact e2.elim
    | pan v sg2 =>
      obtain ⟨rfl, h3⟩ := e2
      exact ⟨_, rfl, rfl, h3⟩
  · rintro _ sg2 ⟨rfl, h3⟩
    exact ev_I rfl (ev_ret ⟨rfl, h3⟩)
/-- The bitmap with page 2, then with 3 too. -/
def b2 : ByteArray := setS (zeros 480) 2 true
def b3 : ByteArray := setS b2 3 true
theorem ok2 : okI (zeros 480) 2 = true := (okI_nat (zeros_size 480) 2).2 (by decide)
theorem b2_size : b2.size = 480 := set_size ok2 true
theorem ok3 : okI b2 3 = true := (okI_nat b2_size 3).2 (by decide)
theorem b3_size : b3.size = 480 := set_size ok3 true
theorem used2 (j : Int) : usedS b2 j = decide (j = 2) := by
  unfold b2
  rw [used_set ok2, used_zeros]
  split <;> simp [*]
theorem used3 (j : Int) : usedS b3 j = decide (j = 2 ∨ j = 3) := by
  unfold b3
  rw [used_set ok3, used2]
  by_cases h3 : j = 3
  · simp [h3]
  · simp [h3]
theorem ff0 : firstF (zeros 480) 6 2 = some 2 := by simp [firstF, used_zeros]
theorem ff2 : firstF b2 6 2 = some 3 := by simp [firstF, used2]
theorem cnt3 : cnt b3 6 2 = 2 := by simp [cnt, one1, used3]
def ov1 : List (Int × ByteArray) := insM 2 (zeros 480) (insM 1 b2 [])
def ov2 : List (Int × ByteArray) := insM 3 (zeros 480) (insM 1 b3 ov1)
def ov3 : List (Int × ByteArray) := insM 2 (pgT 5) ov2
theorem lives_ok (hN : 200000 < N) : ∃ sg', tab N (dp + 10) 15 [] [] = some (.ret (vB true) sg') := by
  suffices hh : Ev (tab N (dp + 10) 15 [] []) (Rt fun v _ => v = vB true) by
    obtain ⟨v, sg, e, rfl⟩ := ev_get hh
    exact ⟨sg, e⟩
  refine ev_of ((t15 ..).trans (law11_lives.main ..)) ?_
  refine ev_call (made_ok (dp := dp + 2) (a := 8) (b := 6) (has_nil []) hN) rfl ?_
  rintro v sg1 (⟨hbad, _⟩ | ⟨s, d, n, size, A, rfl, hn, hsz, hA, hns, h1⟩)
  · exact absurd (by decide) hbad
  obtain rfl : n = 8 := by omega
  obtain rfl : size = 6 := by omega
  refine ev_T (ev_bif rfl (ev_A rfl (ev_A rfl (ev_B rfl (ev_else (by decide) ?_)))))
  have h2 := ((h1.new (.mk [vI 0])).new (.mk [vI 0])).new (.mk [vI 0])
  generalize sg1.length = ap at h2 ⊢
  generalize (sg1 ++ [Box.mk [vI 0]]).length = aq at h2 ⊢
  generalize (sg1 ++ [Box.mk [vI 0]] ++ [Box.mk [vI 0]]).length = af at h2 ⊢
  refine ev_st h2 2 rfl rfl (Nat.le_of_ble_eq_true rfl) (Nat.succ_pos _) fun sg2 h3 => ?_
  refine ev_st h3 1 rfl rfl (Nat.le_of_ble_eq_true rfl) (Nat.succ_pos _) fun sg3 h4 => ?_
  refine ev_st h4 0 rfl rfl (Nat.le_of_ble_eq_true rfl) (Nat.succ_pos _) fun sg4 h5 => ?_
  have h6 : Has sg4 ([(af, .mk [vI 0]), (aq, .mk [vI 0]), (ap, .mk [vI 0])] ++ (A ++ [])) := h5
  have h7 : Has sg4 (A ++ [(af, .mk [vI 0]), (aq, .mk [vI 0]), (ap, .mk [vI 0])]) := by
    have := h6.sw _ A
    simpa using this
  obtain ⟨f1, f2, f3, f4⟩ := hA.facts
  have e1 : (List.replicate 8 (zeros 480)).getD (1 : Int).toNat ⟨#[]⟩ = zeros 480 := rfl
  have c0 : cur [] (List.replicate 8 (zeros 480)) 1 = zeros 480 := rfl
  have c1 : cur ov1 (List.replicate 8 (zeros 480)) 1 = b2 := rfl
  have c2 : cur ov2 (List.replicate 8 (zeros 480)) 1 = b3 := rfl
  have c3 : cur ov3 (List.replicate 8 (zeros 480)) 1 = b3 := rfl
  have O0 : OvOk 8 [] := ⟨by simp, by simp⟩
  have O1 : OvOk 8 ov1 := (O0.ins (by decide) b2_size).ins (by decide) (zeros_size _)
  have O2 : OvOk 8 ov2 := (O1.ins (by decide) b3_size).ins (by decide) (zeros_size _)
  have O3 : OvOk 8 ov3 := O2.ins (by decide) (pgT_size 5)
  refine ev_A rfl ?_
  refine ev_call (do_ok (dp := dp) (f := 118) (first := []) (cap := [.gp ap 0, .gp aq 0, .gp af 0]) (P := fun over R2 => over = ov3 ∧ R2 = [(af, .mk [vI 4]), (aq, .mk [vI 3]), (ap, .mk [vI 2])]) (P' := fun _ _ => False) hA h7 rfl hN ?_) rfl ?_
  · intro h m sg' hx
    refine ev_of ((t118 ..).trans (law11_lives_1.main ..)) ?_
    refine ev_callP (take_ok hA O0 hx (by omega)) rfl ?_ ?_
    rotate_left
    · rintro _ _ ⟨hf, _, _⟩
      rw [c0] at hf
      have := ff0.symm.trans hf
      cases this
    rintro _ sg5 ⟨x, hf, rfl, h8⟩
    rw [c0] at hf h8
    have hxe : (2 : Nat) = x := Option.some.inj (ff0.symm.trans hf)
    subst hxe
    replace h8 : Has sg5 ((h, hpB s m) :: (m, .map (emb vS ov1)) :: (A ++ [(af, .mk [vI 0]), (aq, .mk [vI 0]), (ap, .mk [vI 0])])) := h8
    have sw1 : ∀ {sg' : Sg} {ov : List (Int × ByteArray)} {x y z : Int}, Has sg' ((h, hpB s m) :: (m, .map (emb vS ov)) :: (A ++ [(af, .mk [vI x]), (aq, .mk [vI y]), (ap, .mk [vI z])])) → Has sg' ([(af, .mk [vI x]), (aq, .mk [vI y]), (ap, .mk [vI z])] ++ ((h, hpB s m) :: (m, .map (emb vS ov)) :: A)) :=
      fun {sg' ov x y z} hx => Has.perm (L := ((h, hpB s m) :: (m, .map (emb vS ov)) :: A) ++ [(af, .mk [vI x]), (aq, .mk [vI y]), (ap, .mk [vI z])]) hx List.perm_append_comm
    have sw2 : ∀ {sg' : Sg} {ov : List (Int × ByteArray)} {x y z : Int}, Has sg' ([(af, .mk [vI x]), (aq, .mk [vI y]), (ap, .mk [vI z])] ++ ((h, hpB s m) :: (m, .map (emb vS ov)) :: A)) → Has sg' ((h, hpB s m) :: (m, .map (emb vS ov)) :: (A ++ [(af, .mk [vI x]), (aq, .mk [vI y]), (ap, .mk [vI z])])) :=
      fun {sg' ov x y z} hx => Has.perm (M := ((h, hpB s m) :: (m, .map (emb vS ov)) :: A) ++ [(af, .mk [vI x]), (aq, .mk [vI y]), (ap, .mk [vI z])]) hx List.perm_append_comm
    refine ev_I rfl (ev_st (sw1 h8) 2 rfl rfl (Nat.le_of_ble_eq_true rfl) (Nat.succ_pos _) fun sg6 h9 => ?_)
    replace h9 : Has sg6 ([(af, .mk [vI 0]), (aq, .mk [vI 0]), (ap, .mk [vI 2])] ++ ((h, hpB s m) :: (m, .map (emb vS ov1)) :: A)) := h9
    refine ev_callP (take_ok hA O1 (sw2 h9) (by omega)) rfl ?_ ?_
    rotate_left
    · rintro _ _ ⟨hf, _, _⟩
      rw [c1] at hf
      have := ff2.symm.trans hf
      cases this
    rintro _ sg7 ⟨x, hf, rfl, h10⟩
    rw [c1] at hf h10
    have hxe : (3 : Nat) = x := Option.some.inj (ff2.symm.trans hf)
    subst hxe
    replace h10 : Has sg7 ((h, hpB s m) :: (m, .map (emb vS ov2)) :: (A ++ [(af, .mk [vI 0]), (aq, .mk [vI 0]), (ap, .mk [vI 2])])) := h10
    refine ev_I rfl (ev_st (sw1 h10) 1 rfl rfl (Nat.le_of_ble_eq_true rfl) (Nat.succ_pos _) fun sg8 h11 => ?_)
    replace h11 : Has sg8 ([(af, .mk [vI 0]), (aq, .mk [vI 3]), (ap, .mk [vI 2])] ++ ((h, hpB s m) :: (m, .map (emb vS ov2)) :: A)) := h11
    refine ev_ldI h11 2 rfl rfl ?_
    refine ev_call (page_ok (b := 5)) rfl ?_
    rintro _ _ rfl
    refine ev_S rfl (ev_call (put_yes hA (sw2 h11) (by decide) (pgT_size 5)) rfl ?_)
    intro _ sg9 h12
    refine ev_call (hfree_ok hA O3 h12 (by omega)) rfl ?_
    rintro _ _ ⟨rfl, rfl⟩
    refine ev_I rfl ?_
    have e4 : ((8 : Nat) : Int) - 2 - ((cnt (cur ov3 (List.replicate 8 (zeros 480)) 1) (8 - 2) 2 : Nat) : Int) = 4 := by
      rw [c3, cnt3]; rfl
    refine ev_st (sw1 h12) 0 rfl rfl (Nat.le_of_ble_eq_true rfl) (Nat.succ_pos _) fun sg10 h13 => ?_
    refine ⟨_, rfl, ov3, _, O3, ⟨rfl, rfl⟩, ?_⟩
    have e5 : insM (2 : Int) (pgT 5) ov2 = ov3 := rfl
    rw [e5, e4] at h13
    exact sw2 h13
  rintro v sg5 (⟨k, R2, _, _, hf, _⟩ | ⟨over, R2, hO, ⟨rfl, rfl⟩, ⟨_, hge, _⟩ | ⟨rfl, pgs', A', hA', hg, h8⟩⟩)
  · exact hf.elim
  · have : ov3.length = 3 := rfl
    omega
  have g1 : pgs'.getD 1 ⟨#[]⟩ = b3 := (hg 1 (by omega)).trans c3
  have g2 : pgs'.getD 2 ⟨#[]⟩ = pgT 5 := hg 2 (by omega)
  refine ev_I rfl (ev_A rfl ?_)
  refine ev_call (do_ok (dp := dp) (f := 119) (first := []) (cap := [.gp ap 0, .gp af 0]) (P := fun over R2 => False) (P' := fun k R2 => k = 12 ∧ R2 = [(af, .mk [vI 4]), (aq, .mk [vI 3]), (ap, .mk [vI 2])]) hA' h8 rfl hN ?_) rfl ?_
  · intro h m sg' hx
    have hx2 : Has sg' ([(af, .mk [vI 4]), (aq, .mk [vI 3]), (ap, .mk [vI 2])] ++ ((h, hpB s m) :: (m, .map (emb vS [])) :: A')) :=
      Has.perm (L := ((h, hpB s m) :: (m, .map (emb vS [])) :: A') ++ [(af, .mk [vI 4]), (aq, .mk [vI 3]), (ap, .mk [vI 2])]) hx List.perm_append_comm
    refine ev_of ((t119 ..).trans (law11_lives_2.main ..)) (ev_ldI hx2 2 rfl rfl ?_)
    refine ev_callP (give_ok hA' O0 hx (by omega)) rfl ?_ ?_
    · rintro _ sg6 ⟨_, _, h9⟩
      refine ev_callP (stop_ok (k := 12)) rfl (fun _ _ h => h.elim) ?_
      rintro _ _ ⟨rfl, rfl⟩
      exact ⟨_, rfl, 12, _, rfl, by decide, ⟨rfl, rfl⟩, h9.tail.tail⟩
    · rintro _ sg6 ⟨hbad, _⟩
      refine absurd ⟨by decide, ?_⟩ hbad
      have : cur [] pgs' 1 = b3 := g1
      rw [this, used3]; decide
  rintro v sg6 (⟨k, R2, rfl, _, ⟨rfl, rfl⟩, h9⟩ | ⟨over, R2, hO, hf, _⟩)
  rotate_left
  · exact hf.elim
  refine ev_I rfl (ev_A rfl ?_)
  refine ev_call (read_ok (a := 2) hA' h9) rfl ?_
  rintro _ _ ⟨rfl, rfl⟩
  rw [if_pos (by decide)]
  refine ev_T (ev_bif rfl (ev_S rfl (ev_I rfl (ev_A rfl ?_))))
  refine ev_call (view_no (dp := dp) (f := 120) (first := []) (cap := []) (k := 18) h9 rfl ?_) rfl ?_
  · intro h m sg' hx
    refine ev_of ((t120 ..).trans (law11_lives_3.main ..)) ?_
    refine ev_callP (get_no (i := 8) hA' hx rfl (by decide)) rfl (fun _ _ h => h.elim) ?_
    rintro _ _ ⟨rfl, rfl⟩
    exact ⟨_, rfl, rfl, hx.tail.tail⟩
  rintro _ sg7 ⟨rfl, h10⟩
  have h11 : Has sg7 ([(af, .mk [vI 4]), (aq, .mk [vI 3]), (ap, .mk [vI 2])] ++ A') := h10.perm List.perm_append_comm
  refine ev_I rfl (ev_if rfl (ev_ldI h11 2 rfl rfl (ev_if rfl (ev_ldI h11 1 rfl rfl (ev_if rfl (ev_ldI h11 0 rfl rfl (ev_if rfl (ev_if rfl ?_))))))))
  refine ev_call (page_ok (b := 5)) rfl ?_
  rintro _ _ rfl
  have e6 : pgs'.getD (2 : Int).toNat ⟨#[]⟩ = pgT 5 := g2
  refine ev_S rfl (ev_if (by rw [e6]; exact eqS_iff.2 rfl) (ev_if rfl (ev_if rfl ?_)))
  refine ev_call (φ := fun v _ => v = vI 18) ?_ rfl ?_
  · exact ev_of ((t18 ..).trans (do_nil ..)) (ev_ret rfl)
  · rintro _ _ rfl
    exact ev_I rfl (ev_ret rfl)
/-- The law gives true. -/
theorem law_ok (a b : Int) {av : AVal} {l : List PTxn} (hlv : LsV 3 av (l.map txnC)) (hlt : ∀ t, t ∈ l → LsV 4 t.av (t.acts.map actC)) : ∃ sg', tab 3000000 11 3 [vI a, vI b, av] [] = some (.ret (vB true) sg') := by
  obtain ⟨v, sg, e, rfl⟩ := ev_get (once_ok (N := 3000000) (dp := 0) (a := a) (b := b) hlv hlt (lives_ok (dp := 0) (by decide)) (by decide))
  exact ⟨sg, e⟩
end Go.Abs
