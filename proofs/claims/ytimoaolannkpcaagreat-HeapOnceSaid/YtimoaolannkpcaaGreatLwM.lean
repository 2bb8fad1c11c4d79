/- The law, for whatever comes in. -/
import Derived.Test.YtimoaolannkpcaaGreatLwZ
set_option linter.unusedVariables false
set_option linter.unusedSimpArgs false
set_option linter.unusedSectionVars false
namespace Go.Abs
open Go
set_option linter.unusedVariables false
set_option maxRecDepth 100000
open Classical in
theorem perm9 {α : Type} (m7 m6 mm m5 pm gw m3 m0 tm : α) : [m7, m6, mm, m5, pm, gw, m3, m0, tm].Perm [m3, m5, pm, m6, mm, m7, m0, gw, tm] := by
  refine List.perm_iff_count.2 fun x => ?_
  simp only [List.count_cons, List.count_nil]
  omega
theorem getD_zeros (n j : Nat) : (zeros n).data.getD j 0 = 0 := by
  show (List.replicate n (0 : UInt8)).toArray.getD j 0 = 0
  rw [Array.getD_eq_getD_getElem?]
  simp only [List.getElem?_toArray, List.getElem?_replicate]
  split <;> rfl
theorem used_zeros (x : Int) : usedS (zeros 480) x = false := by
  unfold usedS byteN
  rw [getD_zeros]
  simp [bitB]
/-- The pages in use, as the law keeps them. -/
def Tk (n : Nat) (pgs : List ByteArray) (tk : List (Int × Unit)) : Prop := (tk.map (·.1)).Nodup ∧ ∀ x : Int, x ∈ tk.map (·.1) ↔ (2 ≤ x ∧ x < (n : Int)) ∧ usedS (pgs.getD 1 ⟨#[]⟩) x = true
variable {N dp : Nat} {sg : Sg} {h s n size m m3 m5 pm m6 mm m7 m0 : Nat} {A R R3 : Hp} {pgs : List ByteArray} {over put : List (Int × ByteArray)} {met : List (Int × Unit)} {t : PTxn}
theorem once_ok {a b : Int} {av : AVal} {l : List PTxn} (hlv : LsV 3 av (l.map txnC)) (hlt0 : ∀ t, t ∈ l → LsV 4 t.av (t.acts.map actC)) (hlives : ∃ sg', tab N (dp + 10) 15 [] [] = some (.ret (vB true) sg')) (hN : 2000000 < N) :
    Ev (tab N (dp + 11) 3 [vI a, vI b, av] []) (Rt fun v _ => v = vB true) := by
  obtain ⟨sgl, hlives⟩ := hlives
  refine ev_of ((t3 ..).trans (law11_HeapOnce.main ..)) ?_
  refine ev_call (φ := fun v _ => v = vB true) ⟨_, hlives, rfl⟩ rfl ?_
  rintro _ _ rfl
  refine ev_B rfl (ev_else (by decide) ?_)
  have h0 := (has_nil []).new (.mk [vI a])
  refine ev_ldI h0 0 rfl rfl ?_
  generalize ([] : Sg).length = m0 at h0 ⊢
  refine ev_call (made_ok (dp := dp + 3) (a := a) (b := b) h0 (by omega)) rfl ?_
  rintro v sg1 (⟨_, rfl⟩ | ⟨s, d, n, size, A, rfl, rfl, _, hA, hns, h1⟩)
  · exact ev_T (ev_bif rfl (ev_A rfl (ev_A rfl (ev_B rfl (ev_else (by decide) (ev_ret rfl))))))
  have hlen : lenV av = some l.length := by rw [hlv.len, List.length_map]
  refine ev_T (ev_bif rfl (ev_A rfl (ev_A rfl (ev_B rfl (ev_if rfl (ev_O hlen (ev_ite (fun _ => ev_ret rfl) (fun h12 => ev_O hlen ?_))))))))
  have hl : l.length ≤ 12 := by
    have : ¬ (12 : Int) < l.length := by simpa using h12
    omega
  have h2 := h1.new (.map [])
  obtain ⟨f1, f2, f3, f4⟩ := hA.facts
  refine ev_loop l.length (fun i st => ∃ sg' pgs A tk tm, st = mkS [3, 7, 10, 40, 41, 42] [.v (.gp m0 0) false, .v (.gp s 0) false, .v (.gm tm) false, .v av false, .v (vI l.length) false, .v (vI i) false] [none, none, none, none, none, none] (.sg sg') ∧
    St1 s n size pgs A ∧ Tk n pgs tk ∧ Has sg' (A ++ [(m0, .mk [vI n]), (tm, .map (emb tV tk))])) (by omega) ⟨_, _, A, [], _, rfl, hA, ⟨by simp, fun x => ?_⟩, ?_⟩ ?_
  · have e : (List.replicate n (zeros 480)).getD 1 ⟨#[]⟩ = zeros 480 := by
      simp [List.getD_eq_getElem?_getD, List.getElem?_replicate, show 1 < n by omega]
    rw [e, used_zeros]; simp
  · have h3 : Has (sg1 ++ [Box.map []]) ([(sg1.length, .map (emb tV []))] ++ (A ++ [(m0, .mk [vI n])])) := h2
    have h4 := h3.perm (List.perm_append_comm)
    rwa [List.append_assoc] at h4
  clear h1 h2 h0 hA f1 f2 f3 f4 A
  rintro i st K hi ⟨sg2, pgs, A, tk, tm, rfl, hA, hT, h1⟩ hnext hexit hret
  obtain ⟨f1, f2, f3, f4⟩ := hA.facts
  refine ev_of (law11_HeapOnce.r0 ..) ?_
  refine ev_ite (fun hlt => ?_) (fun hge => ?_)
  rotate_left
  · refine hexit _ _ ?_
    exact ev_of (law11_HeapOnce.k0_1 ..) (ev_ret rfl)
  have hlt : i < l.length := by simpa using hlt
  have hw : IntKind.i64.wrap (((i : Nat) : Int) + 1) = ((i + 1 : Nat) : Int) := i64_nat (by omega)
  rw [hw]
  have htx : (l.map txnC)[i]? = some (txnC l[i]) := by simp [List.getElem?_eq_getElem hlt]
  have hav := hlt0 _ (List.getElem_mem hlt)
  generalize l[i] = t at htx hav
  refine ev_ls hlv htx rfl ?_
  have h2 := h1.new (.mk [vI 0, .sl true 4 [], vI 0])
  generalize sg2.length = m3 at h2 ⊢
  refine ev_st h2 0 rfl rfl (Nat.le_of_ble_eq_true rfl) (Nat.succ_pos _) fun sg3 h3 => ?_
  replace h3 : Has sg3 ((m3, .mk (txnC t)) :: (A ++ [(m0, .mk [vI n]), (tm, .map (emb tV tk))])) := h3
  have hskip : Ev (K Ex.normal (mkS [3, 7, 10, 40, 41, 42] [.v (.gp m0 0) false, .v (.gp s 0) false, .v (.gm tm) false, .v av false, .v (vI l.length) false, .v (vI (i + 1 : Nat)) false] [none, none, none, none, none, none] (.sg sg3))) _ :=
    hnext _ hlt ⟨sg3, pgs, A, tk, tm, rfl, hA, hT, h3.tail⟩
  refine ev_ldA h3 0 rfl rfl (ev_O (a := t.acts.length) (by rw [hav.len, List.length_map]) (ev_ite (fun hsm => ?_) (fun _ => hskip)))
  have hsm : t.acts.length ≤ 40 := by
    have : ¬ (40 : Int) < t.acts.length := by simpa using hsm
    omega
  refine ev_ldI h3 0 rfl rfl (ev_ite (fun _ => hskip) (fun _ => ev_A rfl ?_))
  refine ev_call (all_ok (dp := dp + 7) hA h3.rot (by omega)) rfl ?_
  rintro _ sg4 ⟨gw, rfl, h4⟩
  have h5 := (h4.new (.map [])).new (.mk [.at (.map none)])
  generalize sg4.length = pm at h5 ⊢
  generalize (sg4 ++ [Box.map []]).length = m5 at h5 ⊢
  refine ev_st h5 0 rfl rfl (Nat.le_of_ble_eq_true rfl) (Nat.succ_pos _) fun sg5 h6 => ?_
  have h7 := ((h6.new (.map [])).new (.mk [.at (.map none)])).new (.mk [vB false])
  generalize sg5.length = mm at h7 ⊢
  generalize (sg5 ++ [Box.map []]).length = m6 at h7 ⊢
  generalize (sg5 ++ [Box.map []] ++ [Box.mk [AVal.at (Value.map none)]]).length = m7 at h7 ⊢
  refine ev_st h7 1 rfl rfl (Nat.le_of_ble_eq_true rfl) (Nat.succ_pos _) fun sg6 h8 => ?_
  refine ev_st h8 0 rfl rfl (Nat.le_of_ble_eq_true rfl) (Nat.succ_pos _) fun sg7 h9 => ?_
  replace h9 : Has sg7 ([(m7, .mk [vB true]), (m6, .mk [.gm mm]), (mm, .map (emb tV [])), (m5, .mk [.gm pm]), (pm, .map (emb vS [])), (gw, .mk (pgs.map vS))] ++ (A ++ [(m3, .mk (txnC t)), (m0, .mk [vI n]), (tm, .map (emb tV tk))])) := h9
  have arr : ∀ {sg' : Sg} {met}, Has sg' ([(m7, .mk [vB true]), (m6, .mk [.gm mm]), (mm, .map (emb tV met)), (m5, .mk [.gm pm]), (pm, .map (emb vS [])), (gw, .mk (pgs.map vS))] ++ (A ++ [(m3, .mk (txnC t)), (m0, .mk [vI n]), (tm, .map (emb tV tk))])) →
      Has sg' (A ++ (rcH m3 m5 pm m6 mm m7 m0 t n [] met ++ [(gw, .mk (pgs.map vS)), (tm, .map (emb tV tk))])) := fun {sg' met} hx =>
    (hx.sw [(m7, .mk [vB true]), (m6, .mk [.gm mm]), (mm, .map (emb tV met)), (m5, .mk [.gm pm]), (pm, .map (emb vS [])), (gw, .mk (pgs.map vS))] A).perm (List.Perm.append_left A (perm9 _ _ _ _ _ _ _ _ _))
  have rar : ∀ {sg' : Sg} {met}, Has sg' (A ++ (rcH m3 m5 pm m6 mm m7 m0 t n [] met ++ [(gw, .mk (pgs.map vS)), (tm, .map (emb tV tk))])) → Has sg' (rcH m3 m5 pm m6 mm m7 m0 t n [] met ++ ([(gw, .mk (pgs.map vS)), (tm, .map (emb tV tk))] ++ A)) := fun {sg' met} hx => by
    have := hx.perm List.perm_append_comm
    rwa [List.append_assoc] at this
  have h10 := arr h9
  refine ev_ldI (rar h10) 6 rfl rfl ?_
  refine ev_loop n (fun p st => ∃ sg' met, st = mkS [3, 7, 10, 12, 13, 14, 15, 16, 40, 41, 42, 59, 60] [.v (.gp m0 0) false, .v (.gp s 0) false, .v (.gm tm) false, .v (.gp m3 0) false, .v (.gs gw 1 0 n) false, .v (.gp m5 0) false, .v (.gp m6 0) false, .v (.gp m7 0) false,
      .v av false, .v (vI l.length) false, .v (vI i) false, .v (vI n) false, .v (vI p) false] [none, none, none, none, none, none, none, none, none, none, none, none, none] (.sg sg') ∧ (met.map (·.1)).Nodup ∧ (∀ x : Int, x ∈ met.map (·.1) ↔ x ∈ tk.map (·.1) ∧ 0 ≤ x ∧ x < (p : Int)) ∧
    Has sg' (rcH m3 m5 pm m6 mm m7 m0 t n [] met ++ ([(gw, .mk (pgs.map vS)), (tm, .map (emb tV tk))] ++ A))) (by omega) ⟨_, [], rfl, by simp, fun x => by simp <;> omega, rar h10⟩ ?_
  rintro p st K2 hp ⟨sg8, met, rfl, hmn, hmm, h11⟩ hnext2 hexit2 hret2
  refine ev_of (law11_HeapOnce.r1 ..) ?_
  refine ev_ite (fun hlt2 => ?_) (fun hge2 => ?_)
  · have hlt2 : p < n := by
      have : (p : Int) < n := by simpa using hlt2
      omega
    have hw2 : IntKind.i64.wrap (((p : Nat) : Int) + 1) = ((p + 1 : Nat) : Int) := i64_nat (by omega)
    rw [hw2]
    refine ev_A rfl (ev_map h11 8 rfl (ev_O (mGet_emb tV ..) ?_))
    cases hlk : lk (p : Int) tk with
    | some u =>
      have hin : (p : Int) ∈ tk.map (·.1) := List.mem_map.2 ⟨_, lk_mem hlk, rfl⟩
      refine ev_B (a := true) rfl (ev_if rfl ?_)
      refine ev_ldA h11 3 rfl rfl (ev_A rfl (ev_map h11 4 rfl (ev_O (mSet_emb tV _ () _) ?_)))
      refine hnext2 _ hlt2 ⟨_, insM (p : Int) () met, rfl, nodup_ins hmn, fun x => ?_, h11.put (n := 4) _ rfl⟩
      rw [keys_ins, hmm]
      constructor
      · rintro (rfl | ⟨q1, q2⟩)
        · exact ⟨hin, by omega, by omega⟩
        · exact ⟨q1, by omega, by omega⟩
      · rintro ⟨q1, q2⟩
        by_cases he : x = p
        · exact .inl he
        · exact .inr ⟨q1, by omega, by omega⟩
    | none =>
      have hin := lk_none.1 hlk
      refine ev_B (a := false) rfl (ev_else (by decide) ?_)
      refine hnext2 _ hlt2 ⟨_, met, rfl, hmn, fun x => ?_, h11⟩
      rw [hmm]
      constructor
      · rintro ⟨q1, q2⟩
        exact ⟨q1, by omega, by omega⟩
      · rintro ⟨q1, q2⟩
        have : x ≠ p := fun e => hin (e ▸ q1)
        exact ⟨q1, by omega, by omega⟩
  have hpe : p = n := by
    have : ¬ (p : Int) < n := by simpa using hge2
    omega
  subst hpe
  refine hexit2 _ _ ?_
  refine ev_of (law11_HeapOnce.k1_1 ..) (ev_A rfl ?_)
  have hc0 : cur [] pgs 1 = pgs.getD 1 ⟨#[]⟩ := rfl
  have hI0 : TxI p pgs [] [] met := by
    refine ⟨⟨by simp, by simp⟩, hmn, fun x => ?_, fun _ _ => rfl⟩
    rw [hmm, hT.2, hc0]
    constructor
    · rintro ⟨q1, q2⟩; exact q1
    · rintro q1; exact ⟨q1, by omega, by omega⟩
  have h12 : Has sg8 (A ++ (rcH m3 m5 pm m6 mm m7 m0 t p [] met ++ [(gw, .mk (pgs.map vS)), (tm, .map (emb tV tk))])) := by
    rw [← List.append_assoc] at h11
    exact h11.perm List.perm_append_comm
  refine ev_call (do_ok (dp := dp + 1) (f := 19) (first := []) (cap := [.gp m3 0, .gp m5 0, .gp m7 0, .gp m6 0, .gp m0 0])
    (P := fun over R2 => ∃ put met, TxI p pgs over put met ∧ R2 = rcH m3 m5 pm m6 mm m7 m0 t p put met ++ [(gw, .mk (pgs.map vS)), (tm, .map (emb tV tk))])
    (P' := fun k R2 => ∃ put met, R2 = rcH m3 m5 pm m6 mm m7 m0 t p put met ++ [(gw, .mk (pgs.map vS)), (tm, .map (emb tV tk))]) hA h12 rfl (by omega)
    fun h m sg' hx => law_call (dp := dp + 1) hav hA hI0 (by omega) (by omega) hx) rfl ?_
  have hrar : ∀ {sg' : Sg} {A' put met}, Has sg' (A' ++ (rcH m3 m5 pm m6 mm m7 m0 t p put met ++ [(gw, .mk (pgs.map vS)), (tm, .map (emb tV tk))])) → Has sg' (rcH m3 m5 pm m6 mm m7 m0 t p put met ++ ([(gw, .mk (pgs.map vS)), (tm, .map (emb tV tk))] ++ A')) := fun {sg' A' put met} hx => by
    have := hx.perm List.perm_append_comm
    rwa [List.append_assoc] at this
  rintro v sg9 hres
  have hres2 : (∃ k put met, k ≠ 0 ∧ v = vI k ∧ Has sg9 (A ++ (rcH m3 m5 pm m6 mm m7 m0 t p put met ++ [(gw, .mk (pgs.map vS)), (tm, .map (emb tV tk))]))) ∨
      (∃ over put met pgs' A', TxI p pgs over put met ∧ v = vI 0 ∧ St1 s p size pgs' A' ∧ (∀ i, i < p → pgs'.getD i ⟨#[]⟩ = cur over pgs (i : Int)) ∧ Has sg9 (A' ++ (rcH m3 m5 pm m6 mm m7 m0 t p put met ++ [(gw, .mk (pgs.map vS)), (tm, .map (emb tV tk))]))) := by
    rcases hres with ⟨k, R2, rfl, hk, ⟨put, met, rfl⟩, h13⟩ | ⟨over, R2, hO, ⟨put, met, hTx, rfl⟩, ⟨rfl, _, h13⟩ | ⟨rfl, pgs', A', hA', hg, h13⟩⟩
    · exact .inl ⟨k, put, met, hk, rfl, h13⟩
    · exact .inl ⟨14, put, met, by decide, rfl, h13⟩
    · exact .inr ⟨over, put, met, pgs', A', hTx, rfl, hA', hg, h13⟩
  clear hres
  rcases hres2 with ⟨k, put, met, hk, rfl, h13⟩ | ⟨over, put, met, pgs', A', hTx, rfl, hA', hg, h13⟩
  · refine ev_I rfl (ev_A rfl ?_)
    refine ev_call (all_ok (dp := dp + 7) hA h13 (by omega)) rfl ?_
    rintro _ sg10 ⟨g2, rfl, h14⟩
    have h15 := hrar (A' := (g2, .mk (pgs.map vS)) :: A) h14
    refine ev_ldB h15 5 rfl rfl (ev_else (by decide) (ev_if (by simpa using hk) (ev_A rfl (ev_A rfl ?_))))
    refine ev_call (same_ok (i := 7) (j := 9) h15 rfl rfl f1 (by omega) (by omega)) rfl ?_
    rintro _ _ ⟨rfl, rfl⟩
    refine ev_B rfl (ev_else (by decide) ?_)
    rw [hw]
    refine hnext _ hlt ⟨_, pgs, A, tk, tm, rfl, hA, hT, ?_⟩
    exact h14.tail.sub (List.Sublist.append (List.Sublist.refl _) (.cons _ (.cons _ (.cons _ (.cons _ (.cons _ (.cons _ (.cons_cons _ (.cons _ (.cons_cons _ .slnil))))))))))
  · obtain ⟨f1', _, _, _⟩ := hA'.facts
    refine ev_I rfl (ev_A rfl ?_)
    refine ev_call (all_ok (dp := dp + 7) hA' h13 (by omega)) rfl ?_
    rintro _ sg10 ⟨g2, rfl, h14⟩
    have h15 := hrar (A' := (g2, .mk (pgs'.map vS)) :: A') h14
    refine ev_ldB h15 5 rfl rfl (ev_else (by decide) (ev_else (by decide) ?_))
    refine ev_ldA h15 3 rfl rfl (ev_O (a := p) rfl ?_)
    refine ev_loop p (fun q st => st = mkS [3, 7, 10, 13, 14, 19, 40, 41, 42, 84, 85] [.v (.gp m0 0) false, .v (.gp s 0) false, .v (.gm mm) false, .v (.gs gw 1 0 p) false, .v (.gp m5 0) false, .v (.gs g2 1 0 p) false,
      .v av false, .v (vI l.length) false, .v (vI i) false, .v (vI p) false, .v (vI q) false] [none, none, none, none, none, none, none, none, none, none, none] (.sg sg10)) (by omega) rfl ?_
    rintro q st K3 hq rfl hnext3 hexit3 hret3
    refine ev_of (law11_HeapOnce.r2 ..) ?_
    refine ev_ite (fun hlt3 => ?_) (fun hge3 => ?_)
    · have hlt3 : q < p := by
        have : (q : Int) < p := by simpa using hlt3
        omega
      have hw3 : IntKind.i64.wrap (((q : Nat) : Int) + 1) = ((q + 1 : Nat) : Int) := i64_nat (by omega)
      rw [hw3]
      have hgo := hnext3 _ hlt3 rfl
      have hnow := hg q hlt3
      have e1 : pgs'.getD q ⟨#[]⟩ = pgs'[q]'(by omega) := by simp [List.getD_eq_getElem?_getD, List.getElem?_eq_getElem (show q < pgs'.length by omega)]
      have e2 : pgs.getD q ⟨#[]⟩ = pgs[q]'(by omega) := by simp [List.getD_eq_getElem?_getD, List.getElem?_eq_getElem (show q < pgs.length by omega)]
      unfold cur at hnow
      rw [Int.toNat_natCast, e1, e2] at hnow
      refine ev_ldA h15 1 rfl rfl (ev_A rfl (ev_map h15 2 rfl (ev_O (mGet_emb vS ..) ?_)))
      refine ev_ite (fun h1' => ?_) (fun _ => hgo)
      have hn1 : (q : Int) ≠ 1 := by simpa using h1'
      rw [hTx.pt _ hn1]
      cases hlk : lk (q : Int) over with
      | some x =>
        rw [hlk, Option.getD_some] at hnow
        refine ev_if rfl (ev_elem (by omega) (by omega) (ev_ldS h15 9 rfl (strs_at (by omega)) ?_))
        refine ev_A (a := vS x) rfl (ev_S rfl (ev_if (by rw [hnow, eqS_iff.2 rfl]; rfl) (ev_else (by simp [hasV]) hgo)))
      | none =>
        rw [hlk, Option.getD_none] at hnow
        refine ev_else (by decide) (ev_if rfl ?_)
        refine ev_elem (by omega) (by omega) (ev_ldS h15 9 rfl (strs_at (by omega)) ?_)
        refine ev_elem (by omega) (by omega) (ev_ldS h15 7 rfl (strs_at (by omega)) ?_)
        exact ev_else (by rw [hnow, eqS_iff.2 rfl]; decide) hgo
    · refine hexit3 _ _ ?_
      refine ev_of (law11_HeapOnce.k2_2 ..) ?_
      rw [hw]
      refine hnext _ hlt ⟨_, pgs', A', met, mm, rfl, hA', ⟨hTx.nd, fun x => ?_⟩, ?_⟩
      · rw [hTx.mt, hg 1 (by omega)]; rfl
      · have h16 : Has sg10 (A' ++ [(mm, .map (emb tV met)), (m0, .mk [vI p])]) :=
          h14.tail.sub (List.Sublist.append (List.Sublist.refl _) (.cons _ (.cons _ (.cons _ (.cons _ (.cons_cons _ (.cons _ (.cons_cons _ (.cons _ (.cons _ .slnil))))))))))
        exact h16.perm (List.Perm.append_left A' (List.Perm.swap _ _ _))
end Go.Abs
