/- The store of pages: Read, Commit. -/
import Derived.Test.YtimoaolannkpcaaGreatPgY
set_option linter.unusedVariables false
set_option linter.unusedSimpArgs false
set_option linter.unusedSectionVars false
namespace Go.Abs
open Go
set_option linter.unusedVariables false
set_option maxRecDepth 100000
variable {N dp : Nat} {sg : Sg} {s d p m n k size at_ : Nat} {jv : AVal} {wt ep : Int} {A R L H : Hp} {pgs : List ByteArray} {l : List (Int × ByteArray)} {a1 : AVal}
theorem imOk_mono {n n' : Nat} (h : ImOk n l) (hn : n ≤ n') : ImOk n' l := ⟨h.nd, fun p hp => ⟨⟨(h.rg p hp).1.1, by have := (h.rg p hp).1.2; omega⟩, (h.rg p hp).2⟩⟩
theorem imOk_len {n : Nat} (h : ImOk n l) : l.length ≤ n := by
  have := len_le_of_nodup h.nd fun x hx => by
    obtain ⟨q, hq, rfl⟩ := List.mem_map.1 hx
    exact (h.rg q hq).1
  simpa using this
theorem pages_ok {i : Nat} (h : Has sg L) (e : L[i]? = some (s, stB d size p n m jv wt)) : Ev (tab N (dp + 1) 35 [.gp s 0] sg) (Rt fun v sg' => v = vI n ∧ sg' = sg) := by
  refine ev_of ((t35 ..).trans (pages_Store_Pages.main ..)) ?_
  refine ev_else (by decide) ?_
  exact ev_ldA h i e rfl (ev_O rfl (ev_ret ⟨rfl, rfl⟩))
theorem has1_ok {g i j : Nat} {a : Int} {t : ByteArray} (h : Has sg L) (e1 : L[j]? = some (g, .mk [.gp s 0])) (e : L[i]? = some (s, stB d size p n m jv wt)) (ha : a < n) :
    Ev (tab N (dp + 1) 248 [.agg [vI a, vS t], .gp g 0] sg) (Rt fun v sg' => v = vB false ∧ sg' = sg) := by
  refine ev_of ((t248 ..).trans (pages_Store_has_1.main ..)) ?_
  refine ev_I rfl ?_
  refine ev_ldA h j e1 rfl (ev_O (a := .gp s 0) rfl (ev_O (a := .gp s 2) rfl ?_))
  refine ev_ldA h i e rfl (ev_O (a := n) rfl (ev_ret ⟨?_, rfl⟩))
  simp; omega
theorem sthas_ok {i : Nat} (hI : ImH a1 l H) (hH : ∀ q, q ∈ H → q ∈ L) (h : Has sg L) (e : L[i]? = some (s, stB d size p n m jv wt)) (hl : ImOk n l) (hN : l.length < N) (hlen : l.length ≤ 100000) :
    Ev (tab N (dp + 4) 140 [.gp s 0, a1] sg) (Rt fun v sg' => v = vB true ∧ Has sg' L) := by
  refine ev_of ((t140 ..).trans (pages_Store_has.main ..)) (ev_A hI.plain ?_)
  have h0 := h.new (.mk [.gp s 0])
  generalize sg.length = g at h0 ⊢
  refine ev_call (φ := fun v sg' => v = vB false ∧ Has sg' L) ?_ rfl ?_
  · refine ev_of ((t247 ..).trans (slices_ContainsFunc_journal_Image_journal_Image.main ..)) (ev_A hI.plain ?_)
    refine ev_call (φ := fun v sg' => v = vI (-1) ∧ Has sg' L) ?_ rfl ?_
    · refine ev_of ((t334 ..).trans (slices_IndexFunc_journal_Image_journal_Image.main ..)) ?_
      refine ev_O hI.len ?_
      refine ev_loop l.length (fun i st => ∃ sg', st = mkS [0, 1, 7, 8] [.v a1 false, .v (.clo 248 [] [.gp g 0]) false, .v (vI l.length) false, .v (vI i) false] [none, none, none, none] (.sg sg') ∧ Has sg' ((g, .mk [.gp s 0]) :: L)) hN ⟨_, rfl, h0⟩ ?_
      rintro i2 st K hi ⟨sg1, rfl, h1⟩ hnext hexit hret
      refine ev_of (slices_IndexFunc_journal_Image_journal_Image.r0 ..) ?_
      refine ev_ite (fun hlt => ?_) (fun hge => ?_)
      · have hlt : i2 < l.length := by simpa using hlt
        refine ev_im hI h1 (fun q hq => List.mem_cons_of_mem _ (hH q hq)) hlt ?_
        refine ev_call (f := 248) (has1_ok (j := 0) (i := i + 1) h1 rfl e (hl.rg _ (List.getElem_mem hlt)).1.2) rfl ?_
        rintro _ _ ⟨rfl, rfl⟩
        refine ev_B rfl (ev_else (by decide) ?_)
        rw [i64_nat (by omega)]
        exact hnext _ hlt ⟨_, rfl, h1⟩
      · refine hexit _ _ ?_
        exact ev_of (slices_IndexFunc_journal_Image_journal_Image.k0_2 ..) (ev_ret ⟨rfl, h1.tail⟩)
    · rintro _ sg1 ⟨rfl, h1⟩
      exact ev_I rfl (ev_ret ⟨rfl, h1⟩)
  · rintro _ sg1 ⟨rfl, h1⟩
    exact ev_B rfl (ev_ret ⟨rfl, h1⟩)
/-- Pages after images. -/
def setIm (l : List (Int × ByteArray)) (pgs : List ByteArray) : List ByteArray := l.foldl (fun s p => s.set p.1.toNat p.2) pgs
theorem setIm_len : ∀ (l : List (Int × ByteArray)) (pgs : List ByteArray), (setIm l pgs).length = pgs.length
  | [], pgs => rfl
  | x :: l, pgs => by
    show (setIm l (pgs.set x.1.toNat x.2)).length = _
    rw [setIm_len l, List.length_set]
theorem setIm_snoc (l : List (Int × ByteArray)) (x : Int × ByteArray) (pgs : List ByteArray) : setIm (l ++ [x]) pgs = (setIm l pgs).set x.1.toNat x.2 := by simp [setIm]
theorem setIm_size : ∀ {l : List (Int × ByteArray)} {pgs : List ByteArray}, (∀ p, p ∈ l → p.2.size = 480) → (∀ t, t ∈ pgs → t.size = 480) → ∀ t, t ∈ setIm l pgs → t.size = 480
  | [], pgs, _, h2, t, ht => h2 t ht
  | x :: l, pgs, h1, h2, t, ht => by
    refine setIm_size (l := l) (pgs := pgs.set x.1.toNat x.2) (fun p hp => h1 p (by simp [hp])) (fun t ht => ?_) t ht
    rcases List.mem_or_eq_of_mem_set ht with h | rfl
    · exact h2 t h
    · exact h1 x (by simp)
theorem change_ok {lf : List (Int × Unit)} (hI : ImH a1 l H) (hH : ∀ q, q ∈ H → q ∈ R) (h : Has sg ((s, stB d size p n m jv wt) :: (p, .mk (pgs.map vS)) :: (m, .map (emb tV lf)) :: R)) (hpl : pgs.length = n) (hfr : FrOk n lf) (hl : ImOk n l) (hN : l.length < N) (hlen : l.length ≤ 100000) :
    Ev (tab N (dp + 1) 143 [.gp s 0, a1] sg) (Rt fun v sg' => ∃ lf', FrOk n lf' ∧ Has sg' ((s, stB d size p n m jv wt) :: (p, .mk ((setIm l pgs).map vS)) :: (m, .map (emb tV lf')) :: R)) := by
  refine ev_of ((t143 ..).trans (pages_Store_change.main ..)) ?_
  refine ev_O hI.len ?_
  refine ev_loop l.length (fun i st => ∃ sg' lf', st = mkS [0, 6, 7, 8] [.v (.gp s 0) false, .v a1 false, .v (vI l.length) false, .v (vI i) false] [none, none, none, none] (.sg sg') ∧ FrOk n lf' ∧
    Has sg' ((s, stB d size p n m jv wt) :: (p, .mk ((setIm (l.take i) pgs).map vS)) :: (m, .map (emb tV lf')) :: R)) hN ⟨_, lf, rfl, hfr, h⟩ ?_
  rintro i st K hi ⟨sg1, lf1, rfl, hf1, h1⟩ hnext hexit hret
  refine ev_of (pages_Store_change.r0 ..) ?_
  refine ev_ite (fun hlt => ?_) (fun hge => ?_)
  · have hlt : i < l.length := by simpa using hlt
    have hx := hl.rg l[i] (List.getElem_mem hlt)
    have e0 : setIm (l.take (i + 1)) pgs = (setIm (l.take i) pgs).set l[i].1.toNat l[i].2 := by
      rw [List.take_add_one, List.getElem?_eq_getElem hlt]; exact setIm_snoc ..
    refine ev_im hI h1 (fun q hq => by simp [hH q hq]) hlt (ev_bif rfl (ev_L ?_))
    generalize l[i] = x at hx e0
    obtain ⟨a, t⟩ := x
    obtain ⟨⟨hx1, hx2⟩, hx3⟩ := hx
    simp only at hx1 hx2 hx3 e0
    obtain ⟨a, rfl⟩ : ∃ a' : Nat, a = a' := ⟨a.toNat, by omega⟩
    refine ev_ldA h1 0 rfl rfl (ev_I rfl (ev_S rfl ?_))
    refine ev_elem (by omega) hx2 ?_
    have hlen1 : a < (setIm (l.take i) pgs).length := by rw [setIm_len]; omega
    refine ev_st h1 1 rfl rfl ?_ ?_ fun sg2 h2 => ?_
    · show 0 + ((a : Nat) : Int).toNat * 1 + 1 ≤ ((setIm (l.take i) pgs).map vS).length
      rw [List.length_map]; simp; omega
    · show 0 < ((setIm (l.take i) pgs).map vS).length
      rw [List.length_map]; omega
    replace h2 : Has sg2 ((s, stB d size p n m jv wt) :: (p, .mk (splice ((setIm (l.take i) pgs).map vS) (0 + ((a : Nat) : Int).toNat * 1) (vS t).cells)) :: (m, .map (emb tV lf1)) :: R) := h2
    rw [splice_map vS rfl hlen1] at h2
    refine ev_ldA h2 0 rfl rfl (ev_I rfl (ev_A rfl ?_))
    refine ev_map h2 2 rfl ?_
    refine ev_O (mSet_emb tV _ () _) ?_
    rw [i64_nat (by omega)]
    refine hnext _ hlt ⟨_, insM a () lf1, rfl, hf1.ins ⟨by omega, hx2⟩, ?_⟩
    have h3 := h2.put (n := 2) (.map (emb tV (insM a () lf1))) rfl
    rw [e0]
    exact h3
  · have hge : i = l.length := by
      have : l.length ≤ i := by simpa using hge
      omega
    subst hge
    refine hexit _ _ ?_
    rw [List.take_length] at h1
    exact ev_of (pages_Store_change.k0_1 ..) (ev_ret ⟨lf1, hf1, h1⟩)
theorem stroom_ok {L : Hp} {i i2 j : Nat} {num : Int} (h : Has sg L) (e : L[i]? = some (s, stB d size p n m (.gp j 0) wt)) (e2 : L[i2]? = some (j, jnB d size ep at_ num)) (h1 : at_ ≤ size) (h2 : size ≤ 1024) :
    Ev (tab N (dp + 2) 36 [.gp s 0] sg) (Rt fun v sg' => v = vI ((size - at_ : Nat) : Int) ∧ sg' = sg) := by
  refine ev_of ((t36 ..).trans (pages_Store_Room.main ..)) (ev_else (by decide) ?_)
  refine ev_ldA h i e rfl (ev_A rfl ?_)
  have hj : Has sg ((j, jnB d size ep at_ num) :: []) := ⟨by simp, fun q hq => by simp at hq; subst hq; exact h.at e2⟩
  refine ev_call (room_ok hj h1 h2) rfl ?_
  rintro _ _ ⟨rfl, rfl⟩
  exact ev_I rfl (ev_ret ⟨rfl, rfl⟩)
theorem stepoch_ok {L : Hp} {i i2 j : Nat} {num : Int} (h : Has sg L) (e : L[i]? = some (s, stB d size p n m (.gp j 0) wt)) (e2 : L[i2]? = some (j, jnB d size ep at_ num)) :
    Ev (tab N (dp + 2) 39 [.gp s 0] sg) (Rt fun v sg' => v = vU ep ∧ sg' = sg) := by
  refine ev_of ((t39 ..).trans (pages_Store_Epoch.main ..)) (ev_else (by decide) ?_)
  refine ev_ldA h i e rfl (ev_A rfl ?_)
  have hj : Has sg ((j, jnB d size ep at_ num) :: []) := ⟨by simp, fun q hq => by simp at hq; subst hq; exact h.at e2⟩
  refine ev_call (epoch_ok hj) rfl ?_
  rintro _ _ ⟨rfl, rfl⟩
  exact ev_I rfl (ev_ret ⟨rfl, rfl⟩)
theorem read_ok {a : Int} (hA : St1 s n size pgs A) (h : Has sg (A ++ R)) :
    Ev (tab N (dp + 2) 31 [.gp s 0, vI a] sg) (Rt fun v sg' => v = (if 0 ≤ a ∧ a < n then .tup [vS (pgs.getD a.toNat ⟨#[]⟩), vI 0] else .tup [vS ⟨#[]⟩, vI 18]) ∧ sg' = sg) := by
  obtain ⟨at_, d, p, m, j, ep, num, wt, l, k, Ad, rfl, hD, hk, hat, hpl, hfr, hsz, hn1, hn2, hs1, hs2⟩ := hA
  refine ev_of ((t31 ..).trans (pages_Store_Read.main ..)) ?_
  refine ev_ite (fun h1 => ?_) (fun h1 => ev_ret ⟨?_, rfl⟩)
  · have h1 : 0 ≤ a := by simpa using h1
    refine ev_call (pages_ok (i := 0) h rfl) rfl ?_
    rintro _ _ ⟨rfl, rfl⟩
    refine ev_I rfl (ev_ite (fun h2 => ev_ret ⟨?_, rfl⟩) (fun h2 => ?_))
    · have h2 : (n : Int) ≤ a := by simpa using h2
      rw [if_neg (by omega)]
    · have h2 : a < n := by simpa using h2
      obtain ⟨b, rfl⟩ : ∃ b : Nat, a = b := ⟨a.toNat, by omega⟩
      rw [if_pos ⟨h1, h2⟩]
      refine ev_ldA h 0 rfl rfl (ev_elem h1 h2 ?_)
      refine ev_ldS h 1 rfl (a := pgs.getD b ⟨#[]⟩) ?_ (ev_ret ⟨by simp, rfl⟩)
      simp [List.getElem?_eq_getElem (show b < pgs.length by omega)]
  · have h1 : ¬ 0 ≤ a := by simpa using h1
    rw [if_neg (by omega)]
def cmtTail (C : CallF) (m0 : Nat) (a1 : AVal) (sg' : Sg) : Option Out :=
  withO (loadC none sg' (AVal.gp m0 (4 : Nat))) fun p => withA p.fst[p.snd]? fun (r : AVal) => withA (plainA r) fun (a : AVal) => withA (plainA a1) fun (a_1 : AVal) =>
    withOut (bif Nat.blt (142 : Nat) (1000000 : Nat) then C (142 : FuncId) [a, a_1] sg' else none)
      (fun v sg' => withI IntKind.i64 (some v) fun (n : Int) => if (n != (0 : Int)) = true then some (Out.ret (AVal.at (Value.int IntKind.i64 n)) sg') else withA (plainA a1) fun (a : AVal) =>
        withOut (bif Nat.blt (143 : Nat) (1000000 : Nat) then C (143 : FuncId) [AVal.gp m0 (0 : Nat), a] sg' else none)
          (fun v sg' => withO (loadC none sg' (AVal.gp m0 (5 : Nat))) fun p => withI IntKind.i64 p.fst[p.snd]? fun (n : Int) =>
            withO (storeG none sg' (AVal.gp m0 (5 : Nat)) (1 : Nat) (AVal.at (Value.int IntKind.i64 (IntKind.i64.wrap (n + (1 : Int)))))) fun (sg : Sg) => some (Out.ret (AVal.at (Value.int IntKind.i64 (0 : Int))) sg))
          fun v sg' => some (Out.pan v sg'))
      fun v sg' => some (Out.pan v sg')
theorem tail_ok (hI : ImH a1 l H) (hH : ∀ q, q ∈ H → q ∈ R) (hA : StA s n size at_ pgs A) (h : Has sg (A ++ R)) (hl : ImOk n l) (hne : l ≠ []) (hroom : at_ + l.length < size) (hN : 200000 < N) :
    Ev (cmtTail (tab N (dp + 5)) s a1 sg) (Rt fun v sg' => v = vI 0 ∧ ∃ A', St1 s n size (setIm l pgs) A' ∧ Has sg' (A' ++ R)) := by
  have hll := imOk_len hl
  obtain ⟨d, p, m, j, ep, num, wt, lf, k, Ad, rfl, hD, hk, hat, hpl, hfr, hsz, hn1, hn2, hs1, hs2⟩ := hA
  unfold cmtTail
  refine ev_ldA h 0 rfl rfl (ev_A rfl (ev_A hI.plain ?_))
  have h1 : Has sg ([(s, stB d size p n m (.gp j 0) wt), (p, .mk (pgs.map vS)), (m, .map (emb tV lf))] ++ (((j, jnB d size ep at_ num) :: Ad) ++ R)) := h
  refine ev_call (append_ok hI hD (h1.sw _ ((j, jnB d size ep at_ num) :: Ad)) (imOk_mono hl hn2) hne hroom hs2 (by omega) (by omega) (by omega) (by omega) (fun q hq => by simp [hH q hq])) rfl ?_
  rintro _ sg2 ⟨rfl, num2, A2, hA2, h2⟩
  refine ev_I rfl (ev_else (by decide) (ev_A hI.plain ?_))
  replace h2 := Has.sw ((j, jnB d size ep (at_ + l.length + 1) num2) :: A2) [_, _, _] h2
  refine ev_call (change_ok (R := ((j, jnB d size ep (at_ + l.length + 1) num2) :: A2) ++ R) hI (fun q hq => by simp [hH q hq]) h2 hpl hfr hl (by omega) (by omega)) rfl ?_
  rintro _ sg3 ⟨lf3, hf3, h3⟩
  refine ev_ldI h3 0 rfl rfl ?_
  refine ev_st h3 0 rfl rfl (Nat.le_of_ble_eq_true rfl) (Nat.succ_pos _) fun sg4 h4 => ?_
  refine ev_ret ⟨rfl, _, ⟨at_ + l.length + 1, d, p, m, j, ep, num2, IntKind.i64.wrap (wt + 1), lf3, _, A2, rfl, hA2, by omega, by omega, by rw [setIm_len]; exact hpl, hf3, setIm_size (fun q hq => (hl.rg q hq).2) hsz, hn1, hn2, hs1, hs2⟩, h4⟩
theorem commit_ok (hI : ImH a1 l H) (hH : ∀ q, q ∈ H → q ∈ R) (hA : St1 s n size pgs A) (h : Has sg (A ++ R)) (hl : ImOk n l) (hne : l ≠ []) (hN : 200000 < N) :
    Ev (tab N (dp + 7) 32 [.gp s 0, a1] sg) (Rt fun v sg' => (size ≤ l.length ∧ v = vI 14 ∧ Has sg' (A ++ R)) ∨ (l.length < size ∧ v = vI 0 ∧ ∃ A', St1 s n size (setIm l pgs) A' ∧ Has sg' (A' ++ R))) := by
  have hll := imOk_len hl
  obtain ⟨at_, hA⟩ := hA
  have hA0 := hA
  obtain ⟨d, p, m, j, ep, num, wt, lf, k, Ad, rfl, hD, hk, hat, hpl, hfr, hsz, hn1, hn2, hs1, hs2⟩ := hA
  refine ev_of ((t32 ..).trans (pages_Store_Commit.main ..)) (ev_if (by decide) (ev_A hI.plain ?_))
  refine ev_call (jcheck_ok hI hl hn2 hne (by omega) (by omega) h (fun q hq => by simp [hH q hq])) rfl ?_
  rintro _ sg1 ⟨rfl, h1⟩
  refine ev_I rfl (ev_if rfl (ev_A hI.plain ?_))
  refine ev_call (sthas_ok (i := 0) hI (fun q hq => by simp [hH q hq]) h1 rfl hl (by omega) (by omega)) rfl ?_
  rintro _ sg2 ⟨rfl, h2⟩
  have eL := hI.len
  refine ev_B rfl (ev_else (by decide) (ev_O eL ?_))
  refine ev_ldI h2 0 rfl rfl (ev_ite (fun hge => ?_) (fun hlt => ?_))
  · have hge : size ≤ l.length := by
      have : (size : Int) ≤ l.length := by simpa using hge
      omega
    exact ev_ret (.inl ⟨hge, rfl, h2⟩)
  · have hlt : l.length < size := by
      have : ¬ (size : Int) ≤ l.length := by simpa using hlt
      omega
    refine ev_ldA h2 0 rfl rfl (ev_A rfl ?_)
    refine ev_call (dk_down hD (h2.sw [_, _, _, _] Ad)) rfl ?_
    rintro _ _ ⟨rfl, rfl⟩
    refine ev_B rfl (ev_else (by decide) (ev_O eL ?_))
    refine ev_call (stroom_ok (i := 0) (i2 := 3) h2 rfl rfl hat hs2) rfl ?_
    rintro _ _ ⟨rfl, rfl⟩
    refine ev_I rfl (ev_ite (fun hr => ?_) (fun hr => ?_))
    · refine ev_call (stepoch_ok (i := 0) (i2 := 3) h2 rfl rfl) rfl ?_
      rintro _ _ ⟨rfl, rfl⟩
      refine ev_I rfl (ev_call (checkpoint_ok hA0 h2 hN) rfl ?_)
      rintro _ sg3 ⟨rfl, A3, hA3, h3⟩
      refine ev_I rfl (ev_else (by decide) ?_)
      exact (tail_ok (dp := dp + 1) hI hH hA3 h3 hl hne (by omega) hN).imt fun v sg' h => .inr ⟨hlt, h⟩
    · have hr : l.length < size - at_ := by
        have : ¬ ((size - at_ : Nat) : Int) ≤ l.length := by simpa using hr
        omega
      exact (tail_ok (dp := dp + 1) hI hH hA0 h2 hl hne (by omega) hN).imt fun v sg' h => .inr ⟨hlt, h⟩
end Go.Abs
