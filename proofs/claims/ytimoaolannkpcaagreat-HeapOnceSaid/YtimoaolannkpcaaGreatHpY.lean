/- The heap: what is committed of a transaction; Do. -/
import Derived.Test.YtimoaolannkpcaaGreatHpX
set_option linter.unusedVariables false
set_option linter.unusedSimpArgs false
set_option linter.unusedSectionVars false
namespace Go.Abs
open Go
set_option linter.unusedVariables false
set_option maxRecDepth 100000
/-- What is told of one page. -/
def im1 (over : List (Int × ByteArray)) (pgs : List ByteArray) (k : Int) : Option (Int × ByteArray) := match lk k over with
  | some t => if eqS (pgs.getD k.toNat ⟨#[]⟩) t = true then none else some (k, t)
  | none => none
def imgs (over : List (Int × ByteArray)) (pgs : List ByteArray) (ks : List Int) : List (Int × ByteArray) := ks.filterMap (im1 over pgs)
theorem im1_key {over : List (Int × ByteArray)} {pgs : List ByteArray} {k : Int} {p : Int × ByteArray} (h : im1 over pgs k = some p) : p.1 = k ∧ lk k over = some p.2 := by
  unfold im1 at h
  split at h
  · rename_i t ht
    split at h
    · cases h
    · cases h; exact ⟨rfl, ht⟩
  · cases h
theorem imgs_keys (over : List (Int × ByteArray)) (pgs : List ByteArray) : ∀ ks : List Int, ((imgs over pgs ks).map (·.1)).Sublist ks
  | [] => List.Sublist.slnil
  | k :: ks => by
    have ih := imgs_keys over pgs ks
    unfold imgs at ih ⊢
    rw [List.filterMap_cons]
    split
    · exact ih.cons _
    · rename_i p hp
      rw [List.map_cons, (im1_key hp).1]
      exact ih.cons_cons _
theorem imgs_mem {over : List (Int × ByteArray)} {pgs : List ByteArray} {ks : List Int} {p : Int × ByteArray} (h : p ∈ imgs over pgs ks) : p.1 ∈ ks ∧ lk p.1 over = some p.2 := by
  obtain ⟨k, hk, he⟩ := List.mem_filterMap.1 h
  obtain ⟨h1, h2⟩ := im1_key he
  rw [h1]; exact ⟨hk, h2⟩
theorem imgs_ok {n : Nat} {over : List (Int × ByteArray)} {pgs : List ByteArray} {ks : List Int} (hO : OvOk n over) (hk : ks.Nodup) : ImOk n (imgs over pgs ks) :=
  ⟨(imgs_keys over pgs ks).nodup hk, fun p hp => hO.rg p (lk_mem (imgs_mem hp).2)⟩
theorem setIm_get {d : ByteArray} : ∀ {l : List (Int × ByteArray)} {pgs : List ByteArray} {i : Nat}, (l.map (·.1)).Nodup → (∀ p, p ∈ l → 0 ≤ p.1 ∧ p.1 < (pgs.length : Int)) → i < pgs.length → (setIm l pgs).getD i d = (lk (i : Int) l).getD (pgs.getD i d)
  | [], pgs, i, _, _, _ => rfl
  | (k, t) :: l, pgs, i, hn, hr, hi => by
    simp only [List.map_cons, List.nodup_cons] at hn
    have hk := hr (k, t) (by simp)
    show (setIm l (pgs.set k.toNat t)).getD i d = _
    rw [setIm_get hn.2 (fun p hp => by rw [List.length_set]; exact hr p (by simp [hp])) (by rw [List.length_set]; exact hi)]
    simp only [lk]
    by_cases he : (i : Int) = k
    · have hl : lk (i : Int) l = none := by rw [he]; exact lk_none.2 hn.1
      rw [if_pos he, hl]
      have : k.toNat = i := by omega
      rw [this]
      simp [List.getD_eq_getElem?_getD, hi]
    · rw [if_neg he]
      have : k.toNat ≠ i := by omega
      simp [List.getD_eq_getElem?_getD, List.getElem?_set_ne this]
theorem lk_imgs {over : List (Int × ByteArray)} {pgs : List ByteArray} {k : Int} : ∀ {ks : List Int}, ks.Nodup → lk k (imgs over pgs ks) = if k ∈ ks then (im1 over pgs k).map (·.2) else none
  | [], _ => rfl
  | x :: ks, hn => by
    rw [List.nodup_cons] at hn
    have ih := lk_imgs (over := over) (pgs := pgs) (k := k) hn.2
    unfold imgs at ih ⊢
    rw [List.filterMap_cons]
    by_cases he : k = x
    · subst he
      rw [if_neg hn.1] at ih
      rw [if_pos (by simp)]
      split
      · rename_i hx; rw [hx, ih]; rfl
      · rename_i p hp
        obtain ⟨a, b⟩ := p
        have := (im1_key hp).1
        simp only at this
        subst this
        rw [hp]
        simp [lk]
    · have e : (k ∈ x :: ks) ↔ (k ∈ ks) := by simp [he]
      simp only [e]
      rw [← ih]
      split
      · rfl
      · rename_i p hp
        obtain ⟨a, b⟩ := p
        have := (im1_key hp).1
        simp only at this
        subst this
        simp [lk, he]
/-- The pages after a transaction. -/
theorem imgs_get {n : Nat} {over : List (Int × ByteArray)} {pgs : List ByteArray} {ks : List Int} (hO : OvOk n over) (hk : ks.Nodup) (hm : ∀ x, x ∈ ks ↔ x ∈ over.map (·.1)) (hl : pgs.length = n) {i : Nat} (hi : i < n) :
    (setIm (imgs over pgs ks) pgs).getD i ⟨#[]⟩ = cur over pgs (i : Int) := by
  have hI := imgs_ok (pgs := pgs) hO hk
  rw [setIm_get hI.nd (fun p hp => by rw [hl]; exact (hI.rg p hp).1) (by omega), lk_imgs hk]
  unfold cur
  simp only [Int.toNat_natCast]
  cases hlk : lk (i : Int) over with
  | none =>
    have : (i : Int) ∉ ks := by rw [hm]; exact lk_none.1 hlk
    rw [if_neg this]
  | some t =>
    have : (i : Int) ∈ ks := by rw [hm]; exact List.mem_map.2 ⟨_, lk_mem hlk, rfl⟩
    rw [if_pos this]
    unfold im1
    rw [hlk]
    simp only [Int.toNat_natCast]
    split
    · rename_i he; simpa using eqS_iff.1 he
    · rfl
variable {N dp : Nat} {sg : Sg} {h s n size m k : Nat} {A R L : Hp} {pgs : List ByteArray} {over : List (Int × ByteArray)}
theorem images_ok (hA : St1 s n size pgs A) (hO : OvOk n over) (hh : Has sg ((h, hpB s m) :: (m, .map (emb vS over)) :: (A ++ R))) (hN : 5000 < N) :
    Ev (tab N (dp + 3) 122 [.gp h 0] sg) (Rt fun v sg' => ∃ ks H, ks.Nodup ∧ (∀ x, x ∈ ks ↔ x ∈ over.map (·.1)) ∧ ImH v (imgs over pgs ks) H ∧ Has sg' (H ++ ((h, hpB s m) :: (m, .map (emb vS over)) :: (A ++ R)))) := by
  obtain ⟨f1, f2, f3, f4⟩ := hA.facts
  have hol := hO.len
  refine ev_of ((t122 ..).trans (heap_Heap_images.main ..)) (ev_ldA hh 0 rfl rfl (ev_A rfl ?_))
  refine ev_call (φ := fun v sg' => ∃ g, v = .clo 320 [] [.gp g 0] ∧ Has sg' ((g, .mk [.gm m]) :: ((h, hpB s m) :: (m, .map (emb vS over)) :: (A ++ R)))) ?_ rfl ?_
  · refine ev_of ((t227 ..).trans (maps_Keys_map_intstring_int_string.main ..)) ?_
    exact ev_A rfl (ev_ret ⟨_, rfl, hh.new _⟩)
  rintro _ sg1 ⟨g, rfl, h1⟩
  refine ev_A rfl ?_
  refine ev_call (sorted_ok (i := 0) (i' := 2) h1 rfl rfl rfl (fun x hx => by
    obtain ⟨q, hq, rfl⟩ := List.mem_map.1 hx
    have := (hO.rg q hq).1; omega) (by omega)) rfl ?_
  rintro _ sg2 ⟨q, rfl, h2⟩
  have hnd : (sortI (over.map (·.1))).Nodup := (sortI_pm _).nodup_iff.2 hO.nd
  have hmem : ∀ x, x ∈ sortI (over.map (·.1)) ↔ x ∈ over.map (·.1) := fun x => (sortI_pm _).mem_iff
  have hkn : (sortI (over.map (·.1))).length ≤ n := by rw [(sortI_pm _).length_eq, List.length_map]; exact hol
  generalize sortI (over.map (·.1)) = ks at h2 hnd hmem hkn ⊢
  refine ev_O (kV_len q ks) ?_
  have h3 : Has sg2 (kH q ks ++ ((h, hpB s m) :: (m, .map (emb vS over)) :: (A ++ R))) :=
    h2.sub (List.Sublist.append (List.Sublist.refl _) (.cons _ (List.Sublist.refl _)))
  have hdrop : ∀ {sg' : Sg} {H : Hp}, Has sg' (H ++ (kH q ks ++ ((h, hpB s m) :: (m, .map (emb vS over)) :: (A ++ R)))) → Has sg' (H ++ ((h, hpB s m) :: (m, .map (emb vS over)) :: (A ++ R))) :=
    fun hx => hx.sub (List.Sublist.append (List.Sublist.refl _) (List.sublist_append_right _ _))
  refine ev_loop ks.length (fun i st => ∃ sg',
      (imgs over pgs (ks.take i) = [] ∧ st = mkS [0, 3, 13, 14, 15] [.v (.gp h 0) false, .v (.sl true 2 []) true, .v (kV q ks) false, .v (vI ks.length) false, .v (vI i) false] [none, none, none, none, none] (.sg sg') ∧
        Has sg' (kH q ks ++ ((h, hpB s m) :: (m, .map (emb vS over)) :: (A ++ R)))) ∨
      (∃ g, imgs over pgs (ks.take i) ≠ [] ∧ st = mkS [0, 3, 13, 14, 15] [.v (.gp h 0) false, .v (.gs g 2 0 (imgs over pgs (ks.take i)).length) false, .v (kV q ks) false, .v (vI ks.length) false, .v (vI i) false] [none, none, none, none, none] (.sg sg') ∧
        Has sg' ((g, .mk (flatI (imgs over pgs (ks.take i)))) :: (kH q ks ++ ((h, hpB s m) :: (m, .map (emb vS over)) :: (A ++ R)))))) (by omega) ⟨_, .inl ⟨rfl, rfl, h3⟩⟩ ?_
  rintro i st K hi hst hnext hexit hret
  have snoc : ∀ (hlt : i < ks.length), imgs over pgs (ks.take (i + 1)) = imgs over pgs (ks.take i) ++ (im1 over pgs ks[i]).toList := fun hlt => by
    unfold imgs
    rw [List.take_add_one, List.getElem?_eq_getElem hlt, List.filterMap_append]
    cases h : im1 over pgs ks[i] <;> simp [h]
  rcases hst with ⟨sg3, ⟨hnil, rfl, h4⟩ | ⟨g2, hne, rfl, h4⟩⟩
  · refine ev_of (heap_Heap_images.r0 ..) ?_
    refine ev_ite (fun hlt => ?_) (fun hge => ?_)
    · have hlt : i < ks.length := by simpa using hlt
      have snoc := snoc hlt
      have hko := (hmem ks[i]).1 (List.getElem_mem hlt)
      obtain ⟨⟨k0, t⟩, hpm, hpe⟩ := List.mem_map.1 hko
      simp only at hpe
      have hrg := hO.rg _ hpm
      have hlk : lk ks[i] over = some t := by rw [← hpe]; exact mem_lk hO.nd hpm
      have hki : (ks.map vI)[0 + ((i : Nat) : Int).toNat * 1]? = some (vI ks[i]) := by simp [List.getElem?_eq_getElem hlt]
      have hkr : 0 ≤ ks[i] ∧ ks[i] < (n : Int) := by rw [← hpe]; exact hrg.1
      generalize ks[i] = x at snoc hlk hki hkr
      cases ks with
      | nil => simp at hlt
      | cons y ys =>
        refine ev_elem (by omega) (Int.ofNat_lt.2 hlt) ?_
        refine ev_ldI h4 0 rfl hki ?_
        refine ev_ldA h4 1 rfl rfl (ev_A rfl ?_)
        refine ev_call (read_ok hA h4.tail.tail.tail) rfl ?_
        rintro _ _ ⟨rfl, rfl⟩
        rw [if_pos hkr]
        refine ev_T (ev_bif rfl (ev_S rfl (ev_I rfl ?_)))
        refine ev_ldA h4 1 rfl rfl (ev_A rfl (ev_map h4 2 rfl (ev_O (mGet_emb vS ..) ?_)))
        rw [hlk]
        refine ev_A (a := vS t) rfl (ev_S rfl (ev_ite (fun hd => ?_) (fun hd => ?_)))
        · have him : im1 over pgs x = some (x, t) := by
            unfold im1; rw [hlk]; simp only
            rw [if_neg (by simpa using hd)]
          refine ev_ldA h4 1 rfl rfl (ev_A rfl (ev_map h4 2 rfl (ev_O (mGet_emb vS ..) ?_)))
          rw [hlk]
          refine ev_A (a := vS t) rfl (ev_bif rfl (ev_L (ev_bif rfl ?_)))
          have h5 := h4.new (.mk [vI x, vS t])
          refine ev_O (flatG_gs (h5.at (n := 0) rfl) (Nat.le_of_ble_eq_true rfl) (Nat.succ_pos _)) ?_
          refine ev_bie rfl (ev_if (show (1 : Nat) * 24 ≤ 35184372088832 by decide) ?_)
          refine ev_app_nil h5 fun w' sg4 h6 => ?_
          rw [i64_nat (by omega)]
          rw [him, hnil] at snoc
          refine hnext _ hlt ⟨sg4, .inr ⟨w', by rw [snoc]; simp, ?_, ?_⟩⟩
          · rw [snoc]; rfl
          · rw [snoc]; exact h6.sub (.cons_cons _ (.cons _ (List.Sublist.refl _)))
        · have him : im1 over pgs x = none := by
            unfold im1; rw [hlk]; simp only
            rw [if_pos (by simpa using hd)]
          rw [i64_nat (by omega)]
          rw [him, hnil] at snoc
          exact hnext _ hlt ⟨_, .inl ⟨snoc, rfl, h4⟩⟩
    · have hge : i = ks.length := by
        have : ks.length ≤ i := by simpa using hge
        omega
      subst hge
      rw [List.take_length] at hnil
      refine hexit _ _ ?_
      refine ev_of (heap_Heap_images.k0_1 ..) (ev_ret ⟨ks, [], hnd, hmem, .inl ⟨true, ?_, rfl⟩, hdrop (H := []) h4⟩)
      rw [hnil]; rfl
  · refine ev_of (heap_Heap_images.r0_2 ..) ?_
    refine ev_ite (fun hlt => ?_) (fun hge => ?_)
    · have hlt : i < ks.length := by simpa using hlt
      have snoc := snoc hlt
      have hko := (hmem ks[i]).1 (List.getElem_mem hlt)
      obtain ⟨⟨k0, t⟩, hpm, hpe⟩ := List.mem_map.1 hko
      simp only at hpe
      have hrg := hO.rg _ hpm
      have hlk : lk ks[i] over = some t := by rw [← hpe]; exact mem_lk hO.nd hpm
      have hki : (ks.map vI)[0 + ((i : Nat) : Int).toNat * 1]? = some (vI ks[i]) := by simp [List.getElem?_eq_getElem hlt]
      have hkr : 0 ≤ ks[i] ∧ ks[i] < (n : Int) := by rw [← hpe]; exact hrg.1
      have hil : (imgs over pgs (ks.take i)).length ≤ n := by
        have := imOk_len (imgs_ok (pgs := pgs) hO ((List.take_sublist i ks).nodup hnd))
        exact this
      generalize ks[i] = x at snoc hlk hki hkr
      cases ks with
      | nil => simp at hlt
      | cons y ys =>
        refine ev_elem (by omega) (Int.ofNat_lt.2 hlt) ?_
        refine ev_ldI h4 1 rfl hki ?_
        refine ev_ldA h4 2 rfl rfl (ev_A rfl ?_)
        refine ev_call (read_ok hA h4.tail.tail.tail.tail) rfl ?_
        rintro _ _ ⟨rfl, rfl⟩
        rw [if_pos hkr]
        refine ev_T (ev_bif rfl (ev_S rfl (ev_I rfl ?_)))
        refine ev_ldA h4 2 rfl rfl (ev_A rfl (ev_map h4 3 rfl (ev_O (mGet_emb vS ..) ?_)))
        rw [hlk]
        refine ev_A (a := vS t) rfl (ev_S rfl (ev_ite (fun hd => ?_) (fun hd => ?_)))
        · have him : im1 over pgs x = some (x, t) := by
            unfold im1; rw [hlk]; simp only
            rw [if_neg (by simpa using hd)]
          refine ev_ldA h4 2 rfl rfl (ev_A rfl (ev_map h4 3 rfl (ev_O (mGet_emb vS ..) ?_)))
          rw [hlk]
          refine ev_A (a := vS t) rfl (ev_bif rfl (ev_L (ev_bif rfl ?_)))
          have h5 := h4.new (.mk [vI x, vS t])
          refine ev_O (flatG_gs (h5.at (n := 0) rfl) (Nat.le_of_ble_eq_true rfl) (Nat.succ_pos _)) ?_
          refine ev_bie rfl (ev_if (show (1 : Nat) * 24 ≤ 35184372088832 by decide) ?_)
          have hpos : 0 < (imgs over pgs (List.take i (y :: ys))).length := List.length_pos_iff.2 hne
          refine ev_app_gs h5 1 rfl (by rw [flatI_len]; omega) (by rw [flatI_len]; omega) (by omega) fun w' sg4 h6 => ?_
          rw [i64_nat (by omega)]
          rw [him] at snoc
          refine hnext _ hlt ⟨sg4, .inr ⟨w', by rw [snoc]; simp, ?_, ?_⟩⟩
          · rw [snoc]; simp
          · rw [snoc]
            have e : imgs over pgs (List.take i (y :: ys)) ++ (some (x, t)).toList = imgs over pgs (List.take i (y :: ys)) ++ [(x, t)] := rfl
            rw [e, flatI_app]
            exact h6.sub (.cons_cons _ (.cons _ (.cons _ (List.Sublist.refl _))))
        · have him : im1 over pgs x = none := by
            unfold im1; rw [hlk]; simp only
            rw [if_pos (by simpa using hd)]
          rw [i64_nat (by omega)]
          rw [him] at snoc
          simp only [Option.toList, List.append_nil] at snoc
          exact hnext _ hlt ⟨_, .inr ⟨g2, by rw [snoc]; exact hne, by rw [snoc], by rw [snoc]; exact h4⟩⟩
    · have hge : i = ks.length := by
        have : ks.length ≤ i := by simpa using hge
        omega
      subst hge
      rw [List.take_length] at hne h4 ⊢
      refine hexit _ _ ?_
      exact ev_of (heap_Heap_images.k0_2 ..) (ev_A (a := .gs g2 2 0 _) rfl (ev_ret ⟨ks, [_], hnd, hmem, .inr ⟨g2, rfl, rfl⟩, hdrop (H := [_]) h4⟩))
/-- A transaction: what it comes to, if a call of its function is known. -/
theorem do_ok {f : FuncId} {first cap : List AVal} {P : List (Int × ByteArray) → Hp → Prop} {P' : Int → Hp → Prop} (hA : St1 s n size pgs A) (hs : Has sg (A ++ R)) (hf : Nat.blt f yBase = true) (hN : 200000 < N)
    (hcall : ∀ h m sg', Has sg' ((h, hpB s m) :: (m, .map (emb vS [])) :: (A ++ R)) → Ev (tab N (dp + 7) f (first ++ (.gp h 0 :: cap)) sg') (Rp
      (fun _ sg2 => ∃ over R2, OvOk n over ∧ P over R2 ∧ Has sg2 ((h, hpB s m) :: (m, .map (emb vS over)) :: (A ++ R2)))
      (fun v sg2 => ∃ k R2, v = stopV k ∧ k ≠ 0 ∧ P' k R2 ∧ Has sg2 (A ++ R2)))) :
    Ev (tab N (dp + 9) 18 [.gp s 0, .clo f first cap] sg) (Rt fun v sg2 => (∃ k R2, v = vI k ∧ k ≠ 0 ∧ P' k R2 ∧ Has sg2 (A ++ R2)) ∨
      (∃ over R2, OvOk n over ∧ P over R2 ∧ ((v = vI 14 ∧ size ≤ over.length ∧ Has sg2 (A ++ R2)) ∨ (v = vI 0 ∧ ∃ pgs' A', St1 s n size pgs' A' ∧ (∀ i, i < n → pgs'.getD i ⟨#[]⟩ = cur over pgs (i : Int)) ∧ Has sg2 (A' ++ R2))))) := by
  obtain ⟨f1, f2, f3, f4⟩ := hA.facts
  refine ev_of ((t18 ..).trans (heap_Do.main ..)) (ev_if (by decide) (ev_else (by decide) ?_))
  have h1 := hs.new (.map [])
  have h2 := h1.new (.mk [.gp s 0, .gm sg.length])
  generalize sg.length = m at h2 ⊢
  generalize (sg ++ [Box.map []]).length = h at h2 ⊢
  refine ev_call (φ := fun v sg2 => (∃ k R2, v = vI k ∧ k ≠ 0 ∧ P' k R2 ∧ Has sg2 (A ++ R2)) ∨ (v = vI 0 ∧ ∃ over R2, OvOk n over ∧ P over R2 ∧ Has sg2 ((h, hpB s m) :: (m, .map (emb vS over)) :: (A ++ R2)))) ?_ rfl ?_
  · obtain ⟨o, e1, e2⟩ := hcall h m _ h2
    refine ev_of (t121 ..) ?_
    simp only [ovTry, callC, hf, cond_true]
    rw [e1]
    cases o with
    | ret v sg2 => exact ⟨_, rfl, .inr ⟨rfl, e2⟩⟩
    | pan v sg2 =>
      obtain ⟨k, R2, rfl, hk, hP, h3⟩ := e2
      exact ⟨_, rfl, .inl ⟨k, R2, rfl, hk, hP, h3⟩⟩
  · rintro v sg2 (⟨k, R2, rfl, hk, hP, h3⟩ | ⟨rfl, over, R2, hO, hP, h3⟩)
    · exact ev_I rfl (ev_if (by simpa using hk) (ev_ret (.inl ⟨k, R2, rfl, hk, hP, h3⟩)))
    · refine ev_I rfl (ev_else (by decide) ?_)
      refine ev_call (images_ok hA hO h3 (by omega)) rfl ?_
      rintro v sg3 ⟨ks, H, hnd, hmem, hI, h4⟩
      have hIm := imgs_ok (pgs := pgs) hO hnd
      refine ev_O hI.len (ev_ite (fun h0 => ?_) (fun h0 => ?_))
      · have h0 : imgs over pgs ks = [] := by
          have : ((imgs over pgs ks).length : Int) = 0 := by simpa using h0
          exact List.eq_nil_of_length_eq_zero (by omega)
        refine ev_ret (.inr ⟨over, R2, hO, hP, .inr ⟨rfl, pgs, A, hA, fun i hi => ?_, h4.drop H |>.tail.tail⟩⟩)
        have := imgs_get hO hnd hmem f1 hi
        rw [h0] at this
        exact this
      · have h0 : imgs over pgs ks ≠ [] := fun e => h0 (by rw [e]; rfl)
        refine ev_A hI.plain ?_
        have h5 : Has sg3 (A ++ (H ++ R2)) := by
          have h6 : Has sg3 (H ++ (A ++ R2)) := h4.sub (List.Sublist.append (List.Sublist.refl _) (.cons _ (.cons _ (List.Sublist.refl _))))
          exact h6.sw H A
        refine ev_call (commit_ok (R := H ++ R2) hI (fun q hq => by simp [hq]) hA h5 hIm h0 hN) rfl ?_
        rintro v sg4 (⟨hge, rfl, h6⟩ | ⟨_, rfl, A', hA', h6⟩)
        · refine ev_I rfl (ev_ret (.inr ⟨over, R2, hO, hP, .inl ⟨rfl, ?_, ?_⟩⟩))
          · have q1 : ((imgs over pgs ks).map (·.1)).length ≤ (over.map (·.1)).length := hIm.nd.length_le_of_subset fun x hx => (hmem x).1 ((imgs_keys over pgs ks).subset hx)
            simp only [List.length_map] at q1
            omega
          exact h6.sub (List.Sublist.append (List.Sublist.refl _) (List.sublist_append_right _ _))
        · refine ev_I rfl (ev_ret (.inr ⟨over, R2, hO, hP, .inr ⟨rfl, _, A', hA', fun i hi => imgs_get hO hnd hmem f1 hi, ?_⟩⟩))
          exact h6.sub (List.Sublist.append (List.Sublist.refl _) (List.sublist_append_right _ _))
end Go.Abs
