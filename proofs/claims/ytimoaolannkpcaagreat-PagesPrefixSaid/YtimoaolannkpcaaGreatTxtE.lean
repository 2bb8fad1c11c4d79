/- What the functions of the program come to, one after another: several texts joined. -/
import Derived.Test.YtimoaolannkpcaaGreatProg
import Derived.Test.YtimoaolannkpcaaGreatTxtD
import Derived.Test.YtimoaolannkpcaaGreatRsP
import Derived.Test.YtimoaolannkpcaaGreatRsQ
import Derived.Test.YtimoaolannkpcaaGreatEngC
set_option linter.unusedVariables false
set_option linter.unusedSimpArgs false
set_option linter.unusedSectionVars false
namespace Go.Abs
open Go
set_option linter.unusedVariables false
set_option maxRecDepth 100000
theorem flatA_agg : ∀ (l : List (List AVal)), flatA (l.map .agg) = l.flatten
  | [] => rfl
  | x :: l => by
    show x ++ flatA (l.map .agg) = _
    rw [flatA_agg l, List.flatten_cons]
theorem acts_len : ∀ (l : List PAct), ((l.map actC).flatten).length = l.length * 5
  | [] => rfl
  | x :: l => by
    rw [List.map_cons, List.flatten_cons, List.length_append, acts_len l, List.length_cons]
    show 5 + l.length * 5 = _
    omega
theorem acts_at : ∀ (l : List PAct) (i : Nat) (x : PAct), l[i]? = some x → (((l.map actC).flatten).drop (i * 5)).take 5 = actC x
  | [], i, x, h => by simp at h
  | y :: l, 0, x, h => by
    simp at h; subst h
    rw [List.map_cons, List.flatten_cons, Nat.zero_mul, List.drop_zero]
    exact List.take_left' rfl
  | y :: l, i + 1, x, h => by
    rw [List.map_cons, List.flatten_cons]
    have e : (i + 1) * 5 = 5 + i * 5 := by omega
    rw [e, ← List.drop_drop, List.drop_left' (show (actC y).length = 5 from rfl)]
    exact acts_at l i x (by simpa using h)
/-- What past holds: a list of pages each, the last ones of a box. -/
def pastC (n : Nat) (ts : List Nat) : List AVal := ts.map fun t => .gs t 1 0 n
def pastX (ts : List Nat) (past : List Pgs) : Hp := (ts.zip past).map fun q => (q.1, pgB q.2)
def PastH (a : AVal) (n : Nat) (past : List Pgs) (PH : Hp) : Prop :=
  ∃ m junk ts, a = .gs m 1 junk.length past.length ∧ ts.length = past.length ∧ PH = (m, .mk (junk ++ pastC n ts)) :: pastX ts past
theorem pastC_len (n : Nat) (ts : List Nat) : (pastC n ts).length = ts.length := List.length_map ..
section
variable {Q : Out → Prop} {sg : Sg} {a : AVal} {n : Nat} {past : List Pgs} {PH L : Hp}
theorem PastH.len (h : PastH a n past PH) : lenV a = some past.length := by
  obtain ⟨m, junk, ts, rfl, h1, rfl⟩ := h; rfl
theorem PastH.plain (h : PastH a n past PH) : plainA a = some a := by
  obtain ⟨m, junk, ts, rfl, h1, rfl⟩ := h; rfl
theorem PastH.lenz (h : PastH a n past PH) : lenZ 1 a = some past.length := by
  obtain ⟨m, junk, ts, rfl, h1, rfl⟩ := h; rfl
/-- One of past is read. -/
theorem past_elem {i : Nat} {y : Pgs} {c : AVal → R} (hP : PastH a n past PH) (h : Has sg L) (hs : ∀ q, q ∈ PH → q ∈ L) (hi : past[i]? = some y) (hk : ∀ t k : Nat, L[k]? = some (t, pgB y) → Ev (c (.gs t 1 0 n)) Q) :
    Ev (withO (elemV 1 ((i : Nat) : Int) a) fun r => withO (loadC none sg r) fun p => withA p.fst[p.snd]? c) Q := by
  obtain ⟨m, junk, ts, rfl, h1, rfl⟩ := hP
  have hlt : i < past.length := (List.getElem?_eq_some_iff.1 hi).1
  obtain ⟨km, hkm⟩ := List.mem_iff_getElem?.1 (hs (m, .mk (junk ++ pastC n ts)) (by simp))
  have ht : ts[i]? = some (ts[i]'(by omega)) := List.getElem?_eq_getElem (by omega)
  have hx : ((ts[i]'(by omega)), pgB y) ∈ pastX ts past := by
    refine List.mem_map.2 ⟨(ts[i]'(by omega), y), ?_, rfl⟩
    refine List.mem_iff_getElem?.2 ⟨i, ?_⟩
    rw [List.getElem?_zip_eq_some]
    exact ⟨ht, hi⟩
  obtain ⟨kt, hkt⟩ := List.mem_iff_getElem?.1 (hs _ (List.mem_cons_of_mem _ hx))
  refine ev_elem (by omega) (Int.ofNat_lt.2 hlt) ?_
  refine ev_ldA (a := .gs (ts[i]'(by omega)) 1 0 n) h km hkm ?_ (hk _ kt hkt)
  show (junk ++ pastC n ts)[junk.length + ((i : Nat) : Int).toNat * 1]? = _
  rw [Int.toNat_natCast, Nat.mul_one, List.getElem?_append_right (Nat.le_add_right _ _), Nat.add_sub_cancel_left, pastC, List.getElem?_map, ht]
  rfl
/-- The last of past alone. -/
theorem past_cut {y : Pgs} (hP : PastH a n past PH) (hy : past.getLast? = some y) : ∃ a' PH', cutV a (past.length - 1) past.length = some a' ∧ PastH a' n [y] PH' ∧ PH'.Sublist PH := by
  obtain ⟨m, junk, ts, rfl, h1, rfl⟩ := hP
  have hne : past ≠ [] := fun e => by rw [e] at hy; cases hy
  have hpl : 0 < past.length := List.length_pos_iff.2 hne
  have htne : ts ≠ [] := fun e => by rw [e] at h1; simp at h1; omega
  obtain ⟨ts', t, rfl⟩ : ∃ ts' t, ts = ts' ++ [t] := ⟨ts.dropLast, ts.getLast htne, (List.dropLast_concat_getLast htne).symm⟩
  obtain ⟨past', z, rfl⟩ : ∃ p' z, past = p' ++ [z] := ⟨past.dropLast, past.getLast hne, (List.dropLast_concat_getLast hne).symm⟩
  have hz : z = y := by simpa using hy
  subst hz
  have hl : ts'.length = past'.length := by simpa using h1
  refine ⟨.gs m 1 (junk.length + past'.length * 1) 1, (m, .mk ((junk ++ pastC n ts') ++ pastC n [t])) :: pastX [t] [z], ?_, ⟨m, junk ++ pastC n ts', [t], ?_, rfl, rfl⟩, ?_⟩
  · have e1 : (past' ++ [z]).length - 1 = past'.length := by simp
    have e2 : (past' ++ [z]).length - past'.length = 1 := by simp
    rw [e1]
    show (if past'.length < (past' ++ [z]).length then _ else _) = _
    rw [if_pos (by simp), e2]
  · rw [List.length_append, pastC_len, hl, Nat.mul_one]; rfl
  · have e3 : pastC n (ts' ++ [t]) = pastC n ts' ++ pastC n [t] := by simp [pastC]
    rw [e3, List.append_assoc]
    refine .cons_cons _ ?_
    have e4 : pastX (ts' ++ [t]) (past' ++ [z]) = pastX ts' past' ++ pastX [t] [z] := by
      simp only [pastX]
      rw [List.zip_append hl, List.map_append]
    rw [e4]
    exact List.sublist_append_right _ _
/-- One more in past. -/
theorem past_app {nx : Nat} {z : Pgs} {M : Hp} {X : Nat × List AVal → Option Out} {c : AVal × Sg → Option Out} (hP : PastH a n past PH) (hne : past ≠ []) (hfew : past.length ≤ 1000) (h : Has sg ((nx, pgB z) :: (PH ++ M)))
    (hk : ∀ a' PH' sg', PastH a' n (past ++ [z]) PH' → Has sg' (PH' ++ M) → Ev (c (a', sg')) Q) :
    Ev (withO (flatG (sg ++ [.mk [.gs nx 1 0 n]]) 1 (.gs sg.length 1 0 1)) fun p => bif p.fst.beq 0 then X p else if p.fst * 24 ≤ 35184372088832 then withO (app1 none 1 24 (sg ++ [.mk [.gs nx 1 0 n]]) a p.fst p.snd) c else none) Q := by
  obtain ⟨m, junk, ts, rfl, h1, rfl⟩ := hP
  have hpl : 0 < past.length := List.length_pos_iff.2 hne
  refine ev_app1_gs (n := 1) (cs := [.gs nx 1 0 n]) h rfl (by rw [List.length_append, pastC_len]; omega) (by rw [List.length_append, pastC_len]; omega) rfl (by decide) (by decide) (by omega) fun b sg' h2 => ?_
  refine hk _ _ _ ⟨b, [], ts ++ [nx], ?_, by simp [h1], rfl⟩ ?_
  · rw [List.length_append]; rfl
  · have e1 : ((junk ++ pastC n ts).drop junk.length ++ [AVal.gs nx 1 0 n]) = [] ++ pastC n (ts ++ [nx]) := by
      rw [List.drop_left' rfl]; simp [pastC]
    have e2 : pastX (ts ++ [nx]) (past ++ [z]) = pastX ts past ++ [(nx, pgB z)] := by
      simp only [pastX]
      rw [List.zip_append h1, List.map_append]; rfl
    rw [e1] at h2
    rw [e2]
    have h3 : Has sg' ((b, .mk ([] ++ pastC n (ts ++ [nx]))) :: (nx, pgB z) :: (pastX ts past ++ M)) := h2.sub (.cons_cons _ (.cons_cons _ (.cons _ (List.Sublist.refl _))))
    exact h3.pm fun x => by
      simp only [List.count_cons, List.count_append, List.count_nil]; omega
end
end Go.Abs
namespace Go.Abs
open Go
set_option linter.unusedVariables false
set_option maxRecDepth 100000
variable {N dp : Nat} {sg : Sg} {s d p m n k size e g w : Nat} {A R L H M : Hp} {D : ADisk} {Q : Out → Prop}
/-- The next pages are made of the last ones. -/
theorem next_loop {C : CallF} {K : Ex → St → Option Out} {a0 a1 a2 a4 v : AVal} {n5 n6 : Int} {nx : Nat} {l : List AIm} {y : Pgs} (hI : ImH v (imL l) H) (hH : ∀ q, q ∈ H → q ∈ M) (hl : AImOk n l) (hy : y.length = n) (hln : l.length ≤ 10000) (hN : 1000000 < N) (h : Has sg ((nx, pgB y) :: M))
    (hfin : ∀ sg', Has sg' ((nx, pgB (setPg l y)) :: M) → Ev (law09_PagesPrefix.K1 C N K (Ex.exit 3) (mkS [9, 11, 13, 16, 77, 78, 79] [.v a0 false, .v a1 false, .v a2 false, .v (.gs nx 1 0 n) false, .v a4 false, .v (vI n5) false, .v (vI n6) false] [none, none, none, none, none, none, none] (.sg sg'))) Q) :
    Ev (iter (law09_PagesPrefix.R1 C N) N (mkS [9, 11, 13, 16, 77, 78, 79, 108, 109, 110] [.v a0 false, .v a1 false, .v a2 false, .v (.gs nx 1 0 n) false, .v a4 false, .v (vI n5) false, .v (vI n6) false, .v v false, .v (vI (l.length : Nat)) false, .v (vI 0) false]
      [none, none, none, none, none, none, none, none, none, none] (.sg sg)) (law09_PagesPrefix.K1 C N K)) Q := by
  have hle := imL_len l
  refine ev_loop l.length (fun i st => ∃ sg', st = mkS [9, 11, 13, 16, 77, 78, 79, 108, 109, 110] [.v a0 false, .v a1 false, .v a2 false, .v (.gs nx 1 0 n) false, .v a4 false, .v (vI n5) false, .v (vI n6) false, .v v false, .v (vI (l.length : Nat)) false, .v (vI i) false]
      [none, none, none, none, none, none, none, none, none, none] (.sg sg') ∧ Has sg' ((nx, pgB (setPg (l.take i) y)) :: M)) (by omega) ⟨sg, rfl, h⟩ ?_
  rintro i st K' hi ⟨sg1, rfl, h1⟩ hnext hexit hret
  refine ev_of (law09_PagesPrefix.r1 ..) (ev_ite (fun hlt => ?_) (fun hge => ?_))
  · have hlt : i < l.length := by simpa using hlt
    obtain ⟨hr1, hr2⟩ := hl.rg l[i] (List.getElem_mem hlt)
    have hi2 : i < (imL l).length := by rw [hle]; exact hlt
    have ei : (imL l)[i] = ((l[i].1 : Int), tx l[i].2) := by simp [imL]
    have hlen1 : (setPg (l.take i) y).length = n := by rw [setPg_len, hy]
    refine ev_im hI h1 (fun q hq => List.mem_cons_of_mem _ (hH q hq)) hi2 (ev_bif rfl (ev_L2 (l' := [vI ((l[i].1 : Nat) : Int), vS (tx l[i].2)]) (by rw [ei]; rfl) (ev_I rfl (ev_if (decide_eq_false (by omega)) (ev_I rfl (ev_O (a := n) rfl (ev_else (fun q => absurd (of_decide_eq_true q) (by omega)) (ev_I rfl (ev_S rfl ?_)))))))))
    refine ev_elem (by omega) (Int.ofNat_lt.2 hr1) ?_
    refine ev_st h1 0 rfl rfl ?_ ?_ fun sg2 h2 => ?_
    · show 0 + ((l[i].1 : Nat) : Int).toNat * 1 + 1 ≤ (((setPg (l.take i) y).map tx).map vS).length
      rw [List.length_map, List.length_map, hlen1]; simp; omega
    · show 0 < (((setPg (l.take i) y).map tx).map vS).length
      rw [List.length_map, List.length_map, hlen1]; omega
    replace h2 : Has sg2 ((nx, .mk (splice (((setPg (l.take i) y).map tx).map vS) (0 + ((l[i].1 : Nat) : Int).toNat * 1) (vS (tx l[i].2)).cells)) :: M) := h2
    rw [splice_map vS rfl (by rw [List.length_map, hlen1]; exact hr1), ← List.map_set] at h2
    rw [i64_nat (by omega)]
    refine hnext _ hlt ⟨sg2, rfl, ?_⟩
    have e1 : setPg (l.take (i + 1)) y = (setPg (l.take i) y).set l[i].1 l[i].2 := by
      unfold setPg
      rw [List.take_add_one, List.getElem?_eq_getElem hlt, List.foldl_append]; rfl
    rw [e1]; exact h2
  · have hge : i = l.length := by
      have : l.length ≤ i := by simpa using hge
      omega
    subst hge
    rw [List.take_length] at h1
    exact hexit _ _ (hfin _ h1)
/-- Whether what was loaded is among past. -/
theorem found_loop {K : Ex → St → Option Out} {a0 a3 a6 : AVal} {n4 n5 : Int} {S : APg} {past : List Pgs} {PH : Hp} (hA : StE s d g S A) (hP : PastH a6 n past PH) (hpl : ∀ x, x ∈ past → x.length = n) (hSn : S.n = n) (hSl : S.pgs.length = n) (hn1 : 1 ≤ n) (hn2 : n ≤ 3840) (hin : S.pgs ∈ past) (hfew : past.length ≤ 1000) (hN : 1000000 < N)
    (h : Has sg (A ++ (PH ++ M)))
    (hfin : ∀ sg', Has sg' (A ++ (PH ++ M)) → Ev (law09_PagesPrefix.K2 (tab N (dp + 8)) N K (Ex.exit 5) (mkS [9, 21, 23, 77, 78, 79] [.v a0 false, .v (.gp s 0) false, .v (vB true) false, .v a3 false, .v (vI n4) false, .v (vI n5) false] [none, none, none, none, none, none] (.sg sg'))) Q) :
    Ev (iter (law09_PagesPrefix.R2 (tab N (dp + 8)) N) N (mkS [9, 21, 23, 77, 78, 79, 193, 194, 195] [.v a0 false, .v (.gp s 0) false, .v (vB false) false, .v a3 false, .v (vI n4) false, .v (vI n5) false, .v a6 false, .v (vI (past.length : Nat)) false, .v (vI 0) false]
      [none, none, none, none, none, none, none, none, none] (.sg sg)) (law09_PagesPrefix.K2 (tab N (dp + 8)) N K)) Q := by
  obtain ⟨p, m, j, w, rfl⟩ := hA
  refine ev_loop past.length (fun i st => ∃ sg' b, st = mkS [9, 21, 23, 77, 78, 79, 193, 194, 195] [.v a0 false, .v (.gp s 0) false, .v (vB b) false, .v a3 false, .v (vI n4) false, .v (vI n5) false, .v a6 false, .v (vI (past.length : Nat)) false, .v (vI i) false]
      [none, none, none, none, none, none, none, none, none] (.sg sg') ∧ (S.pgs ∈ past.take i → b = true) ∧ Has sg' (((s, stB d S.size p S.n m (.gp j 0) S.wt) :: (p, pgB S.pgs) :: (m, .map (emb tV S.fr)) :: (j, jnB d S.size S.ep S.pos S.num) :: dkH d g w S.D) ++ (PH ++ M))) (by omega) ⟨sg, false, rfl, by simp, h⟩ ?_
  rintro i st K' hi ⟨sg1, b, rfl, hb, h1⟩ hnext hexit hret
  refine ev_of (law09_PagesPrefix.r2 ..) (ev_ite (fun hlt => ?_) (fun hge => ?_))
  · have hlt : i < past.length := by simpa using hlt
    have htk : past.take (i + 1) = past.take i ++ [past[i]] := by rw [List.take_add_one, List.getElem?_eq_getElem hlt]; rfl
    refine past_elem hP h1 (fun q hq => by simp [hq]) (List.getElem?_eq_getElem hlt) fun t kt hkt => ?_
    rw [i64_nat (by omega)]
    refine ev_ite (fun hb0 => ?_) (fun hb1 => ?_)
    · refine ev_A rfl ?_
      refine ev_call (texts_eq (N := N) (dp := dp + 5) (i := 0) (i2 := 1) h1 rfl rfl (by rw [hSl, hSn]) (by omega) (by omega) (by omega)) rfl ?_
      rintro _ sg2 ⟨t2, rfl, h2⟩
      rw [hSn]
      refine ev_A rfl (ev_A rfl ?_)
      refine ev_call (same_eq (N := N) (dp := dp + 7) (i := kt + 1) (j := 0) h2 (by simpa using hkt) rfl (hpl _ (List.getElem_mem hlt)) hSl (by omega) (by omega)) rfl ?_
      rintro _ _ ⟨⟨b', rfl, hb'⟩, _⟩
      refine ev_B rfl ?_
      refine hnext _ hlt ⟨sg2, b', rfl, fun hm => ?_, h2.tail⟩
      rw [htk] at hm
      rcases List.mem_append.1 hm with hm | hm
      · rw [hb hm] at hb0; cases hb0
      · rw [List.mem_singleton] at hm; exact hb' hm.symm
    · exact hnext _ hlt ⟨sg1, true, rfl, fun _ => rfl, h1⟩
  · have hge : i = past.length := by
      have : past.length ≤ i := by simpa using hge
      omega
    subst hge
    rw [List.take_length] at hb
    rw [hb hin]
    exact hexit _ _ (hfin _ h1)
theorem Cnt.disk {F : List ByteArray} {ep : Nat} {homes : Pgs} {c : Nat → Option ASec} (h : Cnt F n size ep homes c) (hF : appl D.wr D.safe = F) : Disk D n size ep homes c := by
  subst hF
  refine ⟨h.head, h.len, h.sz, fun i hi h2 => ?_, ⟨fun i h1 h2 s hs => ?_, fun i h1 h2 => ?_⟩⟩
  · obtain ⟨t, t1, t2⟩ := h.home i hi
    rw [List.getElem?_eq_getElem h2] at t1
    injection t1 with t1
    rw [t1]; exact t2
  · have := h.says (i - 1) (by omega)
    rw [show 1 + (i - 1) = i by omega] at this
    exact (this.2 s hs).1
  · have := h.says (i - 1) (by omega)
    rw [show 1 + (i - 1) = i by omega] at this
    exact this.1
/-- A disk that is up is loaded, or fails. -/
theorem load_step {pg : Pgs} (h : Has sg (dkH d g w D ++ R)) (hD : DOk (1 + size + n) 0 D) (hw : D.wr = []) (hd : D.down = false) (hG : Loads D.safe n size e pg) (he : e + 1 < 2 ^ 62) (hn1 : 8 ≤ n) (hs1 : 4 ≤ size) (hf : n + size ≤ 79) (hN : 1000000 < N) :
    Ev (tab N (dp + 8) 30 [.gp d 0] sg) (Rt fun v sg' => (∃ s A S, v = .tup [.gp s 0, vI 0] ∧ StE s d g S A ∧ S.pgs = pg ∧ LInv (n + 1) (e + 1) n size S [pg] ∧ Has sg' (A ++ R)) ∨
      (v = .tup [.at (.pointer none), vI 17] ∧ ¬ Calm D ∧ ∃ w' D', DOk (1 + size + n) (n + 1) D' ∧ Rec D' n size (e + 1) (· = pg) ∧ Has sg' (dkH d g w' D' ++ R))) := by
  obtain ⟨ep, homes, c, hep, hC, hok, hpg⟩ := hG
  have hks : ∀ x : Int, x ∈ sortI ((frAll (scanM c size ep (size + 1) 1 0) []).map (·.1)) → 0 ≤ x ∧ x < (n : Int) := fun x hx => by
    rw [mem_sortI] at hx
    exact (frAll_ok hok ⟨by simp, by simp⟩).rg x hx
  have hkl : (sortI ((frAll (scanM c size ep (size + 1) 1 0) []).map (·.1))).length ≤ n := by
    rw [(sortI_pm _).length_eq, List.length_map]
    exact (frAll_ok hok ⟨by simp, by simp⟩ : FrOk n _).len
  have hdk := (ckM_dok (ep := ep + 1) (pgs := pgAll (scanM c size ep (size + 1) 1 0) homes) hD hks).mono (k' := n + 1) (by omega)
  refine (pload_eq h hD hd (hC.disk (by rw [hw]; rfl)) (by omega) hn1 (by omega) hs1 (by omega) (Nat.zero_le _) hN rfl hok).imt ?_
  rintro v sg' ⟨hz, hnz⟩
  rcases load_crash (e := e + 1) hC hw hok hpg (by omega) with ⟨h1, h2, h3⟩ | ⟨h1, h2, h3⟩
  · obtain ⟨s, A, rfl, hA, h4⟩ := hz h1
    exact .inl ⟨s, A, _, rfl, hA, hpg, step_fresh h2 hpg h3 hdk (by omega) he hn1 (by omega) hs1 (by omega) hf, h4⟩
  · obtain ⟨rfl, w', h4⟩ := hnz (by rw [h1]; decide)
    rw [h1]
    refine .inr ⟨rfl, fun hc => ?_, w', _, hdk, h3, h4⟩
    have := (Calm.ck (ep := ep + 1) (n := n) (size := size) (pgs := pgAll (scanM c size ep (size + 1) 1 0) homes) (ks := sortI ((frAll (scanM c size ep (size + 1) 1 0) []).map (·.1))) hc).1
    have h1' : (ckM (ep + 1) n size (pgAll (scanM c size ep (size + 1) 1 0) homes) (sortI ((frAll (scanM c size ep (size + 1) 1 0) []).map (·.1))) D).1 = 17 := h1
    rw [this] at h1'
    cases h1'
end Go.Abs
namespace Go.Abs
open Go
set_option linter.unusedVariables false
set_option maxRecDepth 100000
variable {N dp : Nat} {sg : Sg} {s d p m n k size e g w ac : Nat} {A R L H M PH : Hp} {D : ADisk} {Q : Out → Prop} {past : List Pgs} {acts : List PAct} {a : AVal} {S : APg}
abbrev lpS (d s : Nat) (pv : AVal) (ac n i : Nat) (sg : Sg) : St := mkS [9, 11, 13, 77, 78, 79] [.v (.gp d 0) false, .v (.gp s 0) false, .v pv false, .v (.gs ac 5 0 n) false, .v (vI n) false, .v (vI i) false] [none, none, none, none, none, none] (.sg sg)
def acB (acts : List PAct) : Box := .mk ((acts.map actC).flatten)
def LoopI (d g ac n size : Nat) (acts : List PAct) (R : Hp) (i : Nat) (st : St) : Prop :=
  ∃ sg s S A past pv PH, st = lpS d s pv ac acts.length i sg ∧ LInv (130 * i + 10) (10 + 4 * i) n size S past ∧ StE s d g S A ∧ PastH pv n past PH ∧ past.length ≤ i + 1 ∧ Has sg (A ++ (PH ++ ((ac, acB acts) :: R)))
theorem ev_cut {y : Pgs} {c : AVal → Option Out} (hP : PastH a n past PH) (hy : past.getLast? = some y) (hfew : past.length ≤ 1000) (hk : ∀ a' PH', PastH a' n [y] PH' → PH'.Sublist PH → Ev (c a') Q) :
    Ev (withO (lenV a) fun (n0 : Nat) => withA (plainA a) fun (b : AVal) => withO (lenZ 1 b) fun (n1 : Nat) =>
      if (0 : Int) ≤ IntKind.i64.wrap ((n0 : Int) - 1) ∧ IntKind.i64.wrap ((n0 : Int) - 1) ≤ (n1 : Int) ∧ (n1 : Int) ≤ (n1 : Int) then withO (cutV b (IntKind.i64.wrap ((n0 : Int) - 1)).toNat (n1 : Int).toNat) c else none) Q := by
  have hpl : 0 < past.length := List.length_pos_iff.2 fun e => by rw [e] at hy; cases hy
  obtain ⟨a', PH', h1, h2, h3⟩ := past_cut hP hy
  refine ev_O hP.len (ev_A hP.plain (ev_O hP.lenz ?_))
  have ew : IntKind.i64.wrap ((past.length : Int) - 1) = ((past.length - 1 : Nat) : Int) := by rw [i64_in (by omega)]; omega
  rw [ew]
  refine ev_if ⟨by omega, by omega, by omega⟩ (ev_O ?_ (hk a' PH' h2 h3))
  rw [Int.toNat_natCast, Int.toNat_natCast]; exact h1
theorem flatG_pg {t kt : Nat} {y : Pgs} (h : Has sg L) (e : L[kt]? = some (t, pgB y)) (hy : y.length = n) (hn : 0 < n) : flatG sg 1 (.gs t 1 0 n) = some (n, (y.map tx).map vS) := by
  have hl : ((y.map tx).map vS).length = n := by rw [List.length_map, List.length_map, hy]
  rw [flatG_gs (h.at e) (by show 0 + n * 1 ≤ ((y.map tx).map vS).length; omega) (by show 0 < ((y.map tx).map vS).length; omega)]
  show some (n, (((y.map tx).map vS).drop 0).take (n * 1)) = _
  rw [List.drop_zero, Nat.mul_one, List.take_of_length_le (by omega)]
theorem law_loop {s0 : Nat} {pv0 : AVal} (hacts : ∀ x, x ∈ acts → x.Ok ∧ x.puts.length ≤ 40) (hal : acts.length ≤ 31) (hN : 1000000 < N) (h0 : LoopI d g ac n size acts R 0 (lpS d s0 pv0 ac acts.length 0 sg)) :
    Ev (iter (law09_PagesPrefix.R0 (tab N (dp + 8)) N) N (lpS d s0 pv0 ac acts.length 0 sg) (law09_PagesPrefix.K0 (tab N (dp + 8)) N)) (Rt fun v _ => v = vB true) := by
  refine ev_loop acts.length (LoopI d g ac n size acts R) (by omega) h0 ?_
  rintro i st K hi ⟨sg1, s, S, A, past, pv, PH, rfl, hL, hA, hP, hpl, h1⟩ hnext hexit hret
  refine ev_of (law09_PagesPrefix.r0_2 ..) (ev_ite (fun hlt => ?_) (fun hge => ?_))
  rotate_left
  · refine hexit _ _ (ev_of (law09_PagesPrefix.k0_2 ..) (ev_ret rfl))
  have hlt : i < acts.length := by simpa using hlt
  rw [i64_nat (by omega)]
  have hx := (hacts acts[i] (List.getElem_mem hlt)).1
  have hxp := (hacts acts[i] (List.getElem_mem hlt)).2
  obtain ⟨kac, hkac⟩ : ∃ kac : Nat, (A ++ (PH ++ ((ac, acB acts) :: R)))[kac]? = some (ac, acB acts) := List.mem_iff_getElem?.1 (by simp)
  have hcell : (((acB acts).cells.drop (0 + ((i : Nat) : Int).toNat * 5)).take 5) = actC acts[i] := by
    have e1 : 0 + ((i : Nat) : Int).toNat * 5 = i * 5 := by simp
    rw [e1]
    exact acts_at acts i _ (List.getElem?_eq_getElem hlt)
  refine ev_elem (by omega) (Int.ofNat_lt.2 hlt) (ev_ldG h1 kac hkac hcell rfl (by decide) ?_)
  generalize acts[i] = x at hx hxp hcell
  clear hcell
  have hf := hL.few
  have hsok := hL.sok
  have hLn := hL.hn
  have hLs := hL.hs
  have hn1 : 8 ≤ n := by rw [← hLn]; exact hsok.n1
  have hs1 : 4 ≤ size := by rw [← hLs]; exact hsok.s1
  have hplp : 0 < past.length := List.length_pos_iff.2 hL.ne
  obtain ⟨y, hy⟩ : ∃ y, past.getLast? = some y := by
    cases hq : past.getLast? with
    | none => exact absurd (List.getLast?_eq_none_iff.1 hq) hL.ne
    | some y => exact ⟨y, rfl⟩
  have hyl : y.length = n := hL.len y (List.mem_of_getLast? hy)
  have go : ∀ {sg' : Sg} {s' : Nat} {S' : APg} {A' : Hp} {past' : List Pgs} {pv' : AVal} {PH' : Hp}, LInv (130 * (i + 1) + 10) (10 + 4 * (i + 1)) n size S' past' → StE s' d g S' A' → PastH pv' n past' PH' → past'.length ≤ i + 2 → Has sg' (A' ++ (PH' ++ ((ac, acB acts) :: R))) →
      Ev (K .normal (lpS d s' pv' ac acts.length (i + 1) sg')) (Rt fun v _ => v = vB true) := fun h1 h2 h3 h4 h5 => hnext _ hlt ⟨_, _, _, _, _, _, _, rfl, h1, h2, h3, h4, h5⟩
  refine ev_bif rfl (ev_L2 (l' := actC x) rfl (ev_I rfl (ev_ite (fun hk => ?_) (fun hk => ev_ite (fun hk => ?_) (fun hk => ev_ite (fun hk => ?_) (fun hk => ev_ite (fun hk => ?_) (fun hk => ev_ite (fun hk => ?_) (fun hk => ?_))))))))
  · -- a commit
    refine ev_O hP.len ?_
    have ew : IntKind.i64.wrap ((past.length : Int) - 1) = ((past.length - 1 : Nat) : Int) := by rw [i64_in (by omega)]; omega
    rw [ew]
    refine past_elem hP h1 (fun q hq => by simp [hq]) (by rw [← List.getLast?_eq_getElem?]; exact hy) fun t kt hkt => ?_
    refine ev_A rfl (ev_O (flatG_pg h1 hkt hyl (by omega)) ?_)
    have en : Nat.beq n 0 = false := by
      cases hq : Nat.beq n 0 with
      | false => rfl
      | true => have := Nat.eq_of_beq_eq_true hq; omega
    refine ev_bie en (ev_if (by show n * 16 ≤ 35184372088832; omega) (ev_A rfl (ev_A hx.pv.plain ?_)))
    have h2 := h1.new (pgB y)
    generalize hnx : sg1.length = nx at h2
    refine ev_call (images_eq (N := N) (dp := dp + 6) hx.pv h2 (by omega) hN) rfl ?_
    rintro v sg2 ⟨H1, hI1, h3⟩
    refine ev_A hI1.plain ?_
    refine ev_call (ours_eq (N := N) (dp := dp + 7) hI1 (fun q hq => List.mem_append_left _ hq) h3 (by rw [putI_len]; omega) hN) rfl ?_
    rintro v1 sg3 ⟨H2, hI2, h4⟩
    refine ev_A rfl (ev_A hI2.plain ?_)
    have h5 : Has sg3 (A ++ (H2 ++ (H1 ++ ((nx, pgB y) :: (PH ++ ((ac, acB acts) :: R)))))) := h4.pm fun x => by
      simp only [List.count_cons, List.count_append]; omega
    refine ev_call (commit_any (N := N) (dp := dp + 1) hI2 (fun q hq => List.mem_append_left _ hq) hA hsok h5 (by rw [putI_len]; omega) (by omega) (by omega) hN) rfl ?_
    have same : ∀ {sg' : Sg}, Has sg' (A ++ (H2 ++ (H1 ++ ((nx, pgB y) :: (PH ++ ((ac, acB acts) :: R)))))) → Ev (K .normal (lpS d s pv ac acts.length (i + 1) sg')) (Rt fun v _ => v = vB true) := fun {sg'} hh => by
      have hh2 : Has sg' (H2 ++ (H1 ++ ((nx, pgB y) :: (A ++ (PH ++ ((ac, acB acts) :: R)))))) := hh.pm fun x => by
        simp only [List.count_cons, List.count_append]; omega
      exact go (hL.mono (by omega) (by omega)) hA hP (by omega) ((hh2.drop _).drop _).tail
    rintro v2 sg4 (⟨rfl, _, h6⟩ | ⟨l', e1, hl', hne', rfl, A', hA', h6⟩)
    · exact ev_I rfl (ev_if (by decide) (ev_if (by decide) (same h6)))
    · have hll : l'.length ≤ 40 := by
        have := congrArg List.length e1
        rw [putI_len, imL_len] at this; omega
      rcases step_commit hL hy (by rw [← hLn]; exact hl') hne' (by omega) with h7 | ⟨h7, hL'⟩
      · rw [h7] at hA' ⊢
        obtain ⟨p', m', j', w', rfl⟩ := hA
        obtain ⟨p2, m2, j2, w2, rfl⟩ := hA'
        refine ev_I rfl (ev_if (show ((14 : Int) != 0) = true by decide) (ev_if (show ((14 : Int) != 17) = true by decide) ?_))
        have hh2 : Has sg4 (H2 ++ (H1 ++ ((nx, pgB y) :: (((s, stB d S.size p2 S.n m2 (.gp j2 0) S.wt) :: (p2, pgB S.pgs) :: (m2, .map (emb tV S.fr)) :: (j2, jnB d S.size S.ep S.pos S.num) :: dkH d g w2 S.D) ++ (PH ++ ((ac, acB acts) :: R)))))) := h6.pm fun x => by
          simp only [List.count_cons, List.count_append]; omega
        exact go (hL.mono (by omega) (by omega)) ⟨p2, m2, j2, w2, rfl⟩ hP (by omega) ((hh2.drop _).drop _).tail
      · have hend : Ev (withO (lenV v) fun (n_1 : Nat) => iter (law09_PagesPrefix.R1 (tab N (dp + 8)) N) N
            (mkS [9, 11, 13, 16, 77, 78, 79, 108, 109, 110] [.v (.gp d 0) false, .v (.gp s 0) false, .v pv false, .v (.gs nx 1 0 n) false, .v (.gs ac 5 0 acts.length) false, .v (vI acts.length) false, .v (vI i) false, .v v false, .v (vI n_1) false, .v (vI 0) false]
            [none, none, none, none, none, none, none, none, none, none] (.sg sg4)) (law09_PagesPrefix.K1 (tab N (dp + 8)) N K)) (Rt fun v _ => v = vB true) := by
          rw [e1] at hI1
          refine ev_O hI1.len ?_
          rw [imL_len]
          have h8 : Has sg4 (H2 ++ ((nx, pgB y) :: (H1 ++ (A' ++ (PH ++ ((ac, acB acts) :: R)))))) := h6.pm fun x => by
            simp only [List.count_cons, List.count_append]; omega
          refine next_loop hI1 (fun q hq => List.mem_append_left _ hq) (by rw [← hLn]; exact hl') hyl (by omega) hN (h8.drop _) fun sg5 h9 => ?_
          refine ev_of (law09_PagesPrefix.k1_2 ..) (ev_A rfl (ev_bif rfl ?_))
          have h10 : Has sg5 (H1 ++ ((nx, pgB (setPg l' y)) :: (PH ++ (A' ++ ((ac, acB acts) :: R))))) := h9.pm fun x => by
            simp only [List.count_cons, List.count_append]; omega
          refine past_app hP hL.ne (by omega) (h10.drop _) fun a' PH' sg6 hP' h11 => ?_
          rw [i64_nat (by omega)]
          refine go (hL'.mono (by omega) (by omega)) hA' hP' (by rw [List.length_append, List.length_singleton]; omega) (h11.pm fun x => by
            simp only [List.count_cons, List.count_append]; omega)
        rcases h7 with h7 | h7
        · exact ev_I rfl (ev_else (eq_bne h7) hend)
        · exact ev_I rfl (ev_if (ne_bne (by rw [h7]; decide)) (ev_else (by rw [h7]; decide) hend))
  · -- a flush
    refine ev_A rfl ?_
    refine ev_call (sflush_eq (N := N) (dp := dp + 4) hA hsok h1 (by omega) hN) rfl ?_
    rintro _ sg2 ⟨rfl, A', hA', h2⟩
    rcases step_flush hL hy with ⟨h3, hL'⟩ | ⟨h3, hL'⟩
    · refine ev_I rfl (ev_if (by rw [h3]; rfl) ?_)
      refine ev_cut hP hy (by omega) fun a' PH' hP' hs => ?_
      exact go (hL'.mono (by omega) (by omega)) hA' hP' (by simp) (h2.sub ((List.Sublist.refl _).append (hs.append (List.Sublist.refl _))))
    · refine ev_I rfl (ev_else (by rw [h3]; decide) ?_)
      exact go (hL'.mono (by omega) (by omega)) hA' hP (by omega) h2
  · -- a checkpoint
    refine ev_A rfl ?_
    refine ev_call (scheckpoint_eq (N := N) (dp := dp + 1) hA hsok h1 (by omega) (by omega) hN) rfl ?_
    rintro _ sg2 ⟨rfl, A', hA', h2⟩
    rcases step_ckpt hL hy (by omega) with ⟨h3, hL'⟩ | ⟨h3, hL'⟩
    · refine ev_I rfl (ev_if (by rw [h3]; rfl) ?_)
      refine ev_cut hP hy (by omega) fun a' PH' hP' hs => ?_
      exact go (hL'.mono (by omega) (by omega)) hA' hP' (by simp) (h2.sub ((List.Sublist.refl _).append (hs.append (List.Sublist.refl _))))
    · refine ev_I rfl (ev_else (by rw [h3]; decide) ?_)
      exact go (hL'.mono (by omega) (by omega)) hA' hP (by omega) h2
  · -- the disk is armed
    obtain ⟨p, m, j, w, rfl⟩ := hA
    refine ev_I rfl (ev_A rfl ?_)
    have h2 : Has sg1 (dkH d g w S.D ++ ([(s, stB d S.size p S.n m (.gp j 0) S.wt), (p, pgB S.pgs), (m, .map (emb tV S.fr)), (j, jnB d S.size S.ep S.pos S.num)] ++ (PH ++ ((ac, acB acts) :: R)))) := h1.pm fun x => by
      simp only [List.count_cons, List.count_append, List.count_nil]; omega
    refine ev_call (arm_ok (N := N) (dp := dp + 7) h2) rfl ?_
    rintro _ sg2 ⟨rfl, h3⟩
    refine go ((step_arm (a := x.num) hL).mono (by omega) (by omega)) ⟨p, m, j, w, rfl⟩ hP (by omega) (h3.pm fun x => by
      simp only [List.count_cons, List.count_append, List.count_nil]; omega)
  · -- it is up again, and loaded
    have hR := hL.recs
    obtain ⟨p, m, j, w, rfl⟩ := hA
    have hdk := hsok.dk
    rw [hLn, hLs] at hdk
    have hfewD := hdk.few
    refine ev_A rfl (ev_A rfl (ev_A hx.kv.plain ?_))
    have h2 : Has sg1 (dkH d g w S.D ++ ([(s, stB d S.size p S.n m (.gp j 0) S.wt), (p, pgB S.pgs), (m, .map (emb tV S.fr)), (j, jnB d S.size S.ep S.pos S.num)] ++ (PH ++ ((ac, acB acts) :: R)))) := h1.pm fun x => by
      simp only [List.count_cons, List.count_append, List.count_nil]; omega
    refine ev_call (up_any (N := N) (dp := dp + 5) hx.kv h2 (by rw [hdk.len]; exact hdk.wr) (by omega) (by omega)) rfl ?_
    rintro _ sg2 ⟨⟨z, rfl⟩, h3⟩
    refine ev_I rfl (ev_I rfl (ev_A rfl ?_))
    refine ev_call (arm_ok (N := N) (dp := dp + 7) (n := x.num) h3) rfl ?_
    rintro _ sg3 ⟨rfl, h4⟩
    have h5 : Has sg3 ([(s, stB d S.size p S.n m (.gp j 0) S.wt), (p, pgB S.pgs), (m, .map (emb tV S.fr)), (j, jnB d S.size S.ep S.pos S.num)] ++ (dkH d g 0 ((S.D.up x.keep).arm x.num) ++ (PH ++ ((ac, acB acts) :: R)))) := h4.pm fun x => by
      simp only [List.count_cons, List.count_append, List.count_nil]; omega
    replace h5 := h5.drop _
    obtain ⟨pg, hpg, hG⟩ := hR (fun i => x.keep.getD i false)
    have hD1 : DOk (1 + size + n) 0 ((S.D.up x.keep).arm x.num) := ⟨(applK_len ..).trans hdk.len, fun q hq => (nomatch hq), Nat.le_refl _⟩
    -- what was loaded is found
    have fin : ∀ {sg' : Sg} {s' : Nat} {S' : APg} {A' : Hp} {e' : Nat}, StE s' d g S' A' → S'.pgs = pg → LInv (n + 1) e' n size S' [pg] → e' ≤ 10 + 4 * (i + 1) → Has sg' (A' ++ (PH ++ ((ac, acB acts) :: R))) →
        Ev (withO (lenV pv) fun (n_1 : Nat) => iter (law09_PagesPrefix.R2 (tab N (dp + 8)) N) N (mkS [9, 21, 23, 77, 78, 79, 193, 194, 195] [.v (.gp d 0) false, .v (.gp s' 0) false, .v (vB false) false, .v (.gs ac 5 0 acts.length) false, .v (vI acts.length) false, .v (vI i) false, .v pv false, .v (vI n_1) false, .v (vI 0) false]
          [none, none, none, none, none, none, none, none, none] (.sg sg')) (law09_PagesPrefix.K2 (tab N (dp + 8)) N K)) (Rt fun v _ => v = vB true) := fun {sg' s' S' A' e'} hA' hpS hL' he' h6 => by
      have hSn := hL'.hn
      have hSl : S'.pgs.length = n := by rw [hL'.sok.len, hSn]
      refine ev_O hP.len (found_loop hA' hP hL.len hSn hSl (by omega) (by omega) (by rw [hpS]; exact hpg) (by omega) hN h6 fun sg7 h7 => ?_)
      refine ev_of (law09_PagesPrefix.k2_1 ..) (ev_else (by decide) (ev_A rfl ?_))
      obtain ⟨p', m', j', w', rfl⟩ := hA'
      refine ev_call (texts_eq (N := N) (dp := dp + 5) (i := 0) (i2 := 1) h7 rfl rfl (by rw [hSl, hSn]) (by omega) (by omega) (by omega)) rfl ?_
      rintro _ sg8 ⟨t, rfl, h8⟩
      rw [hSn, i64_nat (by omega)]
      refine ev_A rfl (ev_bif rfl ?_)
      have h9 := h8.new (Box.mk [.gs t 1 0 n])
      generalize hm8 : sg8.length = m8 at h9
      rw [hpS] at h9
      have h10 : Has (sg8 ++ [Box.mk [.gs t 1 0 n]]) (PH ++ (((s', stB d S'.size p' S'.n m' (.gp j' 0) S'.wt) :: (p', pgB pg) :: (m', .map (emb tV S'.fr)) :: (j', jnB d S'.size S'.ep S'.pos S'.num) :: dkH d g w' S'.D) ++ (((m8, .mk ([] ++ pastC n [t])) :: pastX [t] [pg]) ++ ((ac, acB acts) :: R)))) := h9.pm fun x => by
        simp only [pastC, pastX, List.zip_cons_cons, List.zip_nil_left, List.map_cons, List.map_nil, List.nil_append, List.count_cons, List.count_append, List.count_nil]; omega
      refine go (pv' := .gs m8 1 0 1) (hL'.mono (by omega) he') ⟨p', m', j', w', rfl⟩ ⟨m8, [], [t], rfl, rfl, rfl⟩ (by simp) ?_
      rw [hpS]
      exact h10.drop _
    refine ev_A rfl ?_
    refine ev_call (load_step (N := N) (dp := dp) h5 hD1 rfl rfl hG (by omega) hn1 hs1 hf hN) rfl ?_
    rintro v sg4 (⟨s', A', S', rfl, hA', hpS, hL', h6⟩ | ⟨rfl, hnc, w', D', hD', hR', h6⟩)
    · refine ev_T (ev_bif rfl (ev_A rfl (ev_I rfl (ev_else (by decide) (ev_if rfl (ev_O (a := false) rfl (ev_else (by decide) ?_)))))))
      exact fin hA' hpS hL' (by omega) h6
    · refine ev_T (ev_bif rfl (ev_A rfl (ev_I rfl (ev_if rfl (ev_A rfl (ev_A rfl (ev_A hx.kv.plain ?_)))))))
      have hfD := hD'.few
      refine ev_call (up_any (N := N) (dp := dp + 5) hx.kv h6 (by rw [hD'.len]; exact hD'.wr) (by omega) (by omega)) rfl ?_
      rintro _ sg5 ⟨⟨z2, rfl⟩, h7⟩
      refine ev_I rfl (ev_A rfl ?_)
      obtain ⟨pg2, hpg2, hG2⟩ := hR' (fun i => x.keep.getD i false)
      subst hpg2
      have hD2 : DOk (1 + size + n) 0 (D'.up x.keep) := ⟨(applK_len ..).trans hD'.len, fun q hq => (nomatch hq), Nat.le_refl _⟩
      refine ev_call (load_step (N := N) (dp := dp) h7 hD2 rfl rfl hG2 (by omega) hn1 hs1 hf hN) rfl ?_
      rintro v sg6 (⟨s', A', S', rfl, hA', hpS, hL', h8⟩ | ⟨rfl, hnc2, _⟩)
      · refine ev_T (ev_bif rfl (ev_A rfl (ev_I rfl (ev_if rfl (ev_O (a := false) rfl (ev_else (by decide) ?_))))))
        exact fin hA' hpS hL' (by omega) h8
      · exact absurd ⟨rfl, rfl⟩ hnc2
  · -- nothing
    exact go (hL.mono (by omega) (by omega)) hA hP (by omega) h1
end Go.Abs
namespace Go.Abs
open Go
set_option linter.unusedVariables false
set_option maxRecDepth 100000
variable {N dp : Nat} {sg : Sg} {s d p m n k size e g w : Nat} {jv : AVal} {wt : Int} {A R L H : Hp} {D : ADisk}
theorem waiting_ok {i : Nat} (h : Has sg L) (e : L[i]? = some (s, stB d size p n m jv wt)) : Ev (tab N (dp + 1) 37 [.gp s 0] sg) (Rt fun v sg' => v = vI wt ∧ sg' = sg) := by
  refine ev_of ((t37 ..).trans (pages_Store_Waiting.main ..)) ?_
  refine ev_else (by decide) ?_
  exact ev_ldI h i e rfl (ev_ret ⟨rfl, rfl⟩)
theorem fresh_ok {i j : Nat} {l : List (Int × Unit)} (h : Has sg L) (e : L[i]? = some (s, stB d size p n m jv wt)) (e2 : L[j]? = some (m, .map (emb tV l))) : Ev (tab N (dp + 1) 38 [.gp s 0] sg) (Rt fun v sg' => v = vI l.length ∧ sg' = sg) := by
  refine ev_of ((t38 ..).trans (pages_Store_Fresh.main ..)) ?_
  refine ev_else (by decide) ?_
  refine ev_ldA h i e rfl (ev_A rfl (ev_map h j e2 (ev_ret ⟨?_, rfl⟩)))
  show vI ((emb tV l).length : Int) = _
  rw [emb_len]
theorem imL_one {a : Int} {t : ByteArray} {l : List AIm} (h : [(a, t)] = imL l) : ∃ q : AIm, l = [q] ∧ (q.1 : Int) = a ∧ tx q.2 = t := by
  match l, h with
  | [q], h =>
    have h' : [(a, t)] = [((q.1 : Int), tx q.2)] := h
    injection h' with h' _
    injection h' with h1 h2
    exact ⟨q, rfl, h1.symm, h2.symm⟩
  | [], h => cases h
  | _ :: _ :: _, h => cases h
theorem lives_ok (hN : 1000000 < N) : Ev (tab N (dp + 9) 40 [] []) (Rt fun v _ => v = vB true) := by
  refine ev_of ((t40 ..).trans (law09_lives.main ..)) ?_
  refine ev_call (size_ok (N := N) (dp := dp + 6) (a := 8) (b := 6)) rfl ?_
  rintro _ _ ⟨rfl, _⟩
  rw [if_pos (by decide)]
  refine ev_T (ev_bif rfl (ev_I rfl (ev_I rfl ?_)))
  refine ev_call (new_eq (N := N) (dp := dp + 4) (n := 15) (has_nil []) (by decide) (by decide) (by omega)) rfl ?_
  rintro _ sg1 ⟨d, g, rfl, h1⟩
  refine ev_T (ev_bif rfl (ev_A rfl (ev_I rfl (ev_if rfl (ev_if (by decide) (ev_if rfl (ev_O (a := false) rfl (ev_else (by decide) (ev_A rfl ?_)))))))))
  have hZ : Zer (1 + 6 + 8) (newD 15) := ⟨rfl, fun q hq => (nomatch hq), rfl, rfl⟩
  refine ev_call (format_eq (N := N) (dp := dp + 2) (n := 8) (size := 6) h1 hZ (Nat.zero_le _) (by decide) (by decide) (by decide) (by decide) hN) rfl ?_
  rintro _ sg2 ⟨s, A, D, rfl, ⟨p, m, j, w, rfl⟩, hF, hc, h2⟩
  have hFl : D.safe.length = 15 := by obtain ⟨_, c, hC, _⟩ := hF; exact hC.fl
  refine ev_T (ev_bif rfl (ev_A rfl (ev_I rfl (ev_A rfl ?_))))
  have h3 : Has sg2 (dkH d g w D ++ [(s, stB d 6 p 8 m (.gp j 0) (0 : Nat)), (p, pgB (zpg 8)), (m, .map (emb tV [])), (j, jnB d 6 (1 : Nat) 0 (0 : Nat))]) := h2.pm fun x => by
    simp only [fmtS, List.count_cons, List.count_append, List.count_nil]; omega
  refine ev_call (format_bad (N := N) (dp := dp + 2) (a := 9) (b := 6) h3 (by rw [hFl]; decide)) rfl ?_
  rintro _ sg2 ⟨rfl, rfl⟩
  refine ev_T (ev_bif rfl (ev_A rfl (ev_I rfl (ev_if rfl (ev_O (a := false) rfl (ev_if rfl (ev_else (by decide) ?_)))))))
  refine ev_call (page_ok (N := N) (dp := dp + 7) (b := 7)) rfl ?_
  rintro _ _ rfl
  refine ev_S rfl (ev_bif rfl (ev_A rfl ?_))
  -- the first commit
  have hL := live_fresh hF (by decide) (by decide) (by decide)
  have hlen1 : ∀ t, t ∈ zpg 8 → t.length = 480 := fun t ht => by rw [(List.mem_replicate.1 ht).2, List.length_replicate]
  have hS : SOk 0 5 (fmtS 8 6 D) := ⟨⟨hFl, fun q hq => (by rw [show (fmtS 8 6 D).D = D from rfl, hF.1] at hq; cases hq), by rw [show (fmtS 8 6 D).D = D from rfl, hF.1]; exact Nat.le_refl _⟩, rfl, ⟨by simp [fmtS], by simp [fmtS]⟩, hlen1, (show 8 ≤ 8 by decide), (show 8 ≤ 3840 by decide), (show 4 ≤ 6 by decide), (show 6 ≤ 1024 by decide), (show 0 ≤ 6 by decide), (show 0 ≤ 0 by decide), (show 1 < 5 by decide), (show 0 ≤ 0 by decide)⟩
  have hA2 : StE s d g (fmtS 8 6 D) ((s, stB d 6 p 8 m (.gp j 0) (0 : Nat)) :: (p, pgB (zpg 8)) :: (m, .map (emb tV [])) :: (j, jnB d 6 (1 : Nat) 0 (0 : Nat)) :: dkH d g w D) := ⟨p, m, j, w, rfl⟩
  have h4 := h2.new (Box.mk [vI 3, vS (pgT 7)])
  generalize hx1 : sg2.length = x1 at h4
  have h5 : Has (sg2 ++ [Box.mk [vI 3, vS (pgT 7)]]) (((s, stB d 6 p 8 m (.gp j 0) (0 : Nat)) :: (p, pgB (zpg 8)) :: (m, .map (emb tV [])) :: (j, jnB d 6 (1 : Nat) 0 (0 : Nat)) :: dkH d g w D) ++ [(x1, .mk (flatI [(3, pgT 7)]))]) := h4.pm fun x => by
    simp only [fmtS, flatI, List.count_cons, List.count_append, List.count_nil]; omega
  have hI1 : ImH (.gs x1 2 0 1) [(3, pgT 7)] [(x1, .mk (flatI [(3, pgT 7)]))] := .inr ⟨x1, rfl, rfl⟩
  refine ev_call (commit_any (N := N) (dp := dp + 1) hI1 (fun q hq => hq) hA2 hS h5 (by decide) (by decide) (by decide) hN) rfl ?_
  rintro v sg3 (⟨_, hno, _⟩ | ⟨l', e1, hl', hne', rfl, A3, hA3, h6⟩)
  · refine absurd ⟨⟨by simp, fun q hq => ?_⟩, by simp⟩ hno
    rw [List.mem_singleton] at hq
    subst hq
    exact ⟨⟨by decide, show (3 : Int) < 8 by decide⟩, pgT_size 7⟩
  obtain ⟨q, rfl, hq1, hq2⟩ := imL_one e1
  have hq1' : q.1 = 3 := by omega
  have ecm : commitM [q] (fmtS 8 6 D) = appM [q] (fmtS 8 6 D) := by
    unfold commitM
    rw [if_neg (show ¬ (fmtS 8 6 D).size ≤ [q].length from (by decide : ¬ 6 ≤ 1)), if_neg (show ¬ (fmtS 8 6 D).D.down = true from by
      rw [show (fmtS 8 6 D).D.down = false from hc.2]; decide), if_neg (show ¬ (fmtS 8 6 D).size - (fmtS 8 6 D).pos ≤ [q].length from (by decide : ¬ 6 - 0 ≤ 1))]
  have hcs := Calm.seq (l := txW 1 0 0 [q]) hc
  have eap : appM [q] (fmtS 8 6 D) = (0, ⟨8, 6, setPg [q] (zpg 8), insAll (imL [q]) [], 1, 2, 1, 1, (seqW (txW 1 0 0 [q]) D).2⟩) := by
    unfold appM
    rw [if_pos (show (seqW (txW (fmtS 8 6 D).ep (fmtS 8 6 D).pos (fmtS 8 6 D).num [q]) (fmtS 8 6 D).D).1 = 0 from hcs.1)]
    rfl
  have hL2 : Live (appM [q] (fmtS 8 6 D)).2 (zpg 8) ([] ++ [[q]]) 0 := by
    rcases live_app (e := 5) hL hne' hl' (show 0 + 1 < 6 by decide) (show 1 < 5 by decide) hc.2 with ⟨_, h, _⟩ | ⟨h, _, _⟩
    · exact h
    · have h' : (appM [q] (fmtS 8 6 D)).1 = 17 := h
      rw [eap] at h'; cases h'
  have hS2 := appM_sok hS hl' (show 0 + 1 < 6 by decide)
  rw [ecm, eap] at hA3
  rw [eap] at hL2 hS2
  rw [ecm, eap]
  have hc2 := hcs.2
  generalize (seqW (txW 1 0 0 [q]) D).2 = D2 at hA3 hL2 hS2 hc2
  obtain ⟨p2, m2, j2, w2, rfl⟩ := hA3
  refine ev_I rfl ?_
  refine ev_call (page_ok (N := N) (dp := dp + 7) (b := 7)) rfl ?_
  rintro _ _ rfl
  refine ev_S rfl (ev_bif rfl (ev_A rfl ?_))
  -- the second commit is refused
  have h7 := h6.new (Box.mk [vI 8, vS (pgT 7)])
  generalize hx2 : sg3.length = x2 at h7
  have h8 : Has (sg3 ++ [Box.mk [vI 8, vS (pgT 7)]]) (((s, stB d 6 p2 8 m2 (.gp j2 0) (1 : Nat)) :: (p2, pgB (setPg [q] (zpg 8))) :: (m2, .map (emb tV (insAll (imL [q]) []))) :: (j2, jnB d 6 (1 : Nat) 2 (1 : Nat)) :: dkH d g w2 D2) ++ [(x2, .mk (flatI [(8, pgT 7)])), (x1, .mk (flatI [(3, pgT 7)]))]) := h7.pm fun x => by
    simp only [flatI, List.count_cons, List.count_append, List.count_nil]; omega
  have hI2 : ImH (.gs x2 2 0 1) [(8, pgT 7)] [(x2, .mk (flatI [(8, pgT 7)]))] := .inr ⟨x2, rfl, rfl⟩
  refine ev_call (commit_any (N := N) (dp := dp + 1) hI2 (fun q hq => by simp at hq; simp [hq]) ⟨p2, m2, j2, w2, rfl⟩ hS2 h8 (by decide) (show 0 + 1 + 1 ≤ 5000 by decide) (by decide) hN) rfl ?_
  rintro v sg4 (⟨rfl, _, h9⟩ | ⟨l2, e2, hl2, _, _, _⟩)
  rotate_left
  · obtain ⟨q2, rfl, hq3, _⟩ := imL_one e2
    have := (hl2.rg q2 (by simp)).1
    have h8' : q2.1 < 8 := this
    omega
  replace h9 : Has sg4 (((s, stB d 6 p2 8 m2 (.gp j2 0) (1 : Nat)) :: (p2, pgB (setPg [q] (zpg 8))) :: (m2, .map (emb tV (insAll (imL [q]) []))) :: (j2, jnB d 6 (1 : Nat) 2 (1 : Nat)) :: dkH d g w2 D2) ++ []) := by
    refine (?_ : Has sg4 ([(x2, .mk (flatI [(8, pgT 7)])), (x1, .mk (flatI [(3, pgT 7)]))] ++ (((s, stB d 6 p2 8 m2 (.gp j2 0) (1 : Nat)) :: (p2, pgB (setPg [q] (zpg 8))) :: (m2, .map (emb tV (insAll (imL [q]) []))) :: (j2, jnB d 6 (1 : Nat) 2 (1 : Nat)) :: dkH d g w2 D2) ++ []))).drop _
    exact h9.pm fun x => by
      simp only [List.count_cons, List.count_append, List.count_nil]; omega
  refine ev_I rfl (ev_A rfl ?_)
  refine ev_call (waiting_ok (N := N) (dp := dp + 7) (i := 0) h9 rfl) rfl ?_
  rintro _ _ ⟨rfl, _⟩
  refine ev_I rfl (ev_A rfl ?_)
  refine ev_call (fresh_ok (N := N) (dp := dp + 7) (i := 0) (j := 2) h9 rfl rfl) rfl ?_
  rintro _ _ ⟨rfl, _⟩
  refine ev_I rfl (ev_A rfl ?_)
  refine ev_call (stroom_ok (N := N) (dp := dp + 6) (i := 0) (i2 := 3) h9 rfl rfl (by decide) (by decide)) rfl ?_
  rintro _ _ ⟨rfl, _⟩
  refine ev_I rfl (ev_A rfl ?_)
  -- the flush
  refine ev_call (sflush_eq (N := N) (dp := dp + 4) ⟨p2, m2, j2, w2, rfl⟩ hS2 h9 (show 0 + 1 + 1 ≤ 10000 by decide) hN) rfl ?_
  have efl : flushM ⟨8, 6, setPg [q] (zpg 8), insAll (imL [q]) [], 1, 2, 1, 1, D2⟩ = (0, ⟨8, 6, setPg [q] (zpg 8), insAll (imL [q]) [], 1, 2, 1, 0, D2.go.settled⟩) := by
    unfold flushM
    rw [show (APg.mk 8 6 (setPg [q] (zpg 8)) (insAll (imL [q]) []) 1 2 1 1 D2).D.down = false from hc2.2]
    simp only [Bool.false_eq_true, if_false]
    rw [if_neg (show ¬ 1 = 0 by decide)]
    have : D2.flu = (0, D2.go.settled) := by unfold ADisk.flu; rw [hc2.stop]; rfl
    rw [this, if_pos rfl]
  rw [efl]
  rintro _ sg5 ⟨rfl, A5, ⟨p5, m5, j5, w5, rfl⟩, h10⟩
  have hL3 := live_settle hL2 (D := D2.go.settled) rfl rfl
  have hc3 : Calm D2.go.settled := hc2.go
  have hD3 : DOk (1 + 6 + 8) 0 D2.go.settled := ⟨hL3.fl, fun q hq => (nomatch hq), Nat.le_refl _⟩
  obtain ⟨c, hC, hsc⟩ := live_cur hL3
  refine ev_I rfl (ev_A rfl ?_)
  have h11 : Has sg5 (dkH d g w5 D2.go.settled ++ [(s, stB d 6 p5 8 m5 (.gp j5 0) (0 : Nat)), (p5, pgB (setPg [q] (zpg 8))), (m5, .map (emb tV (insAll (imL [q]) []))), (j5, jnB d 6 (1 : Nat) 2 (1 : Nat))]) := h10.pm fun x => by
    simp only [List.count_cons, List.count_append, List.count_nil]; omega
  have hCd : Disk D2.go.settled 8 6 1 (zpg 8) c := hC.disk rfl
  refine ev_call (pload_eq (N := N) (dp := dp) (ep := 1) (n := 8) (size := 6) h11 hD3 hc3.2 hCd (by decide) (by decide) (by decide) (by decide) (by decide) (Nat.zero_le _) hN hsc (fun l hl => (hL3.ok l hl).1)) rfl ?_
  have hck := (Calm.ck (ep := 1 + 1) (n := 8) (size := 6) (pgs := pgAll ([] ++ [[q]]) (zpg 8)) (ks := sortI ((frAll ([] ++ [[q]]) []).map (·.1))) hc3).1
  rintro v sg6 ⟨hz, _⟩
  obtain ⟨s6, A6, rfl, ⟨p6, m6, j6, w6, rfl⟩, h12⟩ := hz hck
  refine ev_T (ev_bif rfl (ev_A rfl (ev_I rfl (ev_if rfl (ev_O (a := false) rfl (ev_else (by decide) (ev_A rfl ?_)))))))
  have hpl : (pgAll ([] ++ [[q]]) (zpg 8)).length = 8 := by rw [pgAll_len]; rfl
  refine ev_call (pread_ok (N := N) (dp := dp + 6) (i := 0) (i2 := 1) (a := 3) h12 rfl rfl hpl) rfl ?_
  rintro _ _ ⟨rfl, _⟩
  rw [if_pos (show (0 : Int) ≤ 3 ∧ (3 : Int) < (((ldS 1 8 6 (zpg 8) ([] ++ [[q]]) D2.go.settled).n : Nat) : Int) from (by decide : (0 : Int) ≤ 3 ∧ (3 : Int) < ((8 : Nat) : Int)))]
  refine ev_T (ev_bif rfl (ev_S rfl (ev_I rfl (ev_A rfl ?_))))
  refine ev_call (pread_ok (N := N) (dp := dp + 6) (i := 0) (i2 := 1) (a := 8) h12 rfl rfl hpl) rfl ?_
  rintro _ _ ⟨rfl, _⟩
  rw [if_neg (show ¬ ((0 : Int) ≤ 8 ∧ (8 : Int) < (((ldS 1 8 6 (zpg 8) ([] ++ [[q]]) D2.go.settled).n : Nat) : Int)) from (by decide : ¬ ((0 : Int) ≤ 8 ∧ (8 : Int) < ((8 : Nat) : Int))))]
  have e36 : (insAll (imL [q]) []).length = 1 := rfl
  refine ev_T (ev_bif rfl (ev_S rfl (ev_I rfl (ev_if rfl (ev_if rfl (ev_if rfl (ev_if rfl (ev_if rfl (ev_if rfl ?_)))))))))
  refine ev_call (page_ok (N := N) (dp := dp + 7) (b := 7)) rfl ?_
  rintro _ _ rfl
  have e3 : tx ((pgAll ([] ++ [[q]]) (zpg 8)).getD (Int.toNat 3) []) = pgT 7 := by
    have : (pgAll ([] ++ [[q]]) (zpg 8)) = (zpg 8).set q.1 q.2 := rfl
    rw [this, hq1', ← hq2]
    rfl
  refine ev_S rfl (ev_if (eqS_iff.2 e3) (ev_if rfl (ev_if rfl (ev_A rfl ?_))))
  refine ev_call (stepoch_ok (N := N) (dp := dp + 6) (i := 0) (i2 := 3) h12 rfl rfl) rfl ?_
  rintro _ _ ⟨rfl, _⟩
  refine ev_I rfl (ev_if rfl (ev_A rfl ?_))
  refine ev_call (pages_ok (N := N) (dp := dp + 7) (i := 0) h12 rfl) rfl ?_
  rintro _ _ ⟨rfl, _⟩
  refine ev_I rfl (ev_if rfl (ev_A rfl ?_))
  have h13 : Has sg6 ([(s, stB d 6 p5 8 m5 (.gp j5 0) (0 : Nat)), (p5, pgB (setPg [q] (zpg 8))), (m5, .map (emb tV (insAll (imL [q]) []))), (j5, jnB d 6 (1 : Nat) 2 (1 : Nat))]) := h12.drop _
  refine ev_call (waiting_ok (N := N) (dp := dp + 7) (i := 0) h13 rfl) rfl ?_
  rintro _ _ ⟨rfl, _⟩
  exact ev_I rfl (ev_ret rfl)
end Go.Abs
namespace Go.Abs
open Go
set_option linter.unusedVariables false
set_option maxRecDepth 100000
variable {N dp : Nat} {sg : Sg} {s d p m n k size e g w : Nat} {jv : AVal} {wt : Int} {A R L H : Hp} {D : ADisk}
theorem flatG_ls {a : AVal} {l : List PAct} (h : LsV 5 a (l.map actC)) : flatG sg 5 a = some (l.length, (l.map actC).flatten) := by
  rcases h with ⟨nn, rfl⟩ | ⟨h, x, cap, rfl⟩
  · show some (((l.map actC).map AVal.agg).length, flatA ((l.map actC).map AVal.agg)) = _
    rw [flatA_agg, List.length_map, List.length_map]
  · have : l = [] := List.map_eq_nil_iff.1 h
    subst this; rfl
def finA : PAct := ⟨4, .sl true 3 [], [], 0, 0, .sl true 1 [], []⟩
theorem finA_ok : finA.Ok := ⟨.inl ⟨true, rfl⟩, .inl ⟨true, rfl⟩⟩
/-- The loop's beginning. -/
theorem law_start {l : List PAct} {m t ac : Nat} (hl : ∀ x, x ∈ l → x.Ok) (h30 : l.length ≤ 30) (h40 : ∀ x, x ∈ l → x.puts.length ≤ 40) (hA : StE s d g (fmtS n size D) A) (hF : Fresh D n size 1 (zpg n)) (hc : Calm D) (hn1 : 8 ≤ n) (hs1 : 4 ≤ size) (hf : n + size ≤ 79) (hN : 1000000 < N)
    (h : Has sg (A ++ (((m, .mk [.gs t 1 0 n]) :: [(t, pgB (zpg n))]) ++ ((ac, acB (l ++ [finA])) :: R)))) :
    Ev (iter (law09_PagesPrefix.R0 (tab N (dp + 8)) N) N (lpS d s (.gs m 1 0 1) ac (l ++ [finA]).length 0 sg) (law09_PagesPrefix.K0 (tab N (dp + 8)) N)) (Rt fun v _ => v = vB true) := by
  refine law_loop (n := n) (size := size) (g := g) (R := R) (fun x hx => ?_) (by rw [List.length_append, List.length_singleton]; omega) hN ⟨sg, s, _, A, [zpg n], .gs m 1 0 1, _, rfl, ?_, hA, ⟨m, [], [t], rfl, rfl, rfl⟩, Nat.le_refl _, h⟩
  · rcases List.mem_append.1 hx with hx | hx
    · exact ⟨hl x hx, h40 x hx⟩
    · rw [List.mem_singleton] at hx
      subst hx
      exact ⟨finA_ok, Nat.zero_le _⟩
  · have hL := live_fresh hF (by omega) (by omega) (by decide)
    obtain ⟨hw, c, hC, _⟩ := hF
    refine ⟨⟨⟨hC.fl, fun q hq => ?_, ?_⟩, hC.len, ⟨by simp [fmtS], by simp [fmtS]⟩, hC.sz, hn1, ?_, hs1, ?_, Nat.zero_le _, Nat.zero_le _, ?_, Nat.zero_le _⟩, rfl, rfl, hf, fun x hx => ?_, by simp, .inl ⟨hc.2, _, _, _, hL, fun x hx => ?_, rfl⟩⟩
    · replace hq : q ∈ D.wr := hq
      rw [hw] at hq; cases hq
    · show D.wr.length ≤ _
      rw [hw]; exact Nat.zero_le _
    · show n ≤ 3840; omega
    · show size ≤ 1024; omega
    · show 1 < 10 + 4 * 0; omega
    · rw [List.mem_singleton] at hx; rw [hx]; exact List.length_replicate ..
    · obtain ⟨j, _, j2, rfl⟩ := hx
      have : j = 0 := by simpa using j2
      subst this
      simp [pgAll]
theorem law_ev {a b : Int} {av : AVal} {l : List PAct} (hav : LsV 5 av (l.map actC)) (hl : ∀ x, x ∈ l → x.Ok) (hlen : l.length < 9223372036854775808) (hN : l.length + 1000000 < N) :
    Ev (tab N (dp + 10) 5 [vI a, vI b, av] []) (Rt fun v _ => v = vB true) := by
  have hN' : 1000000 < N := by omega
  refine ev_of ((t5 ..).trans (law09_PagesPrefix.main ..)) ?_
  refine ev_call (lives_ok (N := N) (dp := dp) hN') rfl ?_
  rintro _ _ rfl
  refine ev_B rfl (ev_else (by decide) ?_)
  refine ev_call (size_ok (N := N) (dp := dp + 7) (a := a) (b := b)) rfl ?_
  rintro _ _ ⟨rfl, _⟩
  by_cases hc : 8 ≤ a ∧ a ≤ 3840 ∧ 4 ≤ b ∧ b ≤ 1024
  rotate_left
  · rw [if_neg hc]
    exact ev_T (ev_bif rfl (ev_I rfl (ev_I rfl (ev_else (by decide) (ev_ret rfl)))))
  rw [if_pos hc]
  obtain ⟨n, rfl⟩ := Int.eq_ofNat_of_zero_le (show 0 ≤ a by omega)
  obtain ⟨size, rfl⟩ := Int.eq_ofNat_of_zero_le (show 0 ≤ b by omega)
  refine ev_T (ev_bif rfl (ev_I rfl (ev_I rfl (ev_if rfl (ev_ite (fun hg => ?_) (fun hg => ev_ret rfl))))))
  have hg : (1 : Int) + size + n ≤ 80 := by
    have : ¬ (80 : Int) < 1 + size + n := by simpa using hg
    omega
  refine ev_A hav.plain ?_
  refine ev_call (small_eq (N := N) (dp := dp + 8) hav hl (by omega) (by omega)) rfl ?_
  rintro _ _ ⟨⟨b', rfl, hb⟩, _⟩
  refine ev_B rfl ?_
  cases b' with
  | false => exact ev_if rfl (ev_ret rfl)
  | true =>
    obtain ⟨h30, h40⟩ := hb rfl
    have e : (1 : Int) + (size : Int) + (n : Int) = ((1 + size + n : Nat) : Int) := by omega
    rw [e]
    refine ev_else (by decide) ?_
    refine ev_call (new_eq (N := N) (dp := dp + 5) (n := 1 + size + n) (has_nil []) (by omega) (by omega) (by omega)) rfl ?_
    rintro _ sg1 ⟨d, g, rfl, h1⟩
    refine ev_T (ev_bif rfl (ev_A rfl (ev_I rfl (ev_if rfl (ev_O (a := false) rfl (ev_else (by decide) (ev_A rfl ?_)))))))
    refine ev_call (format_eq (N := N) (dp := dp + 3) (n := n) (size := size) h1 ⟨rfl, fun q hq => (nomatch hq), rfl, rfl⟩ (Nat.zero_le _) (by omega) (by omega) (by omega) (by omega) hN') rfl ?_
    rintro _ sg2 ⟨s, A, D, rfl, hA, hF, hcm, h2⟩
    refine ev_T (ev_bif rfl (ev_A rfl (ev_I rfl (ev_if rfl (ev_O (a := false) rfl (ev_else (by decide) (ev_A rfl ?_)))))))
    have hA0 := hA
    obtain ⟨p, m, j, w, rfl⟩ := hA
    refine ev_call (texts_eq (N := N) (dp := dp + 6) (i := 0) (i2 := 1) h2 rfl rfl (List.length_replicate ..) (show 1 ≤ n by omega) (show n ≤ 3840 by omega) (by omega)) rfl ?_
    rintro _ sg3 ⟨t, rfl, h3⟩
    refine ev_A rfl (ev_bif rfl (ev_A hav.plain (ev_O (flatG_ls hav) ?_)))
    have h4 := h3.new (Box.mk [.gs t 1 0 n])
    cases l with
    | nil =>
      refine ev_bif rfl (ev_bif rfl ?_)
      have h5 := h4.new (acB ([] ++ [finA]))
      refine ev_O (flatG_gs (n := 1) (o := 0) (sz := 5) (h5.at (n := 0) rfl) (show 0 + 1 * 5 ≤ 5 by decide) (show 0 < 5 by decide)) (ev_bie rfl (ev_if (show 1 * 72 ≤ 35184372088832 by decide) ?_))
      have h6 := h5.new (acB ([] ++ [finA]))
      refine ev_O (a := 1) rfl ?_
      have h7 := h6.pm (M := ((sg3 ++ [Box.mk [.gs t 1 0 n]]).length, acB ([] ++ [finA])) :: (((s, stB d size p n m (.gp j 0) (0 : Nat)) :: (p, pgB (zpg n)) :: (m, .map (emb tV [])) :: (j, jnB d size (1 : Nat) 0 (0 : Nat)) :: dkH d g w D) ++ (((sg3.length, .mk [.gs t 1 0 n]) :: [(t, pgB (zpg n))]) ++ (((sg3 ++ [Box.mk [.gs t 1 0 n]] ++ [acB ([] ++ [finA])]).length, acB ([] ++ [finA])) :: [])))) fun x => by
        simp only [fmtS, List.count_cons, List.count_append, List.count_nil]; omega
      exact law_start (dp := dp + 1) (l := []) (fun x hx => (nomatch hx)) (Nat.zero_le _) (fun x hx => (nomatch hx)) ⟨p, m, j, w, rfl⟩ hF hcm (by omega) (by omega) (by omega) hN' h7.tail
    | cons x0 l0 =>
      have hl30 : (x0 :: l0).length ≤ 30 := h30
      have hne : Nat.beq (x0 :: l0).length 0 = false := rfl
      refine ev_bie hne (ev_if (by show (x0 :: l0).length * 72 ≤ _; omega) (ev_bif rfl ?_))
      have h5 := h4.new (Box.mk (((x0 :: l0).map actC).flatten))
      have hfl : (((x0 :: l0).map actC).flatten).length = 0 + (x0 :: l0).length * 5 := by rw [acts_len]; omega
      have hpos : 0 < (((x0 :: l0).map actC).flatten).length := by rw [acts_len, List.length_cons]; omega
      refine ev_app1_gs (n := 0) (o := 0) (esz := 5) (bytes := 72) (k := (x0 :: l0).length) (cs := actC finA) h5 rfl hfl hpos rfl (by decide) (by decide) (by omega) fun ac sg4 h6 => ?_
      have e3 : (((x0 :: l0).map actC).flatten).drop 0 ++ actC finA = (((x0 :: l0) ++ [finA]).map actC).flatten := by
        rw [List.drop_zero, List.map_append, List.flatten_append]; rfl
      rw [e3] at h6
      replace h6 : Has sg4 ((ac, acB ((x0 :: l0) ++ [finA])) :: ((sg3 ++ [Box.mk [.gs t 1 0 n]]).length, .mk []) :: (sg3.length, .mk [.gs t 1 0 n]) :: (t, pgB (zpg n)) :: (((s, stB d size p n m (.gp j 0) (0 : Nat)) :: (p, pgB (zpg n)) :: (m, .map (emb tV [])) :: (j, jnB d size (1 : Nat) 0 (0 : Nat)) :: dkH d g w D) ++ [])) := h6
      have h7 : Has sg4 (((sg3 ++ [Box.mk [.gs t 1 0 n]]).length, .mk []) :: (((s, stB d size p n m (.gp j 0) (0 : Nat)) :: (p, pgB (zpg n)) :: (m, .map (emb tV [])) :: (j, jnB d size (1 : Nat) 0 (0 : Nat)) :: dkH d g w D) ++ (((sg3.length, .mk [.gs t 1 0 n]) :: [(t, pgB (zpg n))]) ++ ((ac, acB ((x0 :: l0) ++ [finA])) :: [])))) := h6.pm fun x => by
        simp only [List.count_cons, List.count_append, List.count_nil]; omega
      refine ev_O (a := (x0 :: l0).length + 1) rfl ?_
      have e4 : (x0 :: l0).length + 1 = ((x0 :: l0) ++ [finA]).length := by rw [List.length_append]; rfl
      rw [e4]
      exact law_start (dp := dp + 1) (l := x0 :: l0) hl h30 h40 ⟨p, m, j, w, rfl⟩ hF hcm (by omega) (by omega) (by omega) hN' h7.tail
end Go.Abs
namespace Go.Abs
open Go Go.Proofs
set_option linter.unusedVariables false
set_option maxRecDepth 100000
theorem c3 : Tryz.prog.cellsOf 3 = 1 := by kernel_rfl
theorem c4 : Tryz.prog.cellsOf 4 = 1 := by kernel_rfl
theorem c5 : Tryz.prog.cellsOf 5 = 1 := by kernel_rfl
theorem c68 : Tryz.prog.cellsOf 68 = 1 := by kernel_rfl
theorem c69 : Tryz.prog.cellsOf 69 = 1 := by kernel_rfl
theorem c71 : Tryz.prog.cellsOf 71 = 5 := by kernel_rfl
theorem c201 : Tryz.prog.cellsOf 201 = 3 := by kernel_rfl
theorem g4 : (isAggT Tryz.prog 4 == some true) = false := by kernel_rfl
theorem g71 : (isAggT Tryz.prog 71 == some true) = true := by kernel_rfl
theorem g201 : (isAggT Tryz.prog 201 == some true) = true := by kernel_rfl
theorem sh61 : shOk Tryz.prog 20 61 = true := by kernel_rfl
theorem sh_int {m : Nat} {l : List AVal} (h : Sh Tryz.prog (m + 1) 3 l) : ∃ n, l = [vI n] := by
  unfold Sh at h
  simp only [Tryz.underlying3] at h
  obtain ⟨n, rfl, _⟩ := h
  exact ⟨n, rfl⟩
theorem sh_u8 {m : Nat} {l : List AVal} (h : Sh Tryz.prog (m + 1) 5 l) : ∃ n, l = [v8 n] := by
  unfold Sh at h
  simp only [Tryz.underlying5] at h
  obtain ⟨n, rfl, _⟩ := h
  exact ⟨n, rfl⟩
theorem sh_bool {m : Nat} {l : List AVal} (h : Sh Tryz.prog (m + 1) 4 l) : ∃ b, l = [vB b] := by
  unfold Sh at h
  simp only [Tryz.underlying4] at h
  exact h
theorem put_of {m : Nat} {cs : List AVal} (h : Sh Tryz.prog (m + 2) 201 cs) : ∃ a : PPut, cs = putC a := by
  unfold Sh at h
  simp only [Tryz.underlying201, c201] at h
  obtain ⟨hl, hf⟩ := h
  match cs, hl with
  | [x0, x1, x2], _ =>
    have h0 := hf { name := "Page", type := 3, offset := 0, embedded := false, tag := "", pkgPath := "", byteOffset := 0 } (by simp)
    have h1 := hf { name := "Byte", type := 5, offset := 1, embedded := false, tag := "", pkgPath := "", byteOffset := 8 } (by simp)
    have h2 := hf { name := "Short", type := 4, offset := 2, embedded := false, tag := "", pkgPath := "", byteOffset := 9 } (by simp)
    simp only [c3, c4, c5] at h0 h1 h2
    obtain ⟨n0, e0⟩ := sh_int h0
    obtain ⟨n1, e1⟩ := sh_u8 h1
    obtain ⟨b2, e2⟩ := sh_bool h2
    simp at e0 e1 e2
    subst e0 e1 e2
    exact ⟨⟨n0, n1, b2⟩, rfl⟩
theorem list_of {α : Type} {S : List AVal → Prop} {f : α → List AVal} {Q : α → Prop} {sz : Nat} {a : AVal} (hS : ∀ cs, S cs → ∃ x, cs = f x ∧ Q x) (h : ShSl S true sz a) : ∃ l : List α, LsV sz a (l.map f) ∧ (∀ x, x ∈ l → Q x) ∧ l.length ≤ maxLen := by
  rcases h with rfl | ⟨L, rfl, hLl, hL⟩ | ⟨x, cap, rfl⟩
  · exact ⟨[], .inl ⟨true, rfl⟩, by simp, Nat.zero_le _⟩
  · have key : ∀ L : List (List AVal), (∀ cs, cs ∈ L → S cs ∧ cs.length = sz) → ∃ l : List α, L = l.map f ∧ ∀ x, x ∈ l → Q x := by
      intro L
      induction L with
      | nil => intro _; exact ⟨[], rfl, by simp⟩
      | cons c L ih =>
        intro hL
        obtain ⟨l, e, hq⟩ := ih fun cs hcs => hL cs (by simp [hcs])
        obtain ⟨x, ex, hx⟩ := hS c (hL c (by simp)).1
        refine ⟨x :: l, by rw [e, ex]; rfl, fun y hy => ?_⟩
        rcases List.mem_cons.1 hy with rfl | hy
        · exact hx
        · exact hq y hy
    obtain ⟨l, e, hq⟩ := key L hL
    refine ⟨l, .inl ⟨false, ?_⟩, hq, by rw [e, List.length_map] at hLl; exact hLl⟩
    rw [← e]; rfl
  · exact ⟨[], .inr ⟨rfl, x, cap, rfl⟩, by simp, Nat.zero_le _⟩
theorem bools_of {S : List AVal → Prop} {sz : Nat} {a : AVal} (hS : ∀ cs, S cs → ∃ b, cs = [vB b]) (h : ShSl S false 1 a) : ∃ l : List Bool, BlV a l := by
  rcases h with rfl | ⟨L, rfl, _, hL⟩ | ⟨x, cap, rfl⟩
  · exact ⟨[], .inl ⟨true, rfl⟩⟩
  · have key : ∀ L : List (List AVal), (∀ cs, cs ∈ L → S cs ∧ cs.length = 1) → ∃ l : List Bool, L.map (elB false) = l.map vB := by
      intro L
      induction L with
      | nil => intro _; exact ⟨[], rfl⟩
      | cons c L ih =>
        intro hL
        obtain ⟨l, e⟩ := ih fun cs hcs => hL cs (by simp [hcs])
        obtain ⟨b, eb⟩ := hS c (hL c (by simp)).1
        refine ⟨b :: l, ?_⟩
        rw [List.map_cons, List.map_cons, e, eb]; rfl
    obtain ⟨l, e⟩ := key L hL
    exact ⟨l, .inl ⟨false, by rw [e]⟩⟩
  · exact ⟨[], .inr ⟨rfl, x, cap, rfl⟩⟩
theorem act_of {m : Nat} {cs : List AVal} (h : Sh Tryz.prog (m + 4) 71 cs) : ∃ t : PAct, cs = actC t ∧ t.Ok := by
  unfold Sh at h
  simp only [Tryz.underlying71, c71] at h
  obtain ⟨hl, hf⟩ := h
  match cs, hl with
  | [x0, x1, x2, x3, x4], _ =>
    have h0 := hf { name := "Kind", type := 3, offset := 0, embedded := false, tag := "", pkgPath := "", byteOffset := 0 } (by simp)
    have h1 := hf { name := "Puts", type := 68, offset := 1, embedded := false, tag := "", pkgPath := "", byteOffset := 8 } (by simp)
    have h2 := hf { name := "N", type := 3, offset := 2, embedded := false, tag := "", pkgPath := "", byteOffset := 32 } (by simp)
    have h3 := hf { name := "Byte", type := 5, offset := 3, embedded := false, tag := "", pkgPath := "", byteOffset := 40 } (by simp)
    have h4 := hf { name := "Keep", type := 69, offset := 4, embedded := false, tag := "", pkgPath := "", byteOffset := 48 } (by simp)
    simp only [c3, c5, c68, c69] at h0 h1 h2 h3 h4
    obtain ⟨n0, e0⟩ := sh_int h0
    obtain ⟨n2, e2⟩ := sh_int h2
    obtain ⟨n3, e3⟩ := sh_u8 h3
    simp at e0 e2 e3
    subst e0 e2 e3
    unfold Sh at h1 h4
    simp only [Tryz.underlying68, c201, g201] at h1
    simp only [Tryz.underlying69, c4, g4] at h4
    obtain ⟨av, e1, hs1⟩ := h1
    obtain ⟨bv, e4, hs4⟩ := h4
    simp at e1 e4
    subst e1 e4
    obtain ⟨l, hl, _⟩ := list_of (f := putC) (Q := fun _ => True) (fun cs hc => by obtain ⟨x, hx⟩ := put_of hc; exact ⟨x, hx, trivial⟩) hs1
    obtain ⟨bits, hb⟩ := bools_of (sz := 1) (fun cs hc => sh_bool hc) hs4
    exact ⟨⟨n0, x1, l, n2, n3, x4, bits⟩, rfl, hl, hb⟩
theorem arg_of {a : AVal} (h : ShSl (Sh Tryz.prog 19 71) (isAggT Tryz.prog 71 == some true) (Tryz.prog.cellsOf 71) a) : ∃ l : List PAct, LsV 5 a (l.map actC) ∧ (∀ t, t ∈ l → t.Ok) ∧ l.length ≤ maxLen := by
  rw [g71, c71] at h
  exact list_of (fun cs hc => act_of hc) h
end Go.Abs
