/- What the functions of the program come to, one after another: several texts joined. -/
import Derived.Test.YtimoaolannkpcaaGreatTxtC
set_option linter.unusedVariables false
set_option linter.unusedSimpArgs false
set_option linter.unusedSectionVars false
namespace Go.Abs
open Go
set_option linter.unusedVariables false
set_option maxRecDepth 100000
theorem ev_G {Q : Out → Prop} {l : List AVal} {c : List AVal → Option Out} (h : Ev (c l) Q) : Ev (withG (some (.agg l)) c) Q := h
variable {N dp : Nat} {sg : Sg} {h s n size m k : Nat} {A R L : Hp} {pgs : List ByteArray} {over : List (Int × ByteArray)}
theorem do_put {cs : List Chain} {t : List UInt8} {xb bb : Nat} (hA : St1 s n size pgs A) (hL : Lv n pgs cs) (ht : 1 ≤ t.length ∧ t.length ≤ 4096) (hN : 300000 < N)
    (hh : Has sg (A ++ ((xb, .mk [vS (tx t)]) :: (bb, .mk [vI 0, vI 0]) :: R))) :
    Ev (tab N (dp + 10) 18 [.gp s 0, .clo 61 [] [.gp xb 0, .gp bb 0]] sg) (Rt fun v sg' => (∃ k : Int, (k = 13 ∨ k = 14) ∧ v = vI k ∧ Has sg' (A ++ R)) ∨
      (v = vI 0 ∧ ∃ pgs' A' c, St1 s n size pgs' A' ∧ Lv n pgs' (cs ++ [c]) ∧ bodyL c = t ∧ Has sg' (A' ++ ((xb, .mk [vS (tx t)]) :: (bb, .mk [vI (nx c), vI (bodyL c).length]) :: R)))) := by
  obtain ⟨f1, f2, f3, f4⟩ := hA.facts
  have hO : OvOk n [] := ⟨by simp, by simp⟩
  refine (do_ok (dp := dp + 1) (f := 61) (first := []) (cap := [.gp xb 0, .gp bb 0])
    (P := fun o' R2 => ∃ ps, Tkn n pgs [] o' ps ∧ ps.length = (cutF t.length t).length ∧ Chn (cur o' pgs) (ps.zip (cutF t.length t)) ∧ R2 = (xb, .mk [vS (tx t)]) :: (bb, .mk [vI (nx (ps.zip (cutF t.length t))), vI t.length]) :: R)
    (P' := fun k R2 => k = 13 ∧ R2 = (xb, .mk [vS (tx t)]) :: (bb, .mk [vI 0, vI 0]) :: R) hA hh rfl (by omega) ?_).imt ?_
  · intro h m sg' hx
    refine ev_of ((t61 ..).trans (law14_BlobBack_1.main ..)) ?_
    refine ev_atS (hx.in (p := (xb, .mk [vS (tx t)])) (by simp)) rfl ?_
    refine ev_callP (put_body (dp := dp) hA hO hx (by omega) (by omega)) rfl ?_ ?_
    · rintro _ sg2 ⟨o', ps, h1, h2, h3, rfl, h4⟩
      have h5 : Has sg2 ((bb, .mk [vI 0, vI 0]) :: HH h m s o' A ((xb, .mk [vS (tx t)]) :: R)) := h4.pm fun q => by simp only [List.count_cons, List.count_append]; omega
      refine ev_G ?_
      refine ev_st h5 0 rfl rfl (by show 2 ≤ 2; omega) (by show 0 < 2; omega) fun sg3 h6 => ?_
      refine ⟨_, rfl, o', _, h1.ok, ⟨ps, h1, h2, h3, rfl⟩, ?_⟩
      have h7 : Has sg3 ((bb, .mk [vI (nx (ps.zip (cutF t.length t))), vI t.length]) :: HH h m s o' A ((xb, .mk [vS (tx t)]) :: R)) := h6
      exact h7.pm fun q => by simp only [List.count_cons, List.count_append]; omega
    · rintro _ sg2 ⟨⟨rfl, _⟩, h4⟩
      exact ⟨_, rfl, 13, _, rfl, by decide, ⟨rfl, rfl⟩, h4⟩
  · have hdr : ∀ {sg2 : Sg} {X : Hp} {B1 B2 : Box}, Has sg2 (X ++ ((xb, B1) :: (bb, B2) :: R)) → Has sg2 (X ++ R) := fun hx => hx.sub (List.Sublist.append (List.Sublist.refl _) (.cons _ (.cons _ (List.Sublist.refl _))))
    rintro v sg2 (⟨k, R2, rfl, _, ⟨rfl, rfl⟩, h3⟩ | ⟨o', R2, hO', ⟨ps, h1, h2, h3, rfl⟩, ⟨rfl, _, h4⟩ | ⟨rfl, pgs', A', hA', hg, h4⟩⟩)
    · exact .inl ⟨13, .inl rfl, rfl, hdr h3⟩
    · exact .inl ⟨14, .inr rfl, rfl, hdr h4⟩
    · have hz := pgsL_zip ps (cutF t.length t) h2
      have hb := (bodyL_zip ps (cutF t.length t) h2).trans (cutF_flat _ _ (Nat.le_refl _))
      have hcl := cutF_len t.length t (Nat.le_refl _)
      refine .inr ⟨rfl, pgs', A', ps.zip (cutF t.length t), hA', hL.put h1 f3 hz h3 (cutd_of _ _ _ (Nat.le_refl _) h2) ?_ hg, hb, ?_⟩
      · intro e
        rw [e] at hb
        have : t = [] := by simpa [bodyL] using hb.symm
        rw [this] at ht
        simp at ht
      · rw [hb]; exact h4
theorem do_drop {a b : List Chain} {c : Chain} {bb f : Nat} (hA : St1 s n size pgs A) (hL : Lv n pgs (a ++ c :: b)) (hN : 300000 < N) (hf : Nat.blt f yBase = true)
    (hcall : ∀ h m sg', Has sg' (HH h m s [] A ((bb, .mk [vI (nx c), vI (bodyL c).length]) :: R)) → Ev (tab N (dp + 9) f [.gp h 0, .gp bb 0] sg') (Rt fun _ sg2 => ∃ o', Gvn n pgs [] o' (pgsL c) ∧ Has sg2 (HH h m s o' A ((bb, .mk [vI (nx c), vI (bodyL c).length]) :: R))))
    (hh : Has sg (A ++ ((bb, .mk [vI (nx c), vI (bodyL c).length]) :: R))) :
    Ev (tab N (dp + 11) 18 [.gp s 0, .clo f [] [.gp bb 0]] sg) (Rt fun v sg' => v = vI 0 ∧ ∃ pgs' A', St1 s n size pgs' A' ∧ Lv n pgs' (a ++ b) ∧ Has sg' (A' ++ ((bb, .mk [vI (nx c), vI (bodyL c).length]) :: R))) := by
  obtain ⟨f1, f2, f3, f4⟩ := hA.facts
  have hsz : 4 ≤ size := by
    obtain ⟨at_, d, p, m, j, ep, num, wt, l, k, Ad, _, _, _, _, _, _, _, _, _, hs1, hs2⟩ := hA
    exact hs1
  refine (do_ok (dp := dp + 2) (f := f) (first := []) (cap := [.gp bb 0]) (P := fun o' R2 => Gvn n pgs [] o' (pgsL c) ∧ R2 = (bb, .mk [vI (nx c), vI (bodyL c).length]) :: R) (P' := fun _ _ => False) hA hh hf (by omega) ?_).imt ?_
  · intro h m sg' hx
    refine (Ev.rp (ψ := fun _ _ => False) (hcall h m sg' hx)).imp fun o => ?_
    cases o with
    | ret v sg2 => rintro ⟨o', h1, h2⟩; exact ⟨o', _, h1.ok, ⟨h1, rfl⟩, h2⟩
    | pan v sg2 => exact fun h => h.elim
  · rintro v sg2 (⟨k, R2, rfl, _, hf, _⟩ | ⟨o', R2, hO', ⟨h1, rfl⟩, ⟨rfl, hbig, h4⟩ | ⟨rfl, pgs', A', hA', hg, h4⟩⟩)
    · exact hf.elim
    · exfalso
      have : o'.length ≤ 1 := by
        have h5 : (o'.map (·.1)).length ≤ [(1 : Int)].length := h1.ok.nd.length_le_of_subset fun x hx => by
          rcases h1.key x hx with h6 | h6
          · simp [h6]
          · simp at h6
        simpa using h5
      omega
    · exact ⟨rfl, pgs', A', hA', hL.drop h1 f3 hg, h4⟩
theorem drop_cl {c : Chain} {bb : Nat} (hA : St1 s n size pgs A) (hc : ChOk n pgs [] c) (hN : 200000 < N) (hn : c.length ≤ 4000) (hx : Has sg (HH h m s [] A ((bb, .mk [vI (nx c), vI (bodyL c).length]) :: R))) :
    Ev (tab N (dp + 9) 63 [.gp h 0, .gp bb 0] sg) (Rt fun _ sg2 => ∃ o', Gvn n pgs [] o' (pgsL c) ∧ Has sg2 (HH h m s o' A ((bb, .mk [vI (nx c), vI (bodyL c).length]) :: R))) ∧
    Ev (tab N (dp + 9) 69 [.gp h 0, .gp bb 0] sg) (Rt fun _ sg2 => ∃ o', Gvn n pgs [] o' (pgsL c) ∧ Has sg2 (HH h m s o' A ((bb, .mk [vI (nx c), vI (bodyL c).length]) :: R))) := by
  have hO : OvOk n [] := ⟨by simp, by simp⟩
  constructor
  · refine ev_of ((t63 ..).trans (law14_BlobBack_2.main ..)) ?_
    refine ev_atG (hx.in (p := (bb, .mk [vI (nx c), vI (bodyL c).length])) (by simp)) rfl rfl (by decide) ?_
    refine ev_call (drop_of (dp := dp) hA hO hc hx hN hn) rfl ?_
    rintro _ sg2 ⟨o', h1, h2⟩
    exact ev_ret ⟨o', h1, h2⟩
  · refine ev_of ((t69 ..).trans (law14_BlobBack_4.main ..)) ?_
    refine ev_atG (hx.in (p := (bb, .mk [vI (nx c), vI (bodyL c).length])) (by simp)) rfl rfl (by decide) ?_
    refine ev_call (drop_of (dp := dp) hA hO hc hx hN hn) rfl ?_
    rintro _ sg2 ⟨o', h1, h2⟩
    exact ev_ret ⟨o', h1, h2⟩
theorem Lv.len {cs : List Chain} (hL : Lv n pgs cs) (hA : St1 s n size pgs A) {c : Chain} (hc : c ∈ cs) : c.length ≤ 3840 := by
  obtain ⟨f1, f2, f3, f4⟩ := hA.facts
  have h9 : (pgsL c).length ≤ (flat cs).length := (List.sublist_flatten_of_mem (List.mem_map.2 ⟨c, hc, rfl⟩)).length_le
  have h10 := hL.many f3
  have h11 := cnt_le (cur [] pgs 1) (n - 2) 2
  have : (pgsL c).length = c.length := by simp [pgsL]
  omega
theorem do_drop2 {a b : List Chain} {c : Chain} {bb : Nat} (hA : St1 s n size pgs A) (hL : Lv n pgs (a ++ c :: b)) (hN : 300000 < N) (hh : Has sg (A ++ ((bb, .mk [vI (nx c), vI (bodyL c).length]) :: R))) (f : Nat) (hf : f = 63 ∨ f = 69) :
    Ev (tab N (dp + 11) 18 [.gp s 0, .clo f [] [.gp bb 0]] sg) (Rt fun v sg' => v = vI 0 ∧ ∃ pgs' A', St1 s n size pgs' A' ∧ Lv n pgs' (a ++ b) ∧ Has sg' (A' ++ ((bb, .mk [vI (nx c), vI (bodyL c).length]) :: R))) := by
  have hcm : c ∈ a ++ c :: b := by simp
  have hlen := hL.len hA hcm
  refine do_drop hA hL hN (by rcases hf with rfl | rfl <;> rfl) (fun h m sg' hx => ?_) hh
  have := drop_cl (dp := dp) hA (hL.ok hcm) (by omega : 200000 < N) (by omega) hx
  rcases hf with rfl | rfl
  · exact this.1
  · exact this.2
end Go.Abs
namespace Go.Abs
open Go
set_option linter.unusedVariables false
set_option maxRecDepth 100000
section
variable {Q : Out → Prop} {sg : Sg}
theorem ev_jn0 {j : Nat} {J : St → R} {st : St} (h : Ev (J st) Q) : Ev (jnc j J st) Q := h
theorem ev_elV {i : Nat} {v : AVal} {c : List AVal × Nat → R} {nn : Bool} {l : List AVal} (e : l[i]? = some v) (hv : v.cells = [v]) (hc : Ev (c ([v], 0)) Q) :
    Ev (withO (elemV 1 (i : Int) (.sl nn 1 l)) fun r => withO (loadC none sg r) c) Q := by
  have e1 : elemV 1 (i : Int) (.sl nn 1 l) = some (.ep [v]) := by
    simp only [elemV, Nat.beq_refl, cond_true, if_pos (show (0 : Int) ≤ (i : Int) by omega), Int.toNat_natCast, e, withA, hv]
    rfl
  rw [e1]
  exact hc
end
def lbH (nb mB mb mE mk n : Nat) (cs : List Chain) (ev : List (Nat × Nat)) (aE : AVal) (HE : Hp) : Hp :=
  (mB, .mk [.gm mb]) :: (mb, .map (embK kvP fB (bmL cs))) :: (mE, .mk [aE]) :: (mk, .map (embK kvP vB (ev.map fun k => (k, true)))) :: (nb, .mk [vI n]) :: HE
structure LI (n size s : Nat) (pgs : List ByteArray) (A : Hp) (cs : List Chain) (ev : List (Nat × Nat)) (aE : AVal) (HE : Hp) (i : Nat) : Prop where
  st : St1 s n size pgs A
  lv : Lv n pgs cs
  nd : ev.Nodup
  cov : ∀ c, c ∈ cs → kc c ∈ ev
  sx : SxH aE 2 ev.length (evC ev) HE
  few : ev.length ≤ i
def GoodS (n size s nb mB mb mE mk i : Nat) (sg : Sg) : Prop := ∃ pgs A cs ev aE HE, LI n size s pgs A cs ev aE HE i ∧ Has sg (A ++ lbH nb mB mb mE mk n cs ev aE HE)
abbrev stL (aD aL : AVal) (nb s mB mE mk L i : Nat) (sg : Sg) : St :=
  mkS [3, 4, 9, 12, 13, 14, 47, 48, 49] [.v aD false, .v (.gp nb 0) false, .v (.gp s 0) false, .v (.gp mB 0) false, .v (.gp mE 0) false, .v (.gm mk) false, .v aL false, .v (vI L) false, .v (vI i) false] [none, none, none, none, none, none, none, none, none] (.sg sg)
abbrev st82 (aD aL : AVal) (nb s mB mE mk bb : Nat) (k : Int) (L i : Nat) (sg : Sg) : St :=
  mkS [3, 4, 9, 12, 13, 14, 15, 18, 19, 47, 48, 49] [.v aD false, .v (.gp nb 0) false, .v (.gp s 0) false, .v (.gp mB 0) false, .v (.gp mE 0) false, .v (.gm mk) false, .v (vI i) false, .v (.gp bb 0) false, .v (vI k) false, .v aL false, .v (vI L) false, .v (vI i) false] [none, none, none, none, none, none, none, none, none, none, none, none] (.sg sg)
abbrev st80 (aD aL : AVal) (nb s mB mE mk xb bb : Nat) (k : Int) (L i : Nat) (sg : Sg) : St :=
  mkS [3, 4, 9, 12, 13, 14, 15, 17, 18, 19, 47, 48, 49] [.v aD false, .v (.gp nb 0) false, .v (.gp s 0) false, .v (.gp mB 0) false, .v (.gp mE 0) false, .v (.gm mk) false, .v (vI i) false, .v (.gp xb 0) false, .v (.gp bb 0) false, .v (vI k) false, .v aL false, .v (vI L) false, .v (vI i) false] [none, none, none, none, none, none, none, none, none, none, none, none, none] (.sg sg)
theorem eqA_self {a : AVal} {sz k : Nat} {cs : List AVal} {H : Hp} (h : SxH a sz k cs H) : eqA a a = true := by
  obtain ⟨_, ⟨_, _, rfl⟩ | ⟨_, g, rfl, _⟩⟩ := h
  · simp [eqA, eqAs]
  · simp [eqA]
theorem same92 {a : AVal} {sz k : Nat} {cs : List AVal} {H : Hp} (h : SxH a sz k cs H) : sameU [(Res.s 92, RVal.sv (.v a false))] [(Res.s 92, RVal.sv (.v a false))] = true := by
  simp [sameU, eqA_self h]
theorem same91 (x y : Int) : sameU [(Res.s 91, RVal.sv (.v (.agg [vI x, vI y]) false))] [(Res.s 91, RVal.sv (.v (.agg [vI x, vI y]) false))] = true := by
  simp [sameU, eqA, eqAs, eqVal, kEq]
section
variable {N dp : Nat} {sg : Sg} {n size s nb mB mb mE mk L i bb xb : Nat} {R : Hp} {Q : Out → Prop} {K : Ex → St → Option Out} {pgs : List ByteArray} {A : Hp} {cs : List Chain} {ev : List (Nat × Nat)} {aE aL : AVal} {HE : Hp} {nn : Bool} {dl : List Bool}
theorem r109 (hi : i < 100) (hnext : ∀ sg', GoodS n size s nb mB mb mE mk (i + 1) sg' → Ev (K .normal (stL (.sl nn 1 (dl.map vB)) aL nb s mB mE mk L (i + 1) sg')) Q) (hg : GoodS n size s nb mB mb mE mk (i + 1) sg) :
    Ev (law14_BlobBack.J109 (tab N dp) N K (stL (.sl nn 1 (dl.map vB)) aL nb s mB mE mk L i sg)) Q := by
  refine ev_of (law14_BlobBack.j109 ..) ?_
  rw [i64_nat (by omega)]
  exact hnext _ hg
theorem r82_err {k : Int} (hk : k ≠ 0) (hi : i < 100) (hnext : ∀ sg', GoodS n size s nb mB mb mE mk (i + 1) sg' → Ev (K .normal (stL (.sl nn 1 (dl.map vB)) aL nb s mB mE mk L (i + 1) sg')) Q) (hg : GoodS n size s nb mB mb mE mk (i + 1) sg) :
    Ev (law14_BlobBack.J82 (tab N dp) N K (st82 (.sl nn 1 (dl.map vB)) aL nb s mB mE mk bb k L i sg)) Q := by
  have fin : ∀ {j}, Ev (jnc j (law14_BlobBack.J109 (tab N dp) N K) (stL (.sl nn 1 (dl.map vB)) aL nb s mB mE mk L i sg)) Q := fun {j} => ev_jn0 (r109 hi hnext hg)
  refine ev_of (law14_BlobBack.j82 ..) (ev_O (a := dl.length) (by simp [lenV]) (ev_ite (fun hlt => ?_) (fun _ => fin)))
  have hlt : i < dl.length := by have : (i : Int) < dl.length := by simpa using hlt
                                 omega
  refine ev_elV (v := vB dl[i]) (by simp [List.getElem?_eq_getElem hlt]) rfl (ev_B rfl (ev_ite (fun _ => ?_) (fun _ => fin)))
  exact ev_else (by simpa using hk) fin
theorem r82_ok {c : Chain} (hi : i < 100) (hN : 300000 < N) (hnext : ∀ sg', GoodS n size s nb mB mb mE mk (i + 1) sg' → Ev (K .normal (stL (.sl nn 1 (dl.map vB)) aL nb s mB mE mk L (i + 1) sg')) Q)
    (hI : LI n size s pgs A (cs ++ [c]) ev aE HE (i + 1)) (hh : Has sg (A ++ ((bb, .mk [vI (nx c), vI (bodyL c).length]) :: lbH nb mB mb mE mk n (cs ++ [c]) ev aE HE))) :
    Ev (law14_BlobBack.J82 (tab N (dp + 11)) N K (st82 (.sl nn 1 (dl.map vB)) aL nb s mB mE mk bb 0 L i sg)) Q := by
  have hgood : GoodS n size s nb mB mb mE mk (i + 1) sg := ⟨pgs, A, _, ev, aE, HE, hI, hh.sub (List.Sublist.append (List.Sublist.refl _) (.cons _ (List.Sublist.refl _)))⟩
  have fin : ∀ {j}, Ev (jnc j (law14_BlobBack.J109 (tab N (dp + 11)) N K) (stL (.sl nn 1 (dl.map vB)) aL nb s mB mE mk L i sg)) Q := fun {j} => ev_jn0 (r109 hi hnext hgood)
  refine ev_of (law14_BlobBack.j82 ..) (ev_O (a := dl.length) (by simp [lenV]) (ev_ite (fun hlt => ?_) (fun _ => fin)))
  have hlt : i < dl.length := by have : (i : Int) < dl.length := by simpa using hlt
                                 omega
  refine ev_elV (v := vB dl[i]) (by simp [List.getElem?_eq_getElem hlt]) rfl (ev_B rfl (ev_ite (fun _ => ?_) (fun _ => fin)))
  refine ev_if (by decide) (ev_A rfl ?_)
  refine ev_call (do_drop2 (dp := dp) (a := cs) (b := []) hI.st hI.lv hN hh 63 (.inl rfl)) rfl ?_
  rintro _ sg2 ⟨rfl, pgs', A', hA', hL', h2⟩
  rw [List.append_nil] at hL'
  refine ev_I rfl (ev_else (by decide) ?_)
  refine ev_atA (h2.in (p := (mB, .mk [.gm mb])) (by simp [lbH])) rfl ?_
  refine ev_atG (h2.in (p := (bb, .mk [vI (nx c), vI (bodyL c).length])) (by simp)) rfl rfl (by decide) (ev_bif rfl (ev_A rfl ?_))
  refine ev_atM (h2.in (p := (mb, .map (embK kvP fB (bmL (cs ++ [c]))))) (by simp [lbH])) (ev_O (mDel_K fB kvP_is (kc c) (bmL (cs ++ [c]))) ?_)
  have hnk : kc c ∉ (bmL cs).map (·.1) := by
    rw [bm_keys]
    have := hI.lv.kcs
    rw [List.map_append, List.nodup_append] at this
    intro hm
    exact this.2.2 _ hm (kc c) (by simp) rfl
  have e1 : delK (kc c) (bmL (cs ++ [c])) = bmL cs := by
    have : bmL (cs ++ [c]) = bmL cs ++ (kc c, c) :: [] := by simp [bmL]
    rw [this, delK_at hnk, List.append_nil]
  rw [e1]
  have h3 : Has sg2 ((mb, .map (embK kvP fB (bmL (cs ++ [c])))) :: (bb, .mk [vI (nx c), vI (bodyL c).length]) :: (mB, .mk [.gm mb]) :: (A' ++ ((mE, .mk [aE]) :: (mk, .map (embK kvP vB (ev.map fun k => (k, true)))) :: (nb, .mk [vI n]) :: HE))) := h2.pm fun q => by
    simp only [lbH, List.count_cons, List.count_append]; omega
  have h4 := h3.put (n := 0) (.map (embK kvP fB (bmL cs))) rfl
  refine ev_jn0 (r109 hi hnext ⟨pgs', A', cs, ev, aE, HE, ⟨hA', hL', hI.nd, fun d hd => hI.cov d (by simp [hd]), hI.sx, hI.few⟩, ?_⟩)
  have h5 : Has (sg2.set mb (.map (embK kvP fB (bmL cs)))) ((bb, .mk [vI (nx c), vI (bodyL c).length]) :: (A' ++ lbH nb mB mb mE mk n cs ev aE HE)) := h4.pm fun q => by
    simp only [lbH, List.set_cons_zero, List.count_cons, List.count_append]; omega
  exact h5.tail
theorem lk_kn {ev : List (Nat × Nat)} {k : Nat × Nat} : lkK k (ev.map fun k => (k, true)) = if k ∈ ev then some true else none := by
  induction ev with
  | nil => rfl
  | cons x ev ih =>
    simp only [List.map_cons, lkK, ih, List.mem_cons]
    by_cases h : k = x <;> simp [h]
theorem r80_ok {c : Chain} (hi : i < 100) (hN : 300000 < N) (hnext : ∀ sg', GoodS n size s nb mB mb mE mk (i + 1) sg' → Ev (K .normal (stL (.sl nn 1 (dl.map vB)) aL nb s mB mE mk L (i + 1) sg')) Q)
    (hA : St1 s n size pgs A) (hL : Lv n pgs (cs ++ [c])) (hnd : ev.Nodup) (hcov : ∀ c, c ∈ cs → kc c ∈ ev) (hx : SxH aE 2 ev.length (evC ev) HE) (hfew : ev.length ≤ i)
    (hh : Has sg (A ++ ((xb, .mk [vS (tx (bodyL c))]) :: (bb, .mk [vI (nx c), vI (bodyL c).length]) :: lbH nb mB mb mE mk n cs ev aE HE))) :
    Ev (law14_BlobBack.J80 (tab N (dp + 11)) N K (st80 (.sl nn 1 (dl.map vB)) aL nb s mB mE mk xb bb 0 L i sg)) Q := by
  refine ev_of (law14_BlobBack.j80 ..) (ev_if (by decide) ?_)
  refine ev_atA (hh.in (p := (mB, .mk [.gm mb])) (by simp [lbH])) rfl ?_
  refine ev_atG (hh.in (p := (bb, .mk [vI (nx c), vI (bodyL c).length])) (by simp)) rfl rfl (by decide) ?_
  refine ev_atS (hh.in (p := (xb, .mk [vS (tx (bodyL c))])) (by simp)) rfl (ev_bif rfl (ev_A rfl ?_))
  refine ev_atM (hh.in (p := (mb, .map (embK kvP fB (bmL cs)))) (by simp [lbH])) (ev_O (mSet_K fB kvP_is (kc c) c (bmL cs)) ?_)
  have hnk : kc c ∉ (bmL cs).map (·.1) := by
    rw [bm_keys]
    have := hL.kcs
    rw [List.map_append, List.nodup_append] at this
    intro hm
    exact this.2.2 _ hm (kc c) (by simp) rfl
  have e1 : insK (kc c) c (bmL cs) = bmL (cs ++ [c]) := by rw [insK_new hnk]; simp [bmL]
  rw [e1]
  have h1 : Has sg ((mb, .map (embK kvP fB (bmL cs))) :: (bb, .mk [vI (nx c), vI (bodyL c).length]) :: (mB, .mk [.gm mb]) :: (mE, .mk [aE]) :: (mk, .map (embK kvP vB (ev.map fun k => (k, true)))) :: (nb, .mk [vI n]) :: (HE ++ (A ++ [(xb, .mk [vS (tx (bodyL c))])]))) := hh.pm fun q => by
    simp only [lbH, List.count_cons, List.count_append, List.count_nil]; omega
  have h2 := h1.put (n := 0) (.map (embK kvP fB (bmL (cs ++ [c])))) rfl
  rw [List.set_cons_zero] at h2
  generalize sg.set mb (.map (embK kvP fB (bmL (cs ++ [c])))) = sg1 at h2 ⊢
  refine ev_atG (h2.in (p := (bb, .mk [vI (nx c), vI (bodyL c).length])) (by simp)) rfl rfl (by decide) (ev_bif rfl (ev_A rfl ?_))
  refine ev_atM (h2.in (p := (mk, .map (embK kvP vB (ev.map fun k => (k, true))))) (by simp)) (ev_O (mGet_K vB kvP_is (kc c) _) ?_)
  rw [lk_kn]
  have fin82 : ∀ sg' ev' aE' HE', ev'.Nodup → (∀ d, d ∈ cs ++ [c] → kc d ∈ ev') → SxH aE' 2 ev'.length (evC ev') HE' → ev'.length ≤ i + 1 →
      Has sg' ((bb, .mk [vI (nx c), vI (bodyL c).length]) :: (mb, .map (embK kvP fB (bmL (cs ++ [c])))) :: (mB, .mk [.gm mb]) :: (mE, .mk [aE']) :: (mk, .map (embK kvP vB (ev'.map fun k => (k, true)))) :: (nb, .mk [vI n]) :: (HE' ++ (A ++ [(xb, .mk [vS (tx (bodyL c))])]))) →
      Ev (jnc 89 (law14_BlobBack.J89 (tab N (dp + 11)) N K) (st82 (.sl nn 1 (dl.map vB)) aL nb s mB mE mk bb 0 L i sg')) Q := by
    intro sg' ev' aE' HE' a1 a2 a3 a4 a5
    refine ev_jn (law14_BlobBack.j89 ..) (ev_jn0 <| r82_ok hi hN hnext (cs := cs) (c := c) ⟨hA, hL, a1, a2, a3, a4⟩ ?_)
    have : Has sg' ((xb, .mk [vS (tx (bodyL c))]) :: (A ++ ((bb, .mk [vI (nx c), vI (bodyL c).length]) :: lbH nb mB mb mE mk n (cs ++ [c]) ev' aE' HE'))) := a5.pm fun q => by
      simp only [lbH, List.count_cons, List.count_append, List.count_nil]; omega
    exact this.tail
  by_cases hin : kc c ∈ ev
  · rw [if_pos hin]
    refine ev_B (a := true) rfl (ev_else (by decide) ?_)
    refine fin82 _ ev aE HE hnd (fun d hd => ?_) hx (by omega) (h2.perm (List.Perm.swap ..))
    rcases List.mem_append.1 hd with hd | hd
    · exact hcov d hd
    · simp at hd; subst hd; exact hin
  · rw [if_neg hin]
    refine ev_B (a := false) rfl (ev_if rfl ?_)
    refine ev_atG (h2.in (p := (bb, .mk [vI (nx c), vI (bodyL c).length])) (by simp)) rfl rfl (by decide) ?_
    refine ev_atA (h2.in (p := (mE, .mk [aE])) (by simp)) rfl ?_
    refine ev_atG (h2.in (p := (bb, .mk [vI (nx c), vI (bodyL c).length])) (by simp)) rfl rfl (by decide) (ev_bif rfl ?_)
    have h3 := h2.new (.mk [vI (nx c), vI (bodyL c).length])
    refine ev_appX (c1 := [vI (nx c), vI (bodyL c).length]) hx (L := (mb, .map (embK kvP fB (bmL (cs ++ [c])))) :: (bb, .mk [vI (nx c), vI (bodyL c).length]) :: (mB, .mk [.gm mb]) :: (mE, .mk [aE]) :: (mk, .map (embK kvP vB (ev.map fun k => (k, true)))) :: (nb, .mk [vI n]) :: (A ++ [(xb, .mk [vS (tx (bodyL c))])]))
      (h2.pm fun q => by simp only [List.count_cons, List.count_append, List.count_nil]; omega) rfl (by decide) (by decide) (by omega) fun a' H' sg2 hx' h4 => ?_
    have e2 : evC ev ++ [vI (nx c), vI (bodyL c).length] = evC (ev ++ [kc c]) := by simp [evC, kc]
    have hx2 : SxH a' 2 (ev ++ [kc c]).length (evC (ev ++ [kc c])) H' := hx'.cast (by simp) e2
    refine ev_bif rfl (ev_A rfl ?_)
    refine ev_atM (h4.in (p := (mk, .map (embK kvP vB (ev.map fun k => (k, true))))) (by simp)) (ev_O (mSet_K vB kvP_is (kc c) true _) ?_)
    have hnk2 : kc c ∉ (ev.map fun k => (k, true)).map (·.1) := by simpa using hin
    rw [insK_new hnk2]
    have e3 : (ev.map fun k => (k, true)) ++ [(kc c, true)] = (ev ++ [kc c]).map fun k => (k, true) := by simp
    rw [e3]
    refine ev_A hx'.plain ?_
    have h5 : Has sg2 ((mk, .map (embK kvP vB (ev.map fun k => (k, true)))) :: (mE, .mk [aE]) :: (bb, .mk [vI (nx c), vI (bodyL c).length]) :: (mb, .map (embK kvP fB (bmL (cs ++ [c])))) :: (mB, .mk [.gm mb]) :: (nb, .mk [vI n]) :: (H' ++ (A ++ [(xb, .mk [vS (tx (bodyL c))])]))) := h4.pm fun q => by
      simp only [List.count_cons, List.count_append, List.count_nil]; omega
    have h6 := h5.put (n := 0) (.map (embK kvP vB ((ev ++ [kc c]).map fun k => (k, true)))) rfl
    refine ev_st h6 1 rfl (by rw [hx'.one]; rfl) (by show 1 ≤ 1; omega) (by show 0 < 1; omega) fun sg3 h7 => ?_
    refine ev_atA (h3.in (p := (mE, .mk [aE])) (by simp)) rfl (ev_bif (same92 hx) ?_)
    refine ev_atA (h2.in (p := (mE, .mk [aE])) (by simp)) rfl (ev_bif (same92 hx) ?_)
    refine ev_atG (h4.in (p := (bb, .mk [vI (nx c), vI (bodyL c).length])) (by simp)) rfl rfl (by decide) (ev_bif (same91 _ _) ?_)
    refine ev_atG (h3.in (p := (bb, .mk [vI (nx c), vI (bodyL c).length])) (by simp)) rfl rfl (by decide) (ev_bif (same91 _ _) ?_)
    refine ev_atG (h2.in (p := (bb, .mk [vI (nx c), vI (bodyL c).length])) (by simp)) rfl rfl (by decide) (ev_bif (same91 _ _) ?_)
    rw [hx'.one] at h7
    have h8 : Has sg3 ((mk, .map (embK kvP vB ((ev ++ [kc c]).map fun k => (k, true)))) :: (mE, .mk [a']) :: (bb, .mk [vI (nx c), vI (bodyL c).length]) :: (mb, .map (embK kvP fB (bmL (cs ++ [c])))) :: (mB, .mk [.gm mb]) :: (nb, .mk [vI n]) :: (H' ++ (A ++ [(xb, .mk [vS (tx (bodyL c))])]))) := h7
    refine fin82 _ (ev ++ [kc c]) a' H' ?_ (fun d hd => ?_) hx2 (by simp; omega) (h8.pm fun q => by simp only [List.count_cons, List.count_append, List.count_nil]; omega)
    · rw [List.nodup_append]
      refine ⟨hnd, by simp, ?_⟩
      rintro a ha b hb rfl
      simp at hb; subst hb
      exact hin ha
    · rcases List.mem_append.1 hd with hd | hd
      · exact List.mem_append.2 (.inl (hcov d hd))
      · simp at hd; subst hd; simp
theorem r80_err {k : Int} (hk : k ≠ 0) (hi : i < 100) (hnext : ∀ sg', GoodS n size s nb mB mb mE mk (i + 1) sg' → Ev (K .normal (stL (.sl nn 1 (dl.map vB)) aL nb s mB mE mk L (i + 1) sg')) Q) (hg : GoodS n size s nb mB mb mE mk (i + 1) sg) :
    Ev (law14_BlobBack.J80 (tab N dp) N K (st80 (.sl nn 1 (dl.map vB)) aL nb s mB mE mk xb bb k L i sg)) Q := by
  refine ev_of (law14_BlobBack.j80 ..) (ev_else (by simpa using hk) (ev_jn0 (r82_err hk hi hnext hg)))
end
end Go.Abs
namespace Go.Abs
open Go
set_option linter.unusedVariables false
set_option maxRecDepth 100000
variable {N dp : Nat} {sg : Sg} {n size s nb mB mb mE mk L i bb xb h m k : Nat} {R A : Hp} {Q : Out → Prop} {K : Ex → St → Option Out} {pgs : List ByteArray} {cs : List Chain} {ev : List (Nat × Nat)} {aE aL aD : AVal} {HE : Hp} {nn nn' : Bool} {dl : List Bool} {l : List Int}
theorem GoodS.mono {j : Nat} (hg : GoodS n size s nb mB mb mE mk i sg) (hj : i ≤ j) : GoodS n size s nb mB mb mE mk j sg := by
  obtain ⟨pgs, A, cs, ev, aE, HE, h1, h2⟩ := hg
  exact ⟨pgs, A, cs, ev, aE, HE, ⟨h1.st, h1.lv, h1.nd, h1.cov, h1.sx, Nat.le_trans h1.few hj⟩, h2⟩
theorem r0_ok (hl : l.length ≤ 20) (hN : 300000 < N) (hi : i ≤ l.length) (hg : GoodS n size s nb mB mb mE mk i sg)
    (hnext : ∀ sg', i < l.length → GoodS n size s nb mB mb mE mk (i + 1) sg' → Ev (K .normal (stL (.sl nn 1 (dl.map vB)) (.sl nn' 1 (l.map vI)) nb s mB mE mk l.length (i + 1) sg')) Q)
    (hexit : i = l.length → Ev (K (.exit 0) (mkS [4, 9, 12, 13] [.v (.gp nb 0) false, .v (.gp s 0) false, .v (.gp mB 0) false, .v (.gp mE 0) false] [none, none, none, none] (.sg sg))) Q) :
    Ev (law14_BlobBack.R0 (tab N (dp + 11)) N (stL (.sl nn 1 (dl.map vB)) (.sl nn' 1 (l.map vI)) nb s mB mE mk l.length i sg) K) Q := by
  refine ev_of (law14_BlobBack.r0 ..) (ev_ite (fun hlt => ?_) (fun hge => hexit ?_))
  rotate_left
  · have : ¬ (i : Int) < l.length := by simpa using hge
    omega
  have hlt : i < l.length := by have : (i : Int) < l.length := by simpa using hlt
                                omega
  refine ev_elV (v := vI l[i]) (by simp [List.getElem?_eq_getElem hlt]) rfl (ev_I rfl ?_)
  have skip : Ev (K .normal (stL (.sl nn 1 (dl.map vB)) (.sl nn' 1 (l.map vI)) nb s mB mE mk l.length (i + 1) sg)) Q := hnext _ hlt (hg.mono (by omega))
  rw [i64_nat (by omega)]
  refine ev_ite (fun h1 => ev_ite (fun _ => skip) (fun h2 => ?_)) (fun _ => skip)
  have h1 : 1 ≤ l[i] := by simpa using h1
  have h2 : l[i] ≤ 4096 := by simpa using h2
  obtain ⟨x, hx⟩ := Int.eq_ofNat_of_zero_le (show 0 ≤ l[i] by omega)
  rw [hx]
  have hx1 : 1 ≤ x := by omega
  have hx2 : x ≤ 4096 := by omega
  clear skip
  obtain ⟨pgs, A, cs, ev, aE, HE, hI, hh⟩ := hg
  refine ev_jn (law14_BlobBack.j59 ..) (ev_bif rfl ?_)
  have g1 := hh.new (.mk [v8 (IntKind.u8.wrap (i : Int)), v8 (IntKind.u8.wrap ((x : Nat) : Int)), v8 7])
  refine ev_O (flatG_gs (g1.at (n := 0) rfl) (Nat.le_of_ble_eq_true rfl) (Nat.succ_pos _)) ?_
  refine ev_O (a := [UInt8.ofNat (IntKind.u8.wrap (i : Int)).toNat, UInt8.ofNat (IntKind.u8.wrap ((x : Nat) : Int)).toNat, UInt8.ofNat (7 : Int).toNat]) rfl ?_
  generalize hbs : [UInt8.ofNat (IntKind.u8.wrap (i : Int)).toNat, UInt8.ofNat (IntKind.u8.wrap ((x : Nat) : Int)).toNat, UInt8.ofNat (7 : Int).toNat] = bs
  refine ev_call (btext_ok (N := N) (dp := dp + 10) (s := bs) (n := x) (by rw [← hbs]; simp) hx1 (by omega) (by omega)) rfl ?_
  rintro _ _ rfl
  refine ev_S rfl ?_
  have hts : (textL bs x).length = x := textL_len bs x
  generalize textL bs x = t at hts ⊢
  have g2 := g1.new (.mk [vS ⟨#[]⟩])
  refine ev_st g2 0 rfl rfl (by show 1 ≤ 1; omega) (by show 0 < 1; omega) fun sg2 g3 => ev_A rfl ?_
  have g4 := g3.new (.mk [vI 0, vI 0])
  generalize sg2.length = bb at g4 ⊢
  generalize (sg ++ [Box.mk [v8 (IntKind.u8.wrap (i : Int)), v8 (IntKind.u8.wrap ((x : Nat) : Int)), v8 7]]).length = xb at g4 ⊢
  have g5 : Has (sg2 ++ [Box.mk [vI 0, vI 0]]) (A ++ ((xb, .mk [vS (tx t)]) :: (bb, .mk [vI 0, vI 0]) :: ((sg.length, .mk [v8 (IntKind.u8.wrap (i : Int)), v8 (IntKind.u8.wrap ((x : Nat) : Int)), v8 7]) :: lbH nb mB mb mE mk n cs ev aE HE))) := by
    have g4' : Has (sg2 ++ [Box.mk [vI 0, vI 0]]) ((bb, .mk [vI 0, vI 0]) :: (xb, .mk [vS (tx t)]) :: (sg.length, .mk [v8 (IntKind.u8.wrap (i : Int)), v8 (IntKind.u8.wrap ((x : Nat) : Int)), v8 7]) :: (A ++ lbH nb mB mb mE mk n cs ev aE HE)) := g4
    exact g4'.pm fun q => by simp only [List.count_cons, List.count_append]; omega
  refine ev_call (do_put (dp := dp + 1) hI.st hI.lv (by omega) hN g5) rfl ?_
  have hi' : i < 100 := by omega
  rintro _ sg3 (⟨k, hk, rfl, g6⟩ | ⟨rfl, pgs', A', c, hA', hL', rfl, g6⟩)
  · have hgood : GoodS n size s nb mB mb mE mk (i + 1) sg3 := ⟨pgs, A, cs, ev, aE, HE, ⟨hI.st, hI.lv, hI.nd, hI.cov, hI.sx, by have := hI.few; omega⟩, g6.sub (List.Sublist.append (List.Sublist.refl _) (.cons _ (List.Sublist.refl _)))⟩
    have hk0 : k ≠ 0 := by rcases hk with rfl | rfl <;> decide
    have fin : ∀ {j}, Ev (jnc j (law14_BlobBack.J80 (tab N (dp + 11)) N K) (st80 (.sl nn 1 (dl.map vB)) (.sl nn' 1 (l.map vI)) nb s mB mE mk xb bb k l.length i sg3)) Q := fun {j} => ev_jn0 (r80_err hk0 hi' (fun sg' h => hnext sg' hlt h) hgood)
    refine ev_I rfl (ev_if (by simpa using hk0) (ev_ite (fun h13 => ev_else ?_ fin) (fun _ => fin)))
    rcases hk with rfl | rfl
    · exact absurd h13 (by decide)
    · decide
  · refine ev_I rfl (ev_else (by decide) (ev_jn0 ?_))
    have g7 : Has sg3 ((sg.length, .mk [v8 (IntKind.u8.wrap (i : Int)), v8 (IntKind.u8.wrap ((x : Nat) : Int)), v8 7]) :: (A' ++ ((xb, .mk [vS (tx (bodyL c))]) :: (bb, .mk [vI (nx c), vI (bodyL c).length]) :: lbH nb mB mb mE mk n cs ev aE HE))) := g6.pm fun q => by
      simp only [List.count_cons, List.count_append]; omega
    exact r80_ok hi' hN (fun sg' h => hnext sg' hlt h) hA' hL' hI.nd hI.cov hI.sx (by have := hI.few; omega) g7.tail
theorem filter_one {c : Chain} {a b : List Chain} (hn : ((a ++ c :: b).map kc).Nodup) : (a ++ c :: b).filter (fun d => decide (kc d ≠ kc c)) = a ++ b := by
  rw [List.map_append, List.map_cons, List.nodup_append, List.nodup_cons] at hn
  obtain ⟨_, ⟨h2, _⟩, h3⟩ := hn
  rw [List.filter_append, List.filter_cons]
  simp only [ne_eq, not_true_eq_false, decide_false, Bool.false_eq_true, if_false]
  rw [List.filter_eq_self.2, List.filter_eq_self.2]
  · intro d hd
    simp only [decide_eq_true_eq]
    intro e
    exact h2 (e ▸ List.mem_map.2 ⟨d, hd, rfl⟩)
  · intro d hd
    simp only [decide_eq_true_eq]
    intro e
    exact h3 _ (List.mem_map.2 ⟨d, hd, rfl⟩) (kc c) (by simp) e
theorem free_cl {fb : Nat} (hA : St1 s n size pgs A) (hL : Lv n pgs []) (hN : 5000 < N) (hx : Has sg (HH h m s [] A ((fb, .mk [vI 0]) :: R))) :
    Ev (tab N (dp + 9) 70 [.gp h 0, .gp fb 0] sg) (Rt fun _ sg2 => Has sg2 (HH h m s [] A ((fb, .mk [vI ((n : Int) - 2)]) :: R))) := by
  obtain ⟨f1, f2, f3, f4⟩ := hA.facts
  have hO : OvOk n [] := ⟨by simp, by simp⟩
  refine ev_of ((t70 ..).trans (law14_BlobBack_5.main ..)) ?_
  refine ev_call (hfree_ok (dp := dp + 4) hA hO hx hN) rfl ?_
  rintro _ sg ⟨rfl, rfl⟩
  have e := hL.many f3
  have e0 : cnt (cur [] pgs 1) (n - 2) 2 = 0 := by rw [e]; simp [flat]
  rw [e0]
  have h1 : Has sg ((fb, .mk [vI 0]) :: HH h m s [] A R) := hx.pm fun q => by simp only [List.count_cons, List.count_append]; omega
  refine ev_I rfl (ev_st h1 0 rfl rfl (by show 1 ≤ 1; omega) (by show 0 < 1; omega) fun sg2 h2 => ev_ret ?_)
  have e2 : ((n : Int) - 2 - ((0 : Nat) : Int)) = (n : Int) - 2 := by omega
  rw [e2] at h2
  have h3 : Has sg2 ((fb, .mk [vI ((n : Int) - 2)]) :: HH h m s [] A R) := h2
  exact h3.pm fun q => by simp only [List.count_cons, List.count_append]; omega
theorem last_ok (hQ : ∀ sg', Q (.ret (vB true) sg')) (hA : St1 s n size pgs A) (hL : Lv n pgs []) (hN : 300000 < N) (hnb : (nb, .mk [vI n]) ∈ R) (hh : Has sg (A ++ R)) :
    Ev (law14_BlobBack.K1 (tab N (dp + 11)) N (.exit 2) (mkS [4, 9] [.v (.gp nb 0) false, .v (.gp s 0) false] [none, none] (.sg sg))) Q := by
  obtain ⟨f1, f2, f3, f4⟩ := hA.facts
  refine ev_of (law14_BlobBack.k1_2 ..) ?_
  have h1 := hh.new (.mk [vI 0])
  generalize sg.length = fb at h1 ⊢
  refine ev_st h1 0 rfl rfl (by show 1 ≤ 1; omega) (by show 0 < 1; omega) fun sg2 h2 => ev_A rfl ?_
  have h3 : Has sg2 (A ++ ((fb, .mk [vI 0]) :: R)) := by
    have h2' : Has sg2 ((fb, .mk [vI 0]) :: (A ++ R)) := h2
    exact h2'.rot
  refine ev_call (view_any (dp := dp) (f := 70) (first := []) (cap := [.gp fb 0]) (P := fun R2 => R2 = (fb, .mk [vI ((n : Int) - 2)]) :: R) (P' := fun _ _ => False) h3 rfl (fun h m sg' hx => ?_)) rfl ?_
  · refine (Ev.rp (ψ := fun _ _ => False) (free_cl (dp := dp) hA hL (by omega) hx)).imp fun o => ?_
    cases o with
    | ret v sg2 => exact fun h2 => ⟨[], _, rfl, h2⟩
    | pan v sg2 => exact fun h => h.elim
  rintro _ sg3 (⟨rfl, R2, rfl, h4⟩ | ⟨_, _, _, hf, _⟩)
  rotate_left
  · exact hf.elim
  refine ev_I rfl (ev_if (by decide) ?_)
  refine ev_atI (h4.in (p := (fb, .mk [vI ((n : Int) - 2)])) (by simp)) rfl ?_
  refine ev_atI (h4.in (p := (nb, .mk [vI n])) (by simp [hnb])) rfl ?_
  have e : (((n : Int) - 2) == IntKind.i64.wrap ((n : Int) - 2)) = true := by
    rw [i64_in (by omega)]
    exact beq_self_eq_true _
  rw [e]
  exact ev_out (hQ _)
theorem tail_ok2 (hQ : ∀ sg', Q (.ret (vB true) sg')) (hN : 300000 < N) (hI : LI n size s pgs A cs ev aE HE 20) (hh : Has sg (A ++ lbH nb mB mb mE mk n cs ev aE HE)) :
    Ev (law14_BlobBack.J126 (tab N (dp + 11)) N (mkS [4, 9, 12, 13] [.v (.gp nb 0) false, .v (.gp s 0) false, .v (.gp mB 0) false, .v (.gp mE 0) false] [none, none, none, none] (.sg sg))) Q := by
  refine ev_of (law14_BlobBack.j126 ..) ?_
  refine ev_atA (hh.in (p := (mE, .mk [aE])) (by simp [lbH])) rfl (ev_O hI.sx.len ?_)
  have hfew := hI.few
  have hkn := hI.lv.kcs
  refine ev_loop ev.length (fun i st => ∃ sg' pgs' A' R', st = mkS [4, 9, 12, 127, 128, 129] [.v (.gp nb 0) false, .v (.gp s 0) false, .v (.gp mB 0) false, .v aE false, .v (vI ev.length) false, .v (vI i) false] [none, none, none, none, none, none] (.sg sg') ∧
      St1 s n size pgs' A' ∧ Lv n pgs' (cs.filter fun c => decide (kc c ∉ ev.take i)) ∧ Has sg' (A' ++ (lbH nb mB mb mE mk n cs ev aE HE ++ R'))) (by omega)
    ⟨sg, pgs, A, [], rfl, hI.st, by rw [List.filter_eq_self.2 (by simp)]; exact hI.lv, by simpa using hh⟩ ?_
  rintro i st K hi ⟨sg1, pgs1, A1, R1, rfl, hA1, hL1, h1⟩ hnext hexit hret
  refine ev_of (law14_BlobBack.r1 ..) (ev_ite (fun hlt => ?_) (fun hge => ?_))
  · have hlt : i < ev.length := by have : (i : Int) < ev.length := by simpa using hlt
                                   omega
    obtain ⟨k, hk⟩ : ∃ k, ev[i]? = some k := ⟨_, List.getElem?_eq_getElem hlt⟩
    refine ev_elXG hI.sx h1 (fun q hq => by simp [lbH, hq]) hlt (evC_at hk) ?_
    have h2 := h1.new (.mk [vI 0, vI 0])
    generalize sg1.length = bb at h2 ⊢
    refine ev_st h2 0 rfl rfl (by show 2 ≤ 2; omega) (by show 0 < 2; omega) fun sg2 h3 => ?_
    have h3 : Has sg2 ((bb, .mk [vI k.1, vI k.2]) :: (A1 ++ (lbH nb mB mb mE mk n cs ev aE HE ++ R1))) := h3
    refine ev_atA (h3.in (p := (mB, .mk [.gm mb])) (by simp [lbH])) rfl ?_
    refine ev_ldG h3 0 rfl rfl rfl (by decide) (ev_bif rfl (ev_A rfl ?_))
    refine ev_atM (h3.in (p := (mb, .map (embK kvP fB (bmL cs)))) (by simp [lbH])) (ev_O (mGet_K fB kvP_is k (bmL cs)) ?_)
    have hki : k ∉ ev.take i := by
      intro hm
      obtain ⟨j, hj⟩ := List.getElem?_of_mem hm
      rw [List.getElem?_take] at hj
      split at hj
      · rename_i hji
        have := (List.getElem?_inj (by omega) hI.nd).1 (hj.trans hk.symm)
        omega
      · cases hj
    have hft : (cs.filter fun c => decide (kc c ∉ ev.take (i + 1))) = (cs.filter fun c => decide (kc c ∉ ev.take i)).filter fun c => decide (kc c ≠ k) := by
      rw [List.filter_filter]
      congr 1
      funext c
      rw [List.take_add_one, hk]
      simp [Bool.and_comm, and_comm]
    rw [i64_nat (by omega)]
    cases hlk : lkK k (bmL cs) with
    | none =>
      refine ev_if rfl (hnext _ hlt ⟨sg2, pgs1, A1, (bb, .mk [vI k.1, vI k.2]) :: R1, rfl, hA1, ?_, h3.pm fun q => by simp only [List.count_cons, List.count_append]; omega⟩)
      rw [hft, List.filter_eq_self.2]
      · exact hL1
      · intro c hc
        simp only [decide_eq_true_eq]
        intro e
        have := (lk_bm hkn).2 ⟨(List.mem_filter.1 hc).1, e⟩
        rw [hlk] at this; cases this
    | some c =>
      obtain ⟨hcm, rfl⟩ := (lk_bm hkn).1 hlk
      have hcf : c ∈ cs.filter fun c => decide (kc c ∉ ev.take i) := List.mem_filter.2 ⟨hcm, by simpa using hki⟩
      obtain ⟨a, b, hab⟩ := List.append_of_mem hcf
      refine ev_else (by simp [hasV]) (ev_A rfl ?_)
      rw [hab] at hL1
      have h4 : Has sg2 (A1 ++ ((bb, .mk [vI (nx c), vI (bodyL c).length]) :: (lbH nb mB mb mE mk n cs ev aE HE ++ R1))) := h3.rot
      refine ev_call (do_drop2 (dp := dp) hA1 hL1 hN h4 69 (.inr rfl)) rfl ?_
      rintro _ sg3 ⟨rfl, pgs2, A2, hA2, hL2, h5⟩
      refine ev_I rfl (ev_else (by decide) (hnext _ hlt ⟨sg3, pgs2, A2, (bb, .mk [vI (nx c), vI (bodyL c).length]) :: R1, rfl, hA2, ?_, h5.pm fun q => by simp only [List.count_cons, List.count_append]; omega⟩))
      rw [hft, hab, filter_one]
      · exact hL2
      · rw [← hab]
        exact (List.filter_sublist.map kc).nodup hkn
  · have hie : i = ev.length := by have : ¬ (i : Int) < ev.length := by simpa using hge
                                   omega
    subst hie
    refine hexit _ _ ?_
    have hnil : (cs.filter fun c => decide (kc c ∉ ev.take ev.length)) = [] := by
      rw [List.take_length, List.filter_eq_nil_iff]
      intro c hc
      have := hI.cov c hc
      simpa using this
    rw [hnil] at hL1
    exact last_ok hQ hA1 hL1 hN (by simp [lbH]) h1
theorem mid_ok (hQ : ∀ sg', Q (.ret (vB true) sg')) (hN : 300000 < N) (hI : LI n size s pgs A cs ev aE HE 20) (hh : Has sg (A ++ lbH nb mB mb mE mk n cs ev aE HE)) :
    Ev (law14_BlobBack.K0 (tab N (dp + 11)) N (.exit 0) (mkS [4, 9, 12, 13] [.v (.gp nb 0) false, .v (.gp s 0) false, .v (.gp mB 0) false, .v (.gp mE 0) false] [none, none, none, none] (.sg sg))) Q := by
  have hfew := hI.few
  refine ev_of (law14_BlobBack.k0_1 ..) ?_
  have h1 := ((hh.new (.map [])).new (.mk [.at (Value.map none)])).new (.mk [vB false])
  generalize (sg ++ [Box.map []] ++ [Box.mk [.at (Value.map none)]]).length = m3 at h1 ⊢
  generalize (sg ++ [Box.map []]).length = m4 at h1 ⊢
  generalize sg.length = mt at h1 ⊢
  refine ev_st h1 1 rfl rfl (by show 1 ≤ 1; omega) (by show 0 < 1; omega) fun sg2 h2 => ?_
  refine ev_st h2 0 rfl rfl (by show 1 ≤ 1; omega) (by show 0 < 1; omega) fun sg3 h3 => ev_A rfl ?_
  have h3 : Has sg3 ((m3, .mk [vB true]) :: (m4, .mk [.gm mt]) :: (mt, .map []) :: (A ++ lbH nb mB mb mE mk n cs ev aE HE)) := h3
  have h4 : Has sg3 (A ++ ((m3, .mk [vB true]) :: (mt, .map []) :: (m4, .mk [.gm mt]) :: lbH nb mB mb mE mk n cs ev aE HE)) := h3.pm fun q => by
    simp only [List.count_cons, List.count_append]; omega
  refine ev_call (view_any (dp := dp) (f := 66) (first := []) (cap := [.gp mE 0, .gp mB 0, .gp m3 0, .gp m4 0, .gp nb 0])
    (P := fun R2 => ∃ l, R2 = (m3, .mk [vB true]) :: (mt, .map l) :: (m4, .mk [.gm mt]) :: lbH nb mB mb mE mk n cs ev aE HE) (P' := fun _ _ => False) h4 rfl (fun h m sg' hx => ?_)) rfl ?_
  · have hx2 : Has sg' ((m3, .mk [vB true]) :: (mt, .map []) :: HH h m s [] A ((m4, .mk [.gm mt]) :: lbH nb mB mb mE mk n cs ev aE HE)) := hx.pm fun q => by
      simp only [List.count_cons, List.count_append]; omega
    refine (Ev.rp (ψ := fun _ _ => False) (look_ok (dp := dp) (m1 := mE) (m2 := mB) (m3 := m3) (m4 := m4) (m5 := nb) (mb := mb) (mt := mt) (R := (m4, .mk [.gm mt]) :: lbH nb mB mb mE mk n cs ev aE HE) hI.st hI.lv hI.nd hI.cov hI.sx (by omega) (fun q hq => by simp [lbH, hq]) (by simp [lbH]) (by simp [lbH]) (by simp) (by simp [lbH]) (by simp [lbH]) hx2 (by omega))).imp fun o => ?_
    cases o with
    | ret v sg2 =>
      rintro ⟨l, h5⟩
      exact ⟨[], _, ⟨l, rfl⟩, h5.pm fun q => by simp only [List.count_cons, List.count_append]; omega⟩
    | pan v sg2 => exact fun h => h.elim
  rintro _ sg4 (⟨rfl, R2, ⟨l, rfl⟩, h5⟩ | ⟨_, _, _, hf, _⟩)
  rotate_left
  · exact hf.elim
  refine ev_I rfl (ev_if (by decide) ?_)
  refine ev_atB (h5.in (p := (m3, .mk [vB true])) (by simp)) rfl (ev_else (by decide) (ev_jn0 (tail_ok2 (mb := mb) (mk := mk) hQ hN hI ?_)))
  exact h5.sub (List.Sublist.append (List.Sublist.refl _) (.cons _ (.cons _ (.cons _ (List.Sublist.refl _)))))
theorem back_ok {a b : Int} (hlives : Ev (tab N (dp + 11) 49 [] []) (Rt fun v _ => v = vB true)) (hN : 300000 < N) :
    Ev (tab N (dp + 12) 7 [vI a, vI b, .sl nn' 1 (l.map vI), .sl nn 1 (dl.map vB)] []) (Rt fun v _ => v = vB true) := by
  refine ev_gen fun Q hQ => ?_
  have hQ' : ∀ sg', Q (.ret (vB true) sg') := fun sg' => hQ (.ret _ _) rfl
  refine ev_of ((t7 ..).trans (law14_BlobBack.main ..)) ?_
  refine ev_call hlives rfl ?_
  rintro _ _ rfl
  refine ev_B rfl (ev_else (by decide) ?_)
  have h0 := (has_nil []).new (.mk [vI a])
  refine ev_ldI h0 0 rfl rfl ?_
  refine ev_call (made_ok (dp := dp + 4) (a := a) (b := b) h0 (by omega)) rfl ?_
  rintro _ sg1 (⟨_, rfl⟩ | ⟨s, d, n, size, A, rfl, rfl, rfl, hA, hns, h1⟩)
  · exact ev_T (ev_bif rfl (ev_A rfl (ev_A rfl (ev_B rfl (ev_else (by decide) (ev_out (hQ' _)))))))
  refine ev_T (ev_bif rfl (ev_A rfl (ev_A rfl (ev_B rfl (ev_if (by decide) (ev_O (a := l.length) (by simp [lenV]) ?_))))))
  refine ev_ite (fun _ => ev_out (hQ' _)) (fun hfew => ?_)
  have hfew : l.length ≤ 20 := by
    have : ¬ (20 : Int) < l.length := by simpa using hfew
    omega
  obtain ⟨f1, f2, f3, f4⟩ := hA.facts
  refine ev_jn (law14_BlobBack.j44 ..) ?_
  have h2 := (h1.new (.map [])).new (.mk [.at (Value.map none)])
  generalize (sg1 ++ [Box.map []]).length = mB at h2 ⊢
  generalize sg1.length = mb at h2 ⊢
  refine ev_st h2 0 rfl rfl (by show 1 ≤ 1; omega) (by show 0 < 1; omega) fun sg2 h3 => ev_O (a := l.length) (by simp [lenV]) ?_
  have h4 := (h3.new (.mk [.sl true 2 []])).new (.map [])
  generalize (sg2 ++ [Box.mk [.sl true 2 []]]).length = mk at h4 ⊢
  generalize sg2.length = mE at h4 ⊢
  have h5 : Has (sg2 ++ [Box.mk [.sl true 2 []]] ++ [Box.map []]) ((mk, .map []) :: (mE, .mk [.sl true 2 []]) :: (mB, .mk [.gm mb]) :: (mb, .map []) :: (A ++ [(([] : Sg).length, .mk [vI ((n : Nat) : Int)])])) := h4
  refine ev_loop l.length (fun i st => ∃ sg', st = stL (.sl nn 1 (dl.map vB)) (.sl nn' 1 (l.map vI)) ([] : Sg).length s mB mE mk l.length i sg' ∧ GoodS n size s ([] : Sg).length mB mb mE mk i sg') (by omega)
    ⟨_, rfl, _, A, [], [], .sl true 2 [], [], ⟨hA, Lv.new f3, by simp, by simp, SxH.nil 2, by simp⟩, h5.pm fun q => by simp only [lbH, bmL, embK, List.map_nil, List.count_cons, List.count_append, List.count_nil]; omega⟩ ?_
  rintro i st K hi ⟨sg3, rfl, hg⟩ hnext hexit hret
  refine r0_ok hfew hN hi hg (fun sg' hlt h => hnext _ hlt ⟨sg', rfl, h⟩) fun hie => hexit _ _ ?_
  obtain ⟨pgs, A', cs, ev, aE, HE, hI, hh⟩ := hg.mono (show i ≤ 20 by omega)
  exact mid_ok hQ' hN hI hh
end Go.Abs
namespace Go.Abs
open Go
set_option linter.unusedVariables false
set_option maxRecDepth 100000
variable {N dp : Nat} {sg : Sg} {n size s h m : Nat} {R A : Hp} {pgs : List ByteArray}
theorem cnt_zero {t : ByteArray} {n i : Nat} (h : ∀ y : Nat, i ≤ y → y < i + n → usedS t (y : Int) = false) : cnt t n i = 0 := by
  rw [← usedL_len]
  cases e : usedL t n i with
  | nil => rfl
  | cons x l =>
    exfalso
    have hx : x ∈ usedL t n i := by rw [e]; simp
    obtain ⟨h1, h2⟩ := usedL_mem.1 hx
    obtain ⟨y, rfl⟩ := Int.eq_ofNat_of_zero_le (show 0 ≤ x by omega)
    rw [h y (by omega) (by omega)] at h2
    cases h2
theorem three_ps {ps : List Nat} {t : ByteArray} (hl : ps.length = 3) (h2 : ∀ x, x ∈ ps → 2 ≤ x) (hz : ∀ y : Nat, usedS t (y : Int) = false) (hlow : ∀ x, x ∈ ps → ∀ y : Nat, 2 ≤ y → y < x → usedS t (y : Int) = true ∨ y ∈ ps) (hasc : ps.Pairwise (· < ·)) : ps = [2, 3, 4] := by
  match ps, hl with
  | [a, b, c], _ =>
    simp only [List.pairwise_cons, List.mem_cons, List.not_mem_nil, or_false, forall_eq_or_imp, forall_eq] at hasc
    obtain ⟨⟨h3, h4⟩, h5, _⟩ := hasc
    have low : ∀ x, x ∈ [a, b, c] → ∀ y : Nat, 2 ≤ y → y < x → y = a ∨ y = b ∨ y = c := fun x hx y q1 q2 => by
      rcases hlow x hx y q1 q2 with q3 | q3
      · rw [hz y] at q3; cases q3
      · simpa using q3
    have ha := h2 a (by simp)
    have h6 : a = 2 := by
      rcases Nat.eq_or_lt_of_le ha with e | e
      · exact e.symm
      · have := low a (by simp) 2 (by omega) e; omega
    subst h6
    have h7 : b = 3 := by
      rcases Nat.eq_or_lt_of_le (show 3 ≤ b by omega) with e | e
      · exact e.symm
      · have := low b (by simp) 3 (by omega) e; omega
    subst h7
    have h8 : c = 4 := by
      rcases Nat.eq_or_lt_of_le (show 4 ≤ c by omega) with e | e
      · exact e.symm
      · have := low c (by simp) 4 (by omega) e; omega
    subst h8
    rfl
def ex0 (tl : List UInt8) : Chain := [2, 3, 4].zip (cutF tl.length tl)
theorem cl1_ok {tl : List UInt8} {zb bb xb : Nat} (htl : tl = textL [97, 98] 1000) (hA : St1 s 12 size pgs A) (hz : ∀ y : Nat, usedS (cur [] pgs 1) y = false) (hN : 300000 < N)
    (hx : Has sg (HH h m s [] A ((zb, .mk [vI 0, vI 0]) :: (bb, .mk [vI 0, vI 0]) :: (xb, .mk [vS ⟨#[]⟩]) :: R))) :
    Ev (tab N (dp + 8) 152 [.gp h 0, .gp zb 0, .gp bb 0, .gp xb 0] sg) (Rt fun _ sg2 => ∃ o2, Tkn 12 pgs [] o2 [2, 3, 4] ∧ Chn (cur o2 pgs) (ex0 tl) ∧
      Has sg2 (HH h m s o2 A ((zb, .mk [vI 0, vI 0]) :: (bb, .mk [vI 2, vI 1000]) :: (xb, .mk [vS (tx tl)]) :: R))) := by
  have hO : OvOk 12 [] := ⟨by simp, by simp⟩
  have htll : tl.length = 1000 := by rw [htl, textL_len]
  refine ev_gen fun Q hQ => ?_
  refine ev_of ((t152 ..).trans (law14_lives_1.main ..)) ?_
  refine ev_callP (put_body (dp := dp) (l := []) hA hO hx (by decide) (by omega)) rfl ?_ ?_
  rotate_left
  · rintro _ _ ⟨⟨_, qs, hq, _⟩, _⟩
    exact absurd hq (Nat.not_lt_zero _)
  rintro _ sg1 ⟨o1, ps, hT1, hl1, _, rfl, h1⟩
  have hl1 : ps.length = 0 := hl1
  obtain rfl : ps = [] := List.eq_nil_of_length_eq_zero hl1
  have h1' : Has sg1 ((zb, .mk [vI 0, vI 0]) :: HH h m s o1 A ((bb, .mk [vI 0, vI 0]) :: (xb, .mk [vS ⟨#[]⟩]) :: R)) := h1.pm fun q => by simp only [List.count_cons, List.count_append]; omega
  refine ev_G (ev_st h1' 0 rfl rfl (by show 2 ≤ 2; omega) (by show 0 < 2; omega) fun sg2 h2 => ?_)
  have h2 : Has sg2 ((zb, .mk [vI 0, vI 0]) :: HH h m s o1 A ((bb, .mk [vI 0, vI 0]) :: (xb, .mk [vS ⟨#[]⟩]) :: R)) := h2
  refine ev_call (btext_ok (N := N) (dp := dp + 6) (s := [97, 98]) (n := 1000) (by decide) (by decide) (by decide) (by omega)) rfl ?_
  rintro _ _ rfl
  rw [← htl]
  refine ev_S rfl ?_
  have h3 : Has sg2 (HH h m s o1 A ((zb, .mk [vI 0, vI 0]) :: (bb, .mk [vI 0, vI 0]) :: (xb, .mk [vS ⟨#[]⟩]) :: R)) := h2.pm fun q => by simp only [List.count_cons, List.count_append]; omega
  have hz1 : ∀ y : Nat, usedS (cur o1 pgs 1) y = false := fun y => by rw [hT1.bit, hz]; simp
  have hcl : (cutF tl.length tl).length = 3 := by rw [cutF_len _ _ (Nat.le_refl _), htll]
  refine ev_callP (put_body (dp := dp) (l := tl) hA hT1.ok h3 (by omega) (by omega)) rfl ?_ ?_
  rotate_left
  · rintro _ _ ⟨⟨_, qs, hq, hnd, hall⟩, _⟩
    exfalso
    have : (List.range' 2 10).length ≤ qs.length := (List.nodup_range' ..).length_le_of_subset fun y hy => by
      have hy2 := List.mem_range'_1.1 hy
      rcases hall y hy2.1 (by omega) with h5 | h5
      · rw [hz1] at h5; cases h5
      · exact h5
    simp at this
    omega
  rintro _ sg3 ⟨o2, ps, hT2, hl2, hC, rfl, h4⟩
  have hps : ps = [2, 3, 4] := three_ps (hl2.trans hcl) (fun x hx => (hT2.rg x hx).1) hz1 hT2.low hT2.asc
  subst hps
  have hT := hT1.pre hT2
  have e2 : nx ([2, 3, 4].zip (cutF tl.length tl)) = 2 := by
    match hq : cutF tl.length tl, hcl with
    | [a, b, c], _ => rfl
  rw [e2, htll]
  have h5 : Has sg3 ((bb, .mk [vI 0, vI 0]) :: HH h m s o2 A ((zb, .mk [vI 0, vI 0]) :: (xb, .mk [vS ⟨#[]⟩]) :: R)) := h4.pm fun q => by simp only [List.count_cons, List.count_append]; omega
  refine ev_G (ev_st h5 0 rfl rfl (by show 2 ≤ 2; omega) (by show 0 < 2; omega) fun sg4 h6 => ?_)
  have h6 : Has sg4 ((bb, .mk [vI 2, vI 1000]) :: HH h m s o2 A ((zb, .mk [vI 0, vI 0]) :: (xb, .mk [vS ⟨#[]⟩]) :: R)) := h6
  refine ev_ldG (cs := [vI 2, vI 1000]) h6 0 rfl rfl rfl (by decide) ?_
  have hb : bodyL (ex0 tl) = tl := (bodyL_zip [2, 3, 4] (cutF tl.length tl) hcl.symm).trans (cutF_flat _ _ (Nat.le_refl _))
  have hpg : pgsL (ex0 tl) = [2, 3, 4] := pgsL_zip [2, 3, 4] (cutF tl.length tl) hcl.symm
  have hco : ChOk 12 pgs o2 (ex0 tl) := ⟨hC, cutd_of tl.length tl [2, 3, 4] (Nat.le_refl _) hcl.symm, by rw [hpg]; decide, fun x hx => by
    rw [hpg] at hx
    refine ⟨(hT2.rg x hx).1, (hT2.rg x hx).2.1, ?_⟩
    rw [hT2.bit]; simp [hx]⟩
  have h7 : Has sg4 (HH h m s o2 A ((zb, .mk [vI 0, vI 0]) :: (bb, .mk [vI 2, vI 1000]) :: (xb, .mk [vS ⟨#[]⟩]) :: R)) := h6.pm fun q => by simp only [List.count_cons, List.count_append]; omega
  have hg := get_of (dp := dp) hA hT2.ok hco h7 (by omega : 200000 < N) (by
    have : (ex0 tl).length = 3 := by
      show ([2, 3, 4].zip (cutF tl.length tl)).length = 3
      rw [List.length_zip, hcl]; rfl
    omega)
  have e3 : nx (ex0 tl) = 2 := e2
  rw [hb, e3, htll] at hg
  refine ev_call hg rfl ?_
  rintro _ sg5 ⟨rfl, h8⟩
  have h9 : Has sg5 ((xb, .mk [vS ⟨#[]⟩]) :: HH h m s o2 A ((zb, .mk [vI 0, vI 0]) :: (bb, .mk [vI 2, vI 1000]) :: R)) := h8.pm fun q => by simp only [List.count_cons, List.count_append]; omega
  refine ev_S rfl (ev_st h9 0 rfl rfl (by show 1 ≤ 1; omega) (by show 0 < 1; omega) fun sg6 h10 => ?_)
  have h10 : Has sg6 ((xb, .mk [vS (tx tl)]) :: HH h m s o2 A ((zb, .mk [vI 0, vI 0]) :: (bb, .mk [vI 2, vI 1000]) :: R)) := h10
  exact ev_out (hQ (.ret _ _) ⟨o2, hT, hC, h10.pm fun q => by simp only [List.count_cons, List.count_append]; omega⟩)
theorem cl2_ok {c : Chain} {bb lb fb : Nat} (hA : St1 s 12 size pgs A) (hc : ChOk 12 pgs [] c) (hz : ∀ y : Nat, 2 ≤ y → y < 12 → usedS (cur [] pgs 1) y = true → y ∈ pgsL c) (hN : 300000 < N) (hcl : c.length ≤ 4000)
    (hx : Has sg (HH h m s [] A ((bb, .mk [vI (nx c), vI (bodyL c).length]) :: (lb, .mk [.sl true 1 []]) :: (fb, .mk [vI 0]) :: R))) :
    Ev (tab N (dp + 9) 153 [.gp h 0, .gp bb 0, .gp lb 0, .gp fb 0] sg) (Rt fun _ sg2 => ∃ o3 a H, Gvn 12 pgs [] o3 (pgsL c) ∧ SxH a 1 c.length ((pgsL c).map fun (p : Nat) => vI p) H ∧
      Has sg2 (HH h m s o3 A ((bb, .mk [vI (nx c), vI (bodyL c).length]) :: (lb, .mk [a]) :: (fb, .mk [vI 10]) :: (H ++ R)))) := by
  have hO : OvOk 12 [] := ⟨by simp, by simp⟩
  refine ev_gen fun Q hQ => ?_
  refine ev_of ((t153 ..).trans (law14_lives_2.main ..)) ?_
  refine ev_atG (hx.in (p := (bb, .mk [vI (nx c), vI (bodyL c).length])) (by simp)) rfl rfl (by decide) ?_
  refine ev_call (pages_of (dp := dp + 1) hA hO hc hx (by omega)) rfl ?_
  rintro a sg1 ⟨H, hxa, h1⟩
  refine ev_A hxa.plain ?_
  have h2 : Has sg1 ((lb, .mk [.sl true 1 []]) :: HH h m s [] A ((bb, .mk [vI (nx c), vI (bodyL c).length]) :: (fb, .mk [vI 0]) :: (H ++ R))) := h1.pm fun q => by simp only [List.count_cons, List.count_append]; omega
  refine ev_st h2 0 rfl (by rw [hxa.one]; rfl) (by show 1 ≤ 1; omega) (by show 0 < 1; omega) fun sg2 h3 => ?_
  rw [hxa.one] at h3
  have h3 : Has sg2 ((lb, .mk [a]) :: HH h m s [] A ((bb, .mk [vI (nx c), vI (bodyL c).length]) :: (fb, .mk [vI 0]) :: (H ++ R))) := h3
  refine ev_atG (h3.in (p := (bb, .mk [vI (nx c), vI (bodyL c).length])) (by simp)) rfl rfl (by decide) ?_
  have h4 : Has sg2 (HH h m s [] A ((bb, .mk [vI (nx c), vI (bodyL c).length]) :: (lb, .mk [a]) :: (fb, .mk [vI 0]) :: (H ++ R))) := h3.pm fun q => by simp only [List.count_cons, List.count_append]; omega
  refine ev_call (drop_of (dp := dp) hA hO hc h4 (by omega) hcl) rfl ?_
  rintro _ sg3 ⟨o3, hG, h5⟩
  refine ev_call (hfree_ok (dp := dp + 4) hA hG.ok h5 (by omega)) rfl ?_
  rintro _ _ ⟨rfl, rfl⟩
  have e0 : cnt (cur o3 pgs 1) (12 - 2) 2 = 0 := cnt_zero fun y h6 h7 => by
    rw [hG.bit]
    by_cases hu : usedS (cur [] pgs 1) y = true
    · have := hz y h6 (by omega) hu
      simp [this]
    · simp [hu]
  rw [e0]
  have h6 : Has _ ((fb, .mk [vI 0]) :: HH h m s o3 A ((bb, .mk [vI (nx c), vI (bodyL c).length]) :: (lb, .mk [a]) :: (H ++ R))) := h5.pm fun q => by simp only [List.count_cons, List.count_append]; omega
  refine ev_I rfl (ev_st h6 0 rfl rfl (by show 1 ≤ 1; omega) (by show 0 < 1; omega) fun sg4 h7 => ?_)
  have h7 : Has sg4 ((fb, .mk [vI 10]) :: HH h m s o3 A ((bb, .mk [vI (nx c), vI (bodyL c).length]) :: (lb, .mk [a]) :: (H ++ R))) := h7
  exact ev_out (hQ (.ret _ _) ⟨o3, a, H, hG, hxa, h7.pm fun q => by simp only [List.count_cons, List.count_append]; omega⟩)
theorem cl3_ok {bb p sz : Nat} (hA : St1 s n size pgs A) (hp : p ≠ 0) (hb : ¬ ((2 ≤ (p : Int) ∧ (p : Int) < n) ∧ usedS (cur [] pgs 1) p = true)) (hN : 300000 < N) (hx : Has sg (HH h m s [] A R)) (hbb : (bb, .mk [vI p, vI sz]) ∈ R) :
    Ev (tab N (dp + 9) 154 [.gp h 0, .gp bb 0] sg) (Rp (fun _ _ => False) (fun v sg2 => v = stopV 19 ∧ Has sg2 (HH h m s [] A R))) := by
  have hO : OvOk n [] := ⟨by simp, by simp⟩
  refine ev_of ((t154 ..).trans (law14_lives_3.main ..)) ?_
  refine ev_atG (hx.in (p := (bb, .mk [vI p, vI sz])) (by simp [hbb])) rfl rfl (by decide) ?_
  refine ev_callP (get_none (dp := dp + 1) hA hO hp hb hx (by omega)) rfl (fun _ _ h => h.elim) ?_
  rintro _ sg2 ⟨rfl, h2⟩
  exact ⟨_, rfl, rfl, h2⟩
end Go.Abs
namespace Go.Abs
open Go
set_option linter.unusedVariables false
set_option maxRecDepth 100000
variable {N dp : Nat} {sg : Sg} {n size s h m : Nat} {R A L : Hp} {pgs : List ByteArray}
theorem same_ints {a b : AVal} {k : Nat} {l : List Int} {H1 H2 : Hp} (h1 : SxH a 1 k (l.map vI) H1) (h2 : SxH b 1 k (l.map vI) H2) (hh : Has sg L) (s1 : ∀ q, q ∈ H1 → q ∈ L) (s2 : ∀ q, q ∈ H2 → q ∈ L) (hN : k < N) (hk : k < 1000000) :
    Ev (tab N (dp + 1) 155 [a, b] sg) (Rt fun v sg' => v = vB true ∧ sg' = sg) := by
  refine ev_of ((t155 ..).trans (ref10_Same.main ..)) (ev_O h1.len (ev_O h2.len (ev_else (by simp) ?_)))
  have hl : l.length = k := by have := h1.1; simpa using this
  refine ev_loop k (fun i st => st = mkS [0, 1, 5] [.v a false, .v b false, .v (vI i) false] [none, none, none] (.sg sg)) hN rfl ?_
  rintro i st K hi rfl hnext hexit hret
  refine ev_of (ref10_Same.r0 ..) (ev_O h1.len (ev_ite (fun hlt => ?_) (fun hge => ?_)))
  · have hlt : i < k := by have : (i : Int) < k := by simpa using hlt
                           omega
    have e : (l.map vI)[i]? = some (vI l[i]) := by simp [List.getElem?_eq_getElem (show i < l.length by omega)]
    refine ev_elXI h1 hh s1 e (ev_elXI h2 hh s2 e (ev_else (by simp) ?_))
    rw [i64_nat (by omega)]
    exact hnext _ hlt rfl
  · refine hexit _ _ ?_
    exact ev_of (ref10_Same.k0_2 ..) (ev_ret ⟨rfl, rfl⟩)
theorem need_neg : Ev (tab N (dp + 1) 50 [vI (-1)] sg) (Rt fun v _ => v = vI 0) :=
  ev_of ((t50 ..).trans (blob_Need.main ..)) (ev_if (by decide) (ev_ret rfl))
theorem ev_res3 {Q : Out → Prop} {k1 k2 k3 : CK} {a1 a2 a3 : AVal} {c : AVal → Option Out} (h1 : ∀ c : AVal → Option Out, withK k1 (some a1) c = c a1) (h2 : ∀ c : AVal → Option Out, withK k2 (some a2) c = c a2) (h3 : ∀ c : AVal → Option Out, withK k3 (some a3) c = c a3)
    (h : Ev (c (.tup [a1, a2, a3])) Q) : Ev (withRes [k1, k2, k3] (.tup [a1, a2, a3]) c) Q := by
  have e : withRes [k1, k2, k3] (.tup [a1, a2, a3]) c = withK k1 (some a1) fun x => withK k2 (some a2) fun y => withK k3 (some a3) fun z => c (.tup [x, y, z]) := rfl
  rw [e, h1, h2, h3]; exact h
theorem ev_res2 {Q : Out → Prop} {k1 k2 : CK} {a1 a2 : AVal} {c : AVal → Option Out} (h1 : ∀ c : AVal → Option Out, withK k1 (some a1) c = c a1) (h2 : ∀ c : AVal → Option Out, withK k2 (some a2) c = c a2)
    (h : Ev (c (.tup [a1, a2])) Q) : Ev (withRes [k1, k2] (.tup [a1, a2]) c) Q := by
  have e : withRes [k1, k2] (.tup [a1, a2]) c = withK k1 (some a1) fun x => withK k2 (some a2) fun y => c (.tup [x, y]) := rfl
  rw [e, h1, h2]; exact h
theorem ex_third : ∀ t : List UInt8, (cutF 1000 (textL [97, 98] 1000))[2]? = some t → t.length = 48 ∧ t.take 2 = [97, 98] := by
  intro t ht
  have e : (cutF 1000 (textL [97, 98] 1000))[2]? = some (((textL [97, 98] 1000).drop (476 * 2)).take 476) := by
    rw [cutF_get _ _ _ (by rw [textL_len]; exact Nat.le_refl _), if_neg]
    intro h
    have := congrArg List.length h
    rw [List.length_drop, textL_len] at this
    simp at this
  rw [e] at ht
  cases ht
  constructor
  · rw [List.length_take, List.length_drop, textL_len]; rfl
  · rw [List.take_take]
    have : ∀ i, i < 2 → (((textL [97, 98] 1000).drop (476 * 2)).take 2)[i]? = [(97 : UInt8), 98][i]? := by
      intro i hi
      rw [List.getElem?_take, if_pos hi, List.getElem?_drop]
      simp only [textL, List.getElem?_map, List.getElem?_range (show 476 * 2 + i < 1000 by omega)]
      match i, hi with
      | 0, _ => rfl
      | 1, _ => rfl
    apply List.ext_getElem?
    intro i
    by_cases hi : i < 2
    · exact this i hi
    · rw [List.getElem?_eq_none, List.getElem?_eq_none]
      · simp; omega
      · rw [List.length_take]; omega
theorem ev_callT {Q : Out → Prop} {C : CallF} {d : Nat} {f : FuncId} {xs : List AVal} {φ : AVal → Sg → Prop} {ok pan : AVal → Sg → Option Out} (hC : C = tab N d) (h : Ev (tab N d f xs sg) (Rt φ)) (hf : Nat.blt f 1000000 = true) (hk : ∀ v sg', φ v sg' → Ev (ok v sg') Q) :
    Ev (withOut (bif Nat.blt f 1000000 then C f xs sg else none) ok pan) Q := by
  subst hC; exact ev_call h hf hk
set_option maxHeartbeats 1000000 in
theorem lives_a (hN : 300000 < N) : Ev (tab N (dp + 12) 49 [] []) (Rt fun v _ => v = vB true) := by
  refine ev_gen fun Q hQ => ?_
  refine ev_of (t49 ..) ?_
  obtain ⟨C, hCT⟩ : ∃ C, C = tab N (dp + 11) := ⟨_, rfl⟩
  rw [← hCT]
  refine ev_callT hCT (made_ok (dp := dp + 4) (a := 12) (b := 20) (has_nil []) (by omega)) rfl ?_
  rintro v sg1 (⟨hbad, _⟩ | ⟨s, d, n, size, A, rfl, hn, hsz, hA, hns, h1⟩)
  · exact absurd (by decide) hbad
  obtain rfl : n = 12 := by omega
  obtain rfl : size = 20 := by omega
  refine ev_res3 (fun _ => rfl) (fun _ => rfl) (fun _ => rfl) ?_
  have h2 := (((h1.new (boxZ none [AVal.at (Value.int IntKind.i64 0), AVal.at (Value.int IntKind.i64 0)])).new (boxZ none [AVal.at (Value.int IntKind.i64 0), AVal.at (Value.int IntKind.i64 0)])).new (boxZ none [AVal.at (Value.string ⟨#[]⟩)])).new (boxZ none [AVal.at (Value.int IntKind.i64 0)])
  refine ev_st h2 1 rfl rfl (by show 1 ≤ 1; omega) (by show 0 < 1; omega) fun sg2 h3 => ?_
  refine ev_st h3 0 rfl rfl (by show 1 ≤ 1; omega) (by show 0 < 1; omega) fun sg3 h4 => ?_
  generalize List.length (sg1 ++ [boxZ none [AVal.at (Value.int IntKind.i64 0), AVal.at (Value.int IntKind.i64 0)]] ++ [boxZ none [AVal.at (Value.int IntKind.i64 0), AVal.at (Value.int IntKind.i64 0)]] ++ [boxZ none [AVal.at (Value.string ⟨#[]⟩)]]) = b7 at h4 ⊢
  generalize List.length (sg1 ++ [boxZ none [AVal.at (Value.int IntKind.i64 0), AVal.at (Value.int IntKind.i64 0)]] ++ [boxZ none [AVal.at (Value.int IntKind.i64 0), AVal.at (Value.int IntKind.i64 0)]]) = b6 at h4 ⊢
  generalize List.length (sg1 ++ [boxZ none [AVal.at (Value.int IntKind.i64 0), AVal.at (Value.int IntKind.i64 0)]]) = b5 at h4 ⊢
  generalize List.length sg1 = b4 at h4 ⊢
  have h5 : Has sg3 ((b7, .mk [vI 0]) :: (b6, .mk [vS ⟨#[]⟩]) :: (b5, .mk [vI 0, vI 0]) :: (b4, .mk [vI 0, vI 0]) :: (A ++ [])) := h4
  have h6 : Has sg3 (A ++ ((b5, .mk [vI 0, vI 0]) :: (b4, .mk [vI 0, vI 0]) :: (b6, .mk [vS ⟨#[]⟩]) :: (b7, .mk [vI 0]) :: [])) := h5.pm fun q => by simp only [List.count_cons, List.count_append, List.count_nil]; omega
  clear h2 h3 h4 h5
  obtain ⟨tl, htl⟩ : ∃ tl, tl = textL [97, 98] 1000 := ⟨_, rfl⟩
  have htll : tl.length = 1000 := by rw [htl, textL_len]
  have hcl : (cutF tl.length tl).length = 3 := by rw [cutF_len _ _ (Nat.le_refl _), htll]
  have hb : bodyL (ex0 tl) = tl := (bodyL_zip [2, 3, 4] (cutF tl.length tl) hcl.symm).trans (cutF_flat _ _ (Nat.le_refl _))
  have hpg : pgsL (ex0 tl) = [2, 3, 4] := pgsL_zip [2, 3, 4] (cutF tl.length tl) hcl.symm
  have hcut : Cutd (ex0 tl) := cutd_of tl.length tl [2, 3, 4] (Nat.le_refl _) hcl.symm
  have hcl3 : (ex0 tl).length = 3 := by
    have := congrArg List.length hpg
    simpa [pgsL] using this
  have hnx : nx (ex0 tl) = 2 := by
    have := nx_drop [2, 3, 4] (cutF tl.length tl) 0 hcl.symm
    exact this
  have hz0 : ∀ y : Nat, usedS (cur [] (List.replicate 12 (zeros 480)) 1) y = false := fun y => by
    have : cur [] (List.replicate 12 (zeros 480)) 1 = zeros 480 := rfl
    rw [this, used_zeros]
  have hL0 : Lv 12 (List.replicate 12 (zeros 480)) [] := Lv.new (by decide)
  refine ev_callT hCT (do_ok (dp := dp + 2) (f := 152) (first := []) (cap := [.gp b5 0, .gp b4 0, .gp b6 0])
    (P := fun o R2 => (Tkn 12 (List.replicate 12 (zeros 480)) [] o [2, 3, 4] ∧ Chn (cur o (List.replicate 12 (zeros 480))) (ex0 tl)) ∧ R2 = (b5, .mk [vI 0, vI 0]) :: (b4, .mk [vI 2, vI 1000]) :: (b6, .mk [vS (tx tl)]) :: (b7, .mk [vI 0]) :: [])
    (P' := fun _ _ => False) hA h6 rfl (by omega) (fun h m sg' hx => ?_)) rfl ?_
  · refine (Ev.rp (ψ := fun _ _ => False) (cl1_ok (dp := dp + 1) htl hA hz0 hN hx)).imp fun o => ?_
    cases o with
    | ret v sg2 => rintro ⟨o2, q1, q2, q3⟩; exact ⟨o2, _, q1.ok, ⟨⟨q1, q2⟩, rfl⟩, q3⟩
    | pan v sg2 => exact fun h => h.elim
  rintro _ sg4 (⟨_, _, _, _, hf, _⟩ | ⟨o2, R2, hO2, ⟨⟨hT, hC⟩, rfl⟩, ⟨_, hbig, _⟩ | ⟨rfl, pg1, A1, hA1, hg1, h7⟩⟩)
  · exact hf.elim
  · exfalso
    have : (o2.map (·.1)).length ≤ [(1 : Int), 2, 3, 4].length := hO2.nd.length_le_of_subset fun x hx => by
      rcases hT.key x hx with h8 | ⟨p, h8, h9⟩ | h8
      · simp [h8]
      · simp at h8; rcases h8 with rfl | rfl | rfl <;> simp [h9]
      · simp at h8
    simp at this
    omega
  have hL1 : Lv 12 pg1 [ex0 tl] := by
    have := hL0.put (c := ex0 tl) hT (by decide) hpg hC hcut (by intro e; rw [e] at hcl3; cases hcl3) hg1
    simpa using this
  have hz1 : ∀ y : Nat, 2 ≤ y → y < 12 → usedS (cur [] pg1 1) y = true → y ∈ pgsL (ex0 tl) := fun y q1 q2 q3 => by
    have := (hL1.us y q1 q2).1 q3
    simpa [flat] using this
  have h8 := h7.new (boxZ none [AVal.sl true 1 []])
  have h9 : Has (sg4 ++ [boxZ none [AVal.sl true 1 []]]) (A1 ++ ((b4, .mk [vI (nx (ex0 tl)), vI (bodyL (ex0 tl)).length]) :: (sg4.length, .mk [.sl true 1 []]) :: (b7, .mk [vI 0]) :: ((b5, .mk [vI 0, vI 0]) :: (b6, .mk [vS (tx tl)]) :: []))) := by
    rw [hnx, hb, htll]
    have h8' : Has (sg4 ++ [boxZ none [AVal.sl true 1 []]]) ((sg4.length, .mk [.sl true 1 []]) :: (A1 ++ ((b5, .mk [vI 0, vI 0]) :: (b4, .mk [vI ((2 : Nat) : Int), vI ((1000 : Nat) : Int)]) :: (b6, .mk [vS (tx tl)]) :: (b7, .mk [vI 0]) :: []))) := h8
    exact h8'.pm fun q => by simp only [List.count_cons, List.count_append, List.count_nil]; omega
  refine ev_callT hCT (do_ok (dp := dp + 2) (f := 153) (first := []) (cap := [.gp b4 0, .gp sg4.length 0, .gp b7 0])
    (P := fun o R2 => ∃ a H, Gvn 12 pg1 [] o (pgsL (ex0 tl)) ∧ SxH a 1 3 ([2, 3, 4].map vI) H ∧ R2 = (b4, .mk [vI 2, vI 1000]) :: (sg4.length, .mk [a]) :: (b7, .mk [vI 10]) :: (H ++ [(b5, .mk [vI 0, vI 0]), (b6, .mk [vS (tx tl)])]))
    (P' := fun _ _ => False) hA1 h9 rfl (by omega) (fun h m sg' hx => ?_)) rfl ?_
  · refine (Ev.rp (ψ := fun _ _ => False) (cl2_ok (dp := dp) hA1 (hL1.ok (by simp)) hz1 hN (by omega) hx)).imp fun o => ?_
    cases o with
    | ret v sg2 =>
      rintro ⟨o3, a, H, q1, q2, q3⟩
      refine ⟨o3, _, q1.ok, ⟨a, H, q1, q2.cast hcl3 (by rw [hpg]; rfl), rfl⟩, ?_⟩
      rw [hnx, hb, htll] at q3
      exact q3
    | pan v sg2 => exact fun h => h.elim
  rintro _ sg5 (⟨_, _, _, _, hf, _⟩ | ⟨o3, R2, hO3, ⟨aP, HP, hG, hxP, rfl⟩, ⟨_, hbig, _⟩ | ⟨rfl, pg2, A2, hA2, hg2, h10⟩⟩)
  · exact hf.elim
  · exfalso
    have : (o3.map (·.1)).length ≤ [(1 : Int)].length := hO3.nd.length_le_of_subset fun x hx => by
      rcases hG.key x hx with h8 | h8
      · simp [h8]
      · simp at h8
    simp at this
    omega
  have hL2 : Lv 12 pg2 [] := Lv.drop (a := []) (b := []) (c := ex0 tl) hL1 hG (by decide) hg2
  have hno2 : ¬ ((2 ≤ ((2 : Nat) : Int) ∧ ((2 : Nat) : Int) < (12 : Nat)) ∧ usedS (cur [] pg2 1) ((2 : Nat) : Int) = true) := by
    rintro ⟨_, hu⟩
    have := (hL2.us 2 (by decide) (by decide)).1 hu
    simp [flat] at this
  generalize sg4.length = lb at h10 ⊢
  refine ev_callT hCT (view_any (dp := dp) (f := 154) (first := []) (cap := [.gp b4 0]) (P := fun _ => False) (P' := fun k R2 => k = 19 ∧ R2 = (b4, .mk [vI 2, vI 1000]) :: (lb, .mk [aP]) :: (b7, .mk [vI 10]) :: (HP ++ [(b5, .mk [vI 0, vI 0]), (b6, .mk [vS (tx tl)])])) h10 rfl (fun h m sg' hx => ?_)) rfl ?_
  · refine (cl3_ok (dp := dp) (p := 2) (sz := 1000) hA2 (by decide) hno2 hN hx (by simp)).imp fun o => ?_
    cases o with
    | ret v sg2 => exact fun h => h.elim
    | pan v sg2 => rintro ⟨rfl, q3⟩; exact ⟨19, _, rfl, ⟨rfl, rfl⟩, q3.tail.tail⟩
  rintro _ sg6 (⟨_, _, hf, _⟩ | ⟨k, R2, rfl, ⟨rfl, rfl⟩, h11⟩)
  · exact hf.elim
  obtain ⟨PT, hPT⟩ : ∃ PT : List UInt8, pg2.getD 4 ⟨#[]⟩ = tx PT ∧ PT.length = 480 ∧ PT.take 6 = [0, 0, 0, 48, 97, 98] := by
    obtain ⟨t3, ht3⟩ : ∃ t3, (cutF tl.length tl)[2]? = some t3 := ⟨_, List.getElem?_eq_getElem (by omega)⟩
    have hq := ex_third t3 (by rw [← htl, ← htll]; exact ht3)
    have hat : (ex0 tl)[2]? = some (4, t3) := by
      show ([2, 3, 4].zip (cutF tl.length tl))[2]? = _
      rw [List.getElem?_zip_eq_some]
      exact ⟨rfl, ht3⟩
    have hv := chn_at hC hat
    have hd : (ex0 tl).drop (2 + 1) = [] := List.drop_eq_nil_of_le (by omega)
    rw [hd] at hv
    refine ⟨pgL 0 t3, ?_, pgL_len (by omega), ?_⟩
    · rw [hg2 4 (by decide), hG.oth _ (by decide)]
      show pg1.getD 4 ⟨#[]⟩ = _
      rw [hg1 4 (by decide)]
      exact hv
    · rw [pgL_eq, hq.1]
      obtain ⟨r, hr⟩ : ∃ r, t3 = [97, 98] ++ r := ⟨t3.drop 2, by rw [← hq.2, List.take_append_drop]⟩
      rw [hr]
      rfl
  refine ev_callT hCT (read_ok (a := 4) hA2 h11) rfl ?_
  rintro _ sg6 ⟨rfl, rfl⟩
  rw [if_pos (by decide)]
  have e4 : pg2.getD (4 : Int).toNat ⟨#[]⟩ = tx PT := hPT.1
  rw [e4]
  refine ev_res2 (fun _ => rfl) (fun _ => rfl) ?_
  refine ev_atG (cs := [vI 0, vI 0]) (h11.in (p := (b5, .mk [vI 0, vI 0])) (by simp)) rfl rfl (by decide) ?_
  refine ev_atG (cs := [vI 2, vI 1000]) (h11.in (p := (b4, .mk [vI 2, vI 1000])) (by simp)) rfl rfl (by decide) ?_
  refine ev_atS (v := tx tl) (h11.in (p := (b6, .mk [vS (tx tl)])) (by simp)) rfl ?_
  have hbt : Ev (tab N (dp + 11) 60 [vS (tx [97, 98]), vI (1000 : Nat)] []) (Rt fun v _ => v = vS (tx tl)) := by
    rw [htl]; exact btext_ok (by decide) (by decide) (by decide) (by omega)
  refine ev_callT hCT hbt rfl ?_
  rintro _ _ rfl
  have eT : eqS (tx tl) (tx tl) = true := eqS_iff.2 rfl
  refine ev_if eT ?_
  refine ev_atA (v := aP) (h11.in (p := (lb, .mk [aP])) (by simp)) rfl ?_
  have h12 := h11.new (.mk [vI 2, vI 3, vI 4])
  refine ev_if eT ?_
  refine ev_if eT ?_
  refine ev_A hxP.plain ?_
  refine ev_callT hCT (same_ints (N := N) (dp := dp + 10) (k := 3) (l := [2, 3, 4]) hxP (SxH.box (g := sg6.length) rfl (by decide)) h12 (fun q hq => by simp [hq]) (fun q hq => by simp at hq; simp [hq]) (by omega) (by decide)) rfl ?_
  rintro _ sg7 ⟨rfl, _⟩
  refine ev_if eT ?_
  refine ev_atI (v := 10) (h12.in (p := (b7, .mk [vI 10])) (by simp)) rfl ?_
  have eS : ((((tx PT).size : Nat) : Int) == 480) = true := by rw [tx_size, hPT.2.1]; rfl
  refine ev_if eS ?_
  refine ev_if eS ?_
  refine ev_if (by rw [tx_size, hPT.2.1]; decide) ?_
  refine ev_if eS ?_
  refine ev_if eS ?_
  have eC : eqS (cutS (tx PT) (0 : Int).toNat (6 : Int).toNat) ⟨#[0, 0, 0, 48, 97, 98]⟩ = true := by
    refine eqS_iff.2 ?_
    rw [tx_cut]
    show tx (PT.take 6) = _
    rw [hPT.2.2]; rfl
  refine ev_if eC ?_
  refine ev_callT hCT (need_ok (N := N) (dp := dp + 10) (x := 476) (by decide) (by decide)) rfl ?_
  rintro _ _ rfl
  refine ev_if eC ?_
  refine ev_if eC ?_
  refine ev_callT hCT (need_ok (N := N) (dp := dp + 10) (x := 477) (by decide) (by decide)) rfl ?_
  rintro _ _ rfl
  refine ev_callT hCT (need_neg (N := N) (dp := dp + 10)) rfl ?_
  rintro _ _ rfl
  have eU : sameU [(Res.s 61, RVal.sv (.v aP false))] [(Res.s 61, RVal.sv (.v aP false))] = true := by simp [sameU, eqA_self hxP]
  refine ev_if eT ?_
  refine ev_atA (v := aP) (h12.in (p := (lb, .mk [aP])) (by simp)) rfl (ev_bif eU ?_)
  refine ev_if eT ?_
  refine ev_atA (v := aP) (h11.in (p := (lb, .mk [aP])) (by simp)) rfl (ev_bif eU ?_)
  exact ev_out (hQ (.ret (vB true) _) rfl)
end Go.Abs
namespace Go.Abs
open Go
set_option linter.unusedVariables false
set_option maxRecDepth 100000
theorem law_ok (a b : Int) (nn nn' : Bool) (l : List Int) (dl : List Bool) : ∃ sg', tab 3000000 13 7 [vI a, vI b, .sl nn' 1 (l.map vI), .sl nn 1 (dl.map vB)] [] = some (.ret (vB true) sg') := by
  obtain ⟨v, sg, e, rfl⟩ := ev_get (back_ok (N := 3000000) (dp := 1) (a := a) (b := b) (nn := nn) (nn' := nn') (l := l) (dl := dl) (lives_a (dp := 0) (by decide)) (by decide))
  exact ⟨sg, e⟩
end Go.Abs
