/- The law's own functions: texts, what a store's pages are, whether lists are one. -/
import Derived.Test.YtimoaolannkpcaaGreatHpY
import Derived.Test.YtimoaolannkpcaaGreatRsD
set_option linter.unusedVariables false
set_option linter.unusedSimpArgs false
set_option linter.unusedSectionVars false
namespace Go.Abs
open Go
set_option linter.unusedVariables false
set_option maxRecDepth 100000
/-- An act, a transaction, as they come in. -/
structure PAct where
  kind : Int
  num : Int
  byte : Int
  short : Bool
structure PTxn where
  kind : Int
  av : AVal
  acts : List PAct
  num : Int
def actC (a : PAct) : List AVal := [vI a.kind, vI a.num, v8 a.byte, vB a.short]
def actV (a : PAct) : AVal := .agg (actC a)
def txnC (t : PTxn) : List AVal := [vI t.kind, t.av, vI t.num]
/-- A list of structs, as it comes in. -/
def LsV (sz : Nat) (a : AVal) (l : List (List AVal)) : Prop := (∃ nn, a = .sl nn sz (l.map .agg)) ∨ (l = [] ∧ ∃ x cap, a = .at (.slice (some x) 0 cap))
theorem LsV.len {sz : Nat} {a : AVal} {l : List (List AVal)} (h : LsV sz a l) : lenV a = some l.length := by
  rcases h with ⟨nn, rfl⟩ | ⟨rfl, x, cap, rfl⟩
  · simp [lenV]
  · rfl
theorem ev_ls {Q : Out → Prop} {sg : Sg} {m : Nat} {a : AVal} {l : List (List AVal)} {i : Nat} {cs : List AVal} {c : List AVal → Option Out} (hI : LsV m a l) (hi : l[i]? = some cs) (hm : cs.length = m) (h : Ev (c cs) Q) :
    Ev (withO (elemV m ((i : Nat) : Int) a) fun r => withO (loadC none sg r) fun p => bif (p.snd + m).ble p.fst.length then bindL (List.take m (List.drop p.snd p.fst)) c else none) Q := by
  rcases hI with ⟨nn, rfl⟩ | ⟨rfl, x, cap, rfl⟩
  · exact ev_elemS (by omega) (by simp [hi]) hm rfl h
  · simp at hi
def pgT (b : Int) : ByteArray := ⟨⟨List.replicate 480 (UInt8.ofNat b.toNat)⟩⟩
theorem pgT_size (b : Int) : (pgT b).size = 480 := by
  show (List.replicate 480 (UInt8.ofNat b.toNat)).toArray.size = 480
  simp
theorem pgT_zero : pgT 0 = zeros 480 := rfl
def ptext (a : PAct) : ByteArray := if a.short = true then cutS (pgT a.byte) 1 480 else pgT a.byte
variable {N dp : Nat} {sg : Sg} {h s n size m k : Nat} {A R L : Hp} {pgs : List ByteArray} {over : List (Int × ByteArray)}
theorem page_ok {b : Int} : Ev (tab N (dp + 1) 24 [v8 b] sg) (Rt fun v _ => v = vS (pgT b)) := by
  refine ev_of (t24 ..) ?_
  exact ev_ret rfl
theorem text_ok (a : PAct) : Ev (tab N (dp + 2) 21 [actV a] sg) (Rt fun v _ => v = vS (ptext a)) := by
  refine ev_of ((t21 ..).trans (law11_Act_text.main ..)) (ev_B rfl ?_)
  unfold ptext
  cases a.short with
  | true =>
    refine ev_if rfl (ev_I rfl (ev_call page_ok rfl ?_))
    rintro _ _ rfl
    refine ev_S rfl ?_
    rw [pgT_size]
    exact ev_if (by decide) (ev_ret rfl)
  | false =>
    refine ev_else (by decide) (ev_I rfl (ev_call page_ok rfl ?_))
    rintro _ _ rfl
    exact ev_S rfl (ev_ret rfl)
theorem take_snoc {l : List ByteArray} {i : Nat} (h : i < l.length) : (l.take (i + 1)).map vS = (l.take i).map vS ++ [vS l[i]] := by
  rw [List.take_add_one, List.getElem?_eq_getElem h, List.map_append]; rfl
theorem all_ok (hA : St1 s n size pgs A) (hh : Has sg (A ++ R)) (hN : 5000 < N) :
    Ev (tab N (dp + 3) 17 [.gp s 0] sg) (Rt fun v sg' => ∃ g, v = .gs g 1 0 n ∧ Has sg' ((g, .mk (pgs.map vS)) :: (A ++ R))) := by
  obtain ⟨f1, f2, f3, f4⟩ := hA.facts
  refine ev_of ((t17 ..).trans (law11_all.main ..)) ?_
  refine ev_call (stpages_ok hA hh) rfl ?_
  rintro _ _ ⟨rfl, rfl⟩
  refine ev_I rfl ?_
  refine ev_loop n (fun i st => ∃ sg', (i = 0 ∧ st = mkS [0, 3, 8, 9] [.v (.gp s 0) false, .v (.sl true 1 []) true, .v (vI n) false, .v (vI (0 : Nat)) false] [none, none, none, none] (.sg sg') ∧ Has sg' (A ++ R)) ∨
    (∃ g, 0 < i ∧ st = mkS [0, 3, 8, 9] [.v (.gp s 0) false, .v (.gs g 1 0 i) false, .v (vI n) false, .v (vI i) false] [none, none, none, none] (.sg sg') ∧ Has sg' ((g, .mk ((pgs.take i).map vS)) :: (A ++ R)))) (by omega) ⟨_, .inl ⟨rfl, rfl, hh⟩⟩ ?_
  rintro i st K hi hst hnext hexit hret
  rcases hst with ⟨sg1, ⟨rfl, rfl, h1⟩ | ⟨g, hpos, rfl, h1⟩⟩
  · refine ev_of (law11_all.r0 ..) (ev_if (by simp; omega) ?_)
    refine ev_call (read_ok hA h1) rfl ?_
    rintro _ _ ⟨rfl, rfl⟩
    rw [if_pos ⟨by omega, by omega⟩]
    refine ev_T (ev_bif rfl (ev_S rfl (ev_I rfl (ev_bif rfl ?_))))
    have h2 := h1.new (.mk [vS (pgs.getD (((0 : Nat) : Int)).toNat ⟨#[]⟩)])
    refine ev_O (flatG_gs (h2.at (n := 0) rfl) (Nat.le_of_ble_eq_true rfl) (Nat.succ_pos _)) ?_
    refine ev_bie rfl (ev_if (show (1 : Nat) * 16 ≤ 35184372088832 by decide) ?_)
    refine ev_app_nil h2 fun w' sg4 h3 => ?_
    rw [i64_nat (by omega)]
    refine hnext _ (by omega) ⟨sg4, .inr ⟨w', by omega, rfl, ?_⟩⟩
    rw [take_snoc (by omega)]
    have e : pgs.getD (((0 : Nat) : Int)).toNat ⟨#[]⟩ = pgs[0]'(by omega) := by
      simp [List.getD_eq_getElem?_getD, List.getElem?_eq_getElem (show 0 < pgs.length by omega)]
    rw [e] at h3
    exact h3.sub (.cons_cons _ (.cons _ (List.Sublist.refl _)))
  · refine ev_of (law11_all.r0_2 ..) (ev_ite (fun hlt => ?_) (fun hge => ?_))
    · have hlt : i < n := by
        have : (i : Int) < n := by simpa using hlt
        omega
      refine ev_call (read_ok hA h1.tail) rfl ?_
      rintro _ _ ⟨rfl, rfl⟩
      rw [if_pos ⟨by omega, by omega⟩]
      refine ev_T (ev_bif rfl (ev_S rfl (ev_I rfl (ev_bif rfl ?_))))
      have h2 := h1.new (.mk [vS (pgs.getD ((i : Nat) : Int).toNat ⟨#[]⟩)])
      refine ev_O (flatG_gs (h2.at (n := 0) rfl) (Nat.le_of_ble_eq_true rfl) (Nat.succ_pos _)) ?_
      refine ev_bie rfl (ev_if (show (1 : Nat) * 16 ≤ 35184372088832 by decide) ?_)
      have hl : ((pgs.take i).map vS).length = i := by rw [List.length_map, List.length_take]; omega
      refine ev_app_gs h2 1 rfl (by rw [hl]; omega) (by rw [hl]; omega) (by omega) fun w' sg4 h3 => ?_
      rw [i64_nat (by omega)]
      refine hnext _ hlt ⟨sg4, .inr ⟨w', by omega, rfl, ?_⟩⟩
      rw [take_snoc (by omega)]
      have e : pgs.getD ((i : Nat) : Int).toNat ⟨#[]⟩ = pgs[i]'(by omega) := by
        simp [List.getD_eq_getElem?_getD, List.getElem?_eq_getElem (show i < pgs.length by omega)]
      rw [e] at h3
      exact h3.sub (.cons_cons _ (.cons _ (.cons _ (List.Sublist.refl _))))
    · have : i = n := by
        have : ¬ (i : Int) < n := by simpa using hge
        omega
      subst this
      refine hexit _ _ ?_
      rw [← f1, List.take_length] at h1
      exact ev_of (law11_all.k0_2 ..) (ev_A (a := .gs g 1 0 i) rfl (ev_ret ⟨g, rfl, h1⟩))
theorem strs_at {p : List ByteArray} {i : Nat} (h : i < p.length) : (p.map vS)[0 + ((i : Nat) : Int).toNat * 1]? = some (vS p[i]) := by simp [List.getElem?_eq_getElem h]
theorem same_ok {i j g1 g2 : Nat} (hh : Has sg L) (e1 : L[i]? = some (g1, .mk (pgs.map vS))) (e2 : L[j]? = some (g2, .mk (pgs.map vS))) (hl : pgs.length = n) (hN : n < N) (hn : n ≤ 100000) :
    Ev (tab N (dp + 1) 28 [.gs g1 1 0 n, .gs g2 1 0 n] sg) (Rt fun v sg' => v = vB true ∧ sg' = sg) := by
  refine ev_of ((t28 ..).trans (ref03_Same.main ..)) (ev_O (a := n) rfl (ev_O (a := n) rfl (ev_else (by simp) ?_)))
  refine ev_loop n (fun i st => st = mkS [0, 1, 5] [.v (.gs g1 1 0 n) false, .v (.gs g2 1 0 n) false, .v (vI i) false] [none, none, none] (.sg sg)) hN rfl ?_
  rintro x st K hi rfl hnext hexit hret
  refine ev_of (ref03_Same.r0 ..) (ev_O (a := n) rfl (ev_ite (fun hlt => ?_) (fun hge => ?_)))
  · have hlt : x < n := by
      have : (x : Int) < n := by simpa using hlt
      omega
    refine ev_elem (by omega) (by omega) (ev_ldS hh i e1 (strs_at (by omega)) ?_)
    refine ev_elem (by omega) (by omega) (ev_ldS hh j e2 (strs_at (by omega)) ?_)
    refine ev_else (by rw [eqS_iff.2 rfl]; decide) ?_
    rw [i64_nat (by omega)]
    exact hnext _ hlt rfl
  · refine hexit _ _ ?_
    exact ev_of (ref03_Same.k0_2 ..) (ev_ret ⟨rfl, rfl⟩)
def nilP : AVal := .at (.pointer none)
theorem made_ok {a b : Int} (hh : Has sg R) (hN : 200000 < N) :
    Ev (tab N (dp + 7) 16 [vI a, vI b] sg) (Rt fun v sg' => (¬ ((8 ≤ a ∧ a ≤ 3840 ∧ 4 ≤ b ∧ b ≤ 1024) ∧ 1 + b + a ≤ 80) ∧ v = .tup [nilP, nilP, vB false]) ∨
      ∃ s d n size A, v = .tup [.gp s 0, .gp d 0, vB true] ∧ a = ((n : Nat) : Int) ∧ b = ((size : Nat) : Int) ∧ St1 s n size (List.replicate n (zeros 480)) A ∧ n + size ≤ 79 ∧ Has sg' (A ++ R)) := by
  refine ev_of ((t16 ..).trans (law11_Made.main ..)) ?_
  refine ev_call size_ok rfl ?_
  rintro _ _ ⟨rfl, rfl⟩
  by_cases hc : 8 ≤ a ∧ a ≤ 3840 ∧ 4 ≤ b ∧ b ≤ 1024
  · rw [if_pos hc]
    obtain ⟨n, rfl⟩ := Int.eq_ofNat_of_zero_le (show 0 ≤ a by omega)
    obtain ⟨size, rfl⟩ := Int.eq_ofNat_of_zero_le (show 0 ≤ b by omega)
    refine ev_T (ev_bif rfl (ev_I rfl (ev_I rfl (ev_if rfl (ev_ite (fun hg => ev_ret (.inl ⟨fun hx => ?_, rfl⟩)) (fun hg => ?_))))))
    · have hg : (80 : Int) < 1 + size + n := by simpa using hg
      omega
    have hg : (1 : Int) + size + n ≤ 80 := by
      have : ¬ (80 : Int) < 1 + size + n := by simpa using hg
      omega
    have e : (1 : Int) + (size : Int) + (n : Int) = ((1 + size + n : Nat) : Int) := by omega
    rw [e]
    refine ev_call (new_ok hh (n := 1 + size + n) (by omega) (by omega) (by omega)) rfl ?_
    rintro _ sg1 ⟨d, A1, rfl, hA1, h1⟩
    refine ev_T (ev_bif rfl (ev_A rfl (ev_I rfl (ev_A rfl ?_))))
    refine ev_call (format_ok hA1 h1 (by omega) (by omega) (by omega) (by omega) (by omega) hN) rfl ?_
    rintro _ sg2 ⟨s, A2, rfl, hA2, h2⟩
    refine ev_T (ev_bif rfl (ev_A rfl (ev_I rfl (ev_if rfl (ev_if rfl (ev_O (a := false) rfl (ev_if rfl (ev_O (a := false) rfl (ev_A (a := .gp s 0) rfl (ev_A (a := .gp d 0) rfl (ev_ret (.inr ?_))))))))))))
    exact ⟨s, d, n, size, A2, rfl, rfl, rfl, hA2, by omega, h2⟩
  · rw [if_neg hc]
    exact ev_T (ev_bif rfl (ev_I rfl (ev_I rfl (ev_else (by decide) (ev_ret (.inl ⟨fun hx => hc hx.1, rfl⟩))))))
end Go.Abs
