/- THE HEAP: a transaction's pages. -/
import Derived.Test.YtimoaolannkpcaaGreatPgZ
import Derived.Test.YtimoaolannkpcaaGreatBitM
set_option linter.unusedVariables false
set_option linter.unusedSimpArgs false
set_option linter.unusedSectionVars false
namespace Go.Abs
open Go
set_option linter.unusedVariables false
set_option maxRecDepth 100000
def hpB (s m : Nat) : Box := .mk [.gp s 0, .gm m]
/-- What was put: pages below n, none twice. -/
structure OvOk (n : Nat) (l : List (Int × ByteArray)) : Prop where
  nd : (l.map (·.1)).Nodup
  rg : ∀ p, p ∈ l → (0 ≤ p.1 ∧ p.1 < (n : Int)) ∧ p.2.size = 480
theorem lk_mem {α : Type} {k : Int} {v : α} : ∀ {l : List (Int × α)}, lk k l = some v → (k, v) ∈ l
  | (k', v') :: l, h => by
    simp only [lk] at h
    split at h
    · rename_i he; cases h; subst he; simp
    · exact List.mem_cons_of_mem _ (lk_mem h)
theorem mem_lk {α : Type} {k : Int} {v : α} : ∀ {l : List (Int × α)}, (l.map (·.1)).Nodup → (k, v) ∈ l → lk k l = some v
  | (k', v') :: l, hn, h => by
    simp only [List.map_cons, List.nodup_cons] at hn
    simp only [lk]
    rcases List.mem_cons.1 h with h | h
    · cases h; simp
    · have : k ≠ k' := fun e => hn.1 (e ▸ List.mem_map.2 ⟨_, h, rfl⟩)
      rw [if_neg this]; exact mem_lk hn.2 h
theorem mem_ins {α : Type} {k : Int} {v : α} {p : Int × α} : ∀ {l : List (Int × α)}, p ∈ insM k v l → p = (k, v) ∨ p ∈ l
  | [], h => by simp [insM] at h; exact .inl h
  | (k', v') :: l, h => by
    simp only [insM] at h
    split at h
    · rcases List.mem_cons.1 h with h | h
      · exact .inl h
      · exact .inr (List.mem_cons_of_mem _ h)
    · rcases List.mem_cons.1 h with h | h
      · exact .inr (by simp [h])
      · rcases mem_ins h with h | h
        · exact .inl h
        · exact .inr (List.mem_cons_of_mem _ h)
theorem OvOk.ins {n : Nat} {l : List (Int × ByteArray)} (h : OvOk n l) {k : Int} {t : ByteArray} (hk : 0 ≤ k ∧ k < (n : Int)) (ht : t.size = 480) : OvOk n (insM k t l) :=
  ⟨nodup_ins h.nd, fun p hp => by
    rcases mem_ins hp with rfl | hp
    · exact ⟨hk, ht⟩
    · exact h.rg p hp⟩
theorem OvOk.len {n : Nat} {l : List (Int × ByteArray)} (h : OvOk n l) : l.length ≤ n := by
  have := len_le_of_nodup h.nd fun x hx => by
    obtain ⟨q, hq, rfl⟩ := List.mem_map.1 hx
    exact (h.rg q hq).1
  simpa using this
/-- A page's text, as the transaction sees it. -/
def cur (over : List (Int × ByteArray)) (pgs : List ByteArray) (i : Int) : ByteArray := (lk i over).getD (pgs.getD i.toNat ⟨#[]⟩)
theorem cur_size {n : Nat} {over : List (Int × ByteArray)} {pgs : List ByteArray} {i : Int} (h : OvOk n over) (hp : pgs.length = n) (hs : ∀ t, t ∈ pgs → t.size = 480) (h0 : 0 ≤ i ∧ i < n) : (cur over pgs i).size = 480 := by
  unfold cur
  cases hl : lk i over with
  | some t => exact (h.rg _ (lk_mem hl)).2
  | none =>
    have : i.toNat < pgs.length := by omega
    rw [Option.getD_none, List.getD_eq_getElem?_getD, List.getElem?_eq_getElem this]
    exact hs _ (List.getElem_mem this)
theorem cur_ins (k : Int) (t : ByteArray) (over : List (Int × ByteArray)) (pgs : List ByteArray) (i : Int) : cur (insM k t over) pgs i = if i = k then t else cur over pgs i := by
  unfold cur
  rw [lk_ins]
  split <;> rfl
variable {N dp : Nat} {sg : Sg} {h s n size m k : Nat} {A R L : Hp} {pgs : List ByteArray} {over : List (Int × ByteArray)}
theorem St1.facts (hA : St1 s n size pgs A) : pgs.length = n ∧ (∀ t, t ∈ pgs → t.size = 480) ∧ 8 ≤ n ∧ n ≤ 3840 := by
  obtain ⟨at_, d, p, m, j, ep, num, wt, l, k, Ad, rfl, hD, hk, hat, hpl, hfr, hsz, hn1, hn2, hs1, hs2⟩ := hA
  exact ⟨hpl, hsz, hn1, hn2⟩
theorem stpages_ok (hA : St1 s n size pgs A) (h : Has sg (A ++ R)) : Ev (tab N (dp + 1) 35 [.gp s 0] sg) (Rt fun v sg' => v = vI n ∧ sg' = sg) := by
  obtain ⟨at_, d, p, m, j, ep, num, wt, l, k, Ad, rfl, _⟩ := hA
  exact pages_ok (i := 0) h rfl
theorem hpages_ok (hA : St1 s n size pgs A) (hh : Has sg ((h, hpB s m) :: (m, .map (emb vS over)) :: (A ++ R))) : Ev (tab N (dp + 2) 123 [.gp h 0] sg) (Rt fun v sg' => v = vI n ∧ sg' = sg) := by
  refine ev_of ((t123 ..).trans (heap_Heap_Pages.main ..)) (ev_ldA hh 0 rfl rfl (ev_A rfl ?_))
  refine ev_call (stpages_ok hA hh.tail.tail) rfl ?_
  rintro _ _ ⟨rfl, rfl⟩
  exact ev_I rfl (ev_ret ⟨rfl, rfl⟩)
def stopV (k : Int) : AVal := .ifc 182 (.agg [vI k])
theorem stop_ok {k : Int} : Ev (tab N (dp + 1) 26 [.gp h 0, vI k] sg) (Rp (fun _ _ => False) (fun v sg' => v = stopV (if k = 0 then 18 else k) ∧ sg' = sg)) := by
  refine ev_of ((t26 ..).trans (heap_Heap_Stop.main ..)) (ev_ite (fun hk => ?_) (fun hk => ?_))
  · have hk : k = 0 := by simpa using hk
    exact ⟨_, rfl, by rw [if_pos hk]; rfl, rfl⟩
  · have hk : k ≠ 0 := by simpa using hk
    exact ⟨_, rfl, by rw [if_neg hk]; rfl, rfl⟩
theorem must_ok : Ev (tab N (dp + 1) 125 [.gp h 0, vI 0] sg) (Rt fun v sg' => sg' = sg) := by
  refine ev_of ((t125 ..).trans (heap_Heap_must.main ..)) (ev_else (by decide) (ev_ret rfl))
theorem must_no {k : Int} (hk : k ≠ 0) : Ev (tab N (dp + 2) 125 [.gp h 0, vI k] sg) (Rp (fun _ _ => False) (fun v sg' => v = stopV k ∧ sg' = sg)) := by
  refine ev_of ((t125 ..).trans (heap_Heap_must.main ..)) (ev_if (by simpa using hk) ?_)
  refine ev_callP stop_ok rfl (fun _ _ h => h.elim) ?_
  rintro _ _ ⟨rfl, rfl⟩
  exact ⟨_, rfl, by rw [if_neg hk], rfl⟩
theorem get_ok {i : Int} (hA : St1 s n size pgs A) (hO : OvOk n over) (hh : Has sg ((h, hpB s m) :: (m, .map (emb vS over)) :: (A ++ R))) (h0 : 0 ≤ i ∧ i < n) :
    Ev (tab N (dp + 3) 23 [.gp h 0, vI i] sg) (Rt fun v sg' => v = vS (cur over pgs i) ∧ sg' = sg) := by
  refine ev_of ((t23 ..).trans (heap_Heap_Get.main ..)) (ev_ldA hh 0 rfl rfl (ev_A rfl ?_))
  refine ev_map hh 1 rfl (ev_O (mGet_emb vS ..) ?_)
  unfold cur
  cases hl : lk i over with
  | some t => exact ev_if rfl (ev_A (a := vS t) rfl (ev_ret ⟨rfl, rfl⟩))
  | none =>
    refine ev_else (by decide) (ev_ldA hh 0 rfl rfl (ev_A rfl ?_))
    refine ev_call (read_ok hA hh.tail.tail) rfl ?_
    rintro _ _ ⟨rfl, rfl⟩
    rw [if_pos h0]
    refine ev_T (ev_bif rfl (ev_S rfl (ev_I rfl ?_)))
    refine ev_call must_ok rfl ?_
    rintro _ _ rfl
    exact ev_ret ⟨rfl, rfl⟩
theorem get_no {i : Int} (hA : St1 s n size pgs A) (hh : Has sg ((h, hpB s m) :: (m, .map (emb vS over)) :: (A ++ R))) (hl : lk i over = none) (h0 : ¬ (0 ≤ i ∧ i < n)) :
    Ev (tab N (dp + 3) 23 [.gp h 0, vI i] sg) (Rp (fun _ _ => False) (fun v sg' => v = stopV 18 ∧ sg' = sg)) := by
  refine ev_of ((t23 ..).trans (heap_Heap_Get.main ..)) (ev_ldA hh 0 rfl rfl (ev_A rfl ?_))
  refine ev_map hh 1 rfl (ev_O (mGet_emb vS ..) ?_)
  rw [hl]
  refine ev_else (by decide) (ev_ldA hh 0 rfl rfl (ev_A rfl ?_))
  refine ev_call (read_ok hA hh.tail.tail) rfl ?_
  rintro _ _ ⟨rfl, rfl⟩
  rw [if_neg h0]
  refine ev_T (ev_bif rfl (ev_S rfl (ev_I rfl ?_)))
  refine ev_callP (must_no (by decide)) rfl (fun _ _ h => h.elim) ?_
  rintro _ _ ⟨rfl, rfl⟩
  exact ⟨_, rfl, rfl, rfl⟩
theorem put_yes {i : Int} {t : ByteArray} (hA : St1 s n size pgs A) (hh : Has sg ((h, hpB s m) :: (m, .map (emb vS over)) :: (A ++ R))) (h0 : 0 ≤ i ∧ i < n) (ht : t.size = 480) :
    Ev (tab N (dp + 3) 20 [.gp h 0, vI i, vS t] sg) (Rt fun v sg' => Has sg' ((h, hpB s m) :: (m, .map (emb vS (insM i t over))) :: (A ++ R))) := by
  refine ev_of ((t20 ..).trans (heap_Heap_Put.main ..)) (ev_if (by simpa using h0.1) ?_)
  refine ev_call (hpages_ok hA hh) rfl ?_
  rintro _ _ ⟨rfl, rfl⟩
  refine ev_I rfl (ev_if (by simpa using h0.2) (ev_else (by simp [ht]) ?_))
  refine ev_ldA hh 0 rfl rfl (ev_A rfl (ev_map hh 1 rfl (ev_O (mSet_emb vS ..) ?_)))
  exact ⟨_, rfl, hh.put (n := 1) _ rfl⟩
theorem put_no {i : Int} {t : ByteArray} (hA : St1 s n size pgs A) (hh : Has sg ((h, hpB s m) :: (m, .map (emb vS over)) :: (A ++ R))) (hb : ¬ ((0 ≤ i ∧ i < n) ∧ t.size = 480)) :
    Ev (tab N (dp + 3) 20 [.gp h 0, vI i, vS t] sg) (Rp (fun _ _ => False) (fun v sg' => v = stopV 18 ∧ sg' = sg)) := by
  refine ev_of ((t20 ..).trans (heap_Heap_Put.main ..)) (ev_ite (fun h1 => ?_) (fun h1 => ?_))
  · have h1 : 0 ≤ i := by simpa using h1
    refine ev_call (hpages_ok hA hh) rfl ?_
    rintro _ _ ⟨rfl, rfl⟩
    refine ev_I rfl (ev_ite (fun h2 => ?_) (fun h2 => ?_))
    · have h2 : i < n := by simpa using h2
      refine ev_if ?_ ?_
      · have : (t.size : Int) ≠ 480 := fun e => hb ⟨⟨h1, h2⟩, by omega⟩
        simpa using this
      · refine ev_callP stop_ok rfl (fun _ _ h => h.elim) ?_
        rintro _ _ ⟨rfl, rfl⟩
        exact ⟨_, rfl, rfl, rfl⟩
    · refine ev_callP stop_ok rfl (fun _ _ h => h.elim) ?_
      rintro _ _ ⟨rfl, rfl⟩
      exact ⟨_, rfl, rfl, rfl⟩
  · refine ev_callP stop_ok rfl (fun _ _ h => h.elim) ?_
    rintro _ _ ⟨rfl, rfl⟩
    exact ⟨_, rfl, rfl, rfl⟩
theorem Ev.rp {r : Option Out} {φ ψ : AVal → Sg → Prop} (h : Ev r (Rt φ)) : Ev r (Rp φ ψ) := h.imp fun o => by
  cases o with
  | ret v sg => exact id
  | pan v sg => exact fun h => h.elim
theorem Ev.pr {r : Option Out} {φ ψ : AVal → Sg → Prop} (h : Ev r (Rp (fun _ _ => False) ψ)) : Ev r (Rp φ ψ) := h.imp fun o => by
  cases o with
  | ret v sg => exact fun h => h.elim
  | pan v sg => exact id
theorem put_ok {i : Int} {t : ByteArray} (hA : St1 s n size pgs A) (hh : Has sg ((h, hpB s m) :: (m, .map (emb vS over)) :: (A ++ R))) :
    Ev (tab N (dp + 3) 20 [.gp h 0, vI i, vS t] sg) (Rp (fun v sg' => ((0 ≤ i ∧ i < n) ∧ t.size = 480) ∧ Has sg' ((h, hpB s m) :: (m, .map (emb vS (insM i t over))) :: (A ++ R)))
      (fun v sg' => v = stopV 18 ∧ sg' = sg)) := by
  by_cases hb : (0 ≤ i ∧ i < n) ∧ t.size = 480
  · exact ((put_yes hA hh hb.1 hb.2).imt fun v sg' h => ⟨hb, h⟩).rp
  · exact (put_no hA hh hb).pr
theorem take_ok (hA : St1 s n size pgs A) (hO : OvOk n over) (hh : Has sg ((h, hpB s m) :: (m, .map (emb vS over)) :: (A ++ R))) (hN : 5000 < N) :
    Ev (tab N (dp + 6) 22 [.gp h 0] sg) (Rp (fun v sg' => ∃ x : Nat, firstF (cur over pgs 1) (n - 2) 2 = some x ∧ v = vI x ∧ Has sg' ((h, hpB s m) :: (m, .map (emb vS (insM x (zeros 480) (insM 1 (setS (cur over pgs 1) x true) over)))) :: (A ++ R)))
      (fun v sg' => firstF (cur over pgs 1) (n - 2) 2 = none ∧ v = stopV 13 ∧ sg' = sg)) := by
  obtain ⟨f1, f2, f3, f4⟩ := hA.facts
  have hb := cur_size (i := 1) hO f1 f2 ⟨by omega, by omega⟩
  refine ev_of ((t22 ..).trans (heap_Heap_Take.main ..)) ?_
  refine ev_call (get_ok (i := 1) hA hO hh ⟨by omega, by omega⟩) rfl ?_
  rintro _ _ ⟨rfl, rfl⟩
  refine ev_S rfl (ev_call (hpages_ok hA hh) rfl ?_)
  rintro _ _ ⟨rfl, rfl⟩
  refine ev_I rfl (ev_call (hpages_ok hA hh) rfl ?_)
  rintro _ _ ⟨rfl, rfl⟩
  have e1 : (bif false then max2 2 (n : Int) else min2 2 (n : Int)) = ((2 : Nat) : Int) := by
    show min2 2 (n : Int) = 2
    unfold min2; split <;> omega
  refine ev_I rfl ?_
  rw [e1]
  refine ev_call (btake_ok (a := 2) (b := n) hb (by omega) f4 hN) rfl ?_
  rintro _ sg1 rfl
  cases hf : firstF (cur over pgs 1) (n - 2) 2 with
  | none =>
    refine ev_O (a := .tup [.sl true 1 [], vS ⟨#[]⟩, vI 13]) rfl (ev_T (ev_bif rfl (ev_A rfl (ev_S rfl (ev_I rfl (ev_bif rfl ?_))))))
    refine ev_callP (must_no (by decide)) rfl (fun _ _ h => h.elim) ?_
    rintro _ _ ⟨rfl, rfl⟩
    exact ⟨_, rfl, rfl, rfl, rfl⟩
  | some x =>
    have hx := firstF_some hf
    refine ev_O (a := .tup [.sl false 1 [vI x], vS (setS (cur over pgs 1) x true), vI 0]) rfl (ev_T (ev_bif rfl (ev_A rfl (ev_S rfl (ev_I rfl (ev_bif rfl ?_))))))
    refine ev_call must_ok rfl ?_
    rintro _ _ rfl
    have hokx := (okI_nat hb (x : Int)).2 ⟨by omega, by omega⟩
    refine ev_call (put_yes (i := 1) hA hh ⟨by omega, by omega⟩ (set_size hokx true)) rfl ?_
    intro _ sg2 h2
    refine ev_O (a := .ep [vI x]) rfl (ev_O (a := ([vI x], 0)) rfl (ev_I rfl ?_))
    refine ev_call (pad_ok (n := 480) (by decide) (by decide)) rfl ?_
    rintro _ _ ⟨rfl, rfl⟩
    refine ev_S rfl (ev_call (put_yes hA h2 ⟨by omega, by omega⟩ (zeros_size _)) rfl ?_)
    intro _ sg3 h3
    refine ev_O (a := .ep [vI x]) rfl (ev_O (a := ([vI x], 0)) rfl (ev_I rfl ?_))
    exact ⟨_, rfl, x, rfl, rfl, h3⟩
theorem give_ok {i : Int} (hA : St1 s n size pgs A) (hO : OvOk n over) (hh : Has sg ((h, hpB s m) :: (m, .map (emb vS over)) :: (A ++ R))) (hN : 5000 < N) :
    Ev (tab N (dp + 6) 25 [.gp h 0, vI i] sg) (Rp (fun v sg' => (2 ≤ i ∧ i < n) ∧ usedS (cur over pgs 1) i = true ∧ Has sg' ((h, hpB s m) :: (m, .map (emb vS (insM 1 (setS (cur over pgs 1) i false) over))) :: (A ++ R)))
      (fun v sg' => ¬ ((2 ≤ i ∧ i < n) ∧ usedS (cur over pgs 1) i = true) ∧ v = stopV 18 ∧ Has sg' ((h, hpB s m) :: (m, .map (emb vS over)) :: (A ++ R)))) := by
  obtain ⟨f1, f2, f3, f4⟩ := hA.facts
  have hb := cur_size (i := 1) hO f1 f2 ⟨by omega, by omega⟩
  refine ev_of ((t25 ..).trans (heap_Heap_Give.main ..)) (ev_ite (fun h1 => ?_) (fun h1 => ?_))
  · have h1 : 2 ≤ i := by simpa using h1
    refine ev_call (hpages_ok hA hh) rfl ?_
    rintro _ _ ⟨rfl, rfl⟩
    refine ev_I rfl (ev_ite (fun h2 => ?_) (fun h2 => ?_))
    · have h2 : (n : Int) ≤ i := by simpa using h2
      refine ev_callP stop_ok rfl (fun _ _ h => h.elim) ?_
      rintro _ _ ⟨rfl, rfl⟩
      exact ⟨_, rfl, fun hx => by omega, rfl, hh⟩
    · have h2 : i < n := by simpa using h2
      refine ev_call (get_ok (i := 1) hA hO hh ⟨by omega, by omega⟩) rfl ?_
      rintro _ _ ⟨rfl, rfl⟩
      refine ev_S rfl (ev_bif rfl ?_)
      have h3 := hh.new (.mk [vI i])
      refine ev_call (bgive_ok (x := i) (H := [(_, .mk [vI i])]) (.inr ⟨_, rfl, rfl⟩) hb h3 (fun q hq => by simp at hq; simp [hq]) (by omega)) rfl ?_
      rintro _ sg2 ⟨rfl, h4⟩
      replace h4 := h4.tail
      unfold turnV
      split
      · rename_i hc
        refine ev_T (ev_bif rfl (ev_S rfl (ev_I rfl ?_)))
        refine ev_call must_ok rfl ?_
        rintro _ _ rfl
        refine ev_call (put_yes (i := 1) hA h4 ⟨by omega, by omega⟩ (set_size hc.1 false)) rfl ?_
        intro _ sg3 h5
        exact ⟨_, rfl, ⟨h1, h2⟩, hc.2, h5⟩
      · rename_i hc
        refine ev_T (ev_bif rfl (ev_S rfl (ev_I rfl ?_)))
        refine ev_callP (must_no (by decide)) rfl (fun _ _ h => h.elim) ?_
        rintro _ _ ⟨rfl, rfl⟩
        exact ⟨_, rfl, fun hx => hc ⟨(okI_nat hb i).2 ⟨by omega, by omega⟩, hx.2⟩, rfl, h4⟩
  · have h1 : ¬ 2 ≤ i := by
      have : i < 2 := by simpa using h1
      omega
    refine ev_callP stop_ok rfl (fun _ _ h => h.elim) ?_
    rintro _ _ ⟨rfl, rfl⟩
    exact ⟨_, rfl, fun hx => h1 hx.1.1, rfl, hh⟩
theorem hfree_ok (hA : St1 s n size pgs A) (hO : OvOk n over) (hh : Has sg ((h, hpB s m) :: (m, .map (emb vS over)) :: (A ++ R))) (hN : 5000 < N) :
    Ev (tab N (dp + 4) 27 [.gp h 0] sg) (Rt fun v sg' => v = vI ((n - 2 : Int) - cnt (cur over pgs 1) (n - 2) 2) ∧ sg' = sg) := by
  obtain ⟨f1, f2, f3, f4⟩ := hA.facts
  have hb := cur_size (i := 1) hO f1 f2 ⟨by omega, by omega⟩
  refine ev_of ((t27 ..).trans (heap_Heap_Free.main ..)) ?_
  refine ev_call (hpages_ok hA hh) rfl ?_
  rintro _ _ ⟨rfl, rfl⟩
  refine ev_I rfl (ev_call (get_ok (i := 1) hA hO hh ⟨by omega, by omega⟩) rfl ?_)
  rintro _ _ ⟨rfl, rfl⟩
  refine ev_S rfl (ev_call (hpages_ok hA hh) rfl ?_)
  rintro _ _ ⟨rfl, rfl⟩
  refine ev_I rfl (ev_call (many_ok (n := n) hb (by omega) f4 hN) rfl ?_)
  rintro _ _ ⟨rfl, rfl⟩
  have hc := cnt_le (cur over pgs 1) (n - 2) 2
  refine ev_I rfl (ev_ret ⟨?_, rfl⟩)
  rw [i64_in (n := (n : Int) - 2) (by omega), i64_in (by omega)]
end Go.Abs
