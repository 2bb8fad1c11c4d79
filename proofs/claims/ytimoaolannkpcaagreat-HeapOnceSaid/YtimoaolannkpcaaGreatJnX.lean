/- THE JOURNAL in the store, while the disk does not fail. -/
import Derived.Test.YtimoaolannkpcaaGreatSecX
set_option linter.unusedVariables false
set_option linter.unusedSimpArgs false
set_option linter.unusedSectionVars false
namespace Go.Abs
open Go
set_option linter.unusedVariables false
set_option maxRecDepth 100000
/-- Images, by value. -/
def imV (l : List (Int × ByteArray)) : List AVal := l.map fun p => .agg [vI p.1, vS p.2]
theorem imV_len (l : List (Int × ByteArray)) : (imV l).length = l.length := List.length_map ..
theorem imV_at {l : List (Int × ByteArray)} {i : Nat} (h : i < l.length) : (imV l)[i]? = some (.agg [vI l[i].1, vS l[i].2]) := by
  simp [imV, List.getElem?_map, List.getElem?_eq_getElem h]
def jnB (d : Nat) (size : Nat) (ep : Int) (at_ : Nat) (num : Int) : Box := .mk [.gp d 0, vI size, vU ep, vI at_, vU num]
section
variable {Q : Out → Prop} {sg : Sg}
/-- An element of a list by value, read as a struct. -/
theorem ev_elemS {sz m : Nat} {i : Int} {nn : Bool} {l : List AVal} {cs : List AVal} {c : List AVal → R} (h0 : 0 ≤ i) (e : l[i.toNat]? = some (.agg cs)) (hm : cs.length = m) (hs : sz = m) (h : Ev (c cs) Q) :
    Ev (withO (elemV sz i (.sl nn sz l)) fun r => withO (loadC none sg r) fun p => bif (p.snd + m).ble p.fst.length then bindL (List.take m (List.drop p.snd p.fst)) c else none) Q := by
  subst hs
  have e1 : elemV sz i (.sl nn sz l) = some (.ep cs) := by
    simp only [elemV, Nat.beq_refl, cond_true, if_pos h0, e, withA, AVal.cells, hm]
  rw [e1]
  show Ev (bif (0 + sz).ble cs.length then bindL (List.take sz (List.drop 0 cs)) c else none) Q
  refine ev_bif (Nat.ble_eq_true_of_le (by omega)) ?_
  rw [List.drop_zero, ← hm, List.take_length]
  exact h
end
def flatI : List (Int × ByteArray) → List AVal
  | [] => []
  | p :: l => vI p.1 :: vS p.2 :: flatI l
theorem flatI_len : ∀ l, (flatI l).length = 2 * l.length
  | [] => rfl
  | p :: l => by simp [flatI, flatI_len l]; omega
theorem flatI_app (p : Int × ByteArray) : ∀ l, flatI (l ++ [p]) = flatI l ++ [vI p.1, vS p.2]
  | [] => rfl
  | q :: l => by simp [flatI, flatI_app p l]
theorem flatI_at : ∀ (l : List (Int × ByteArray)) (i : Nat) (p : Int × ByteArray), l[i]? = some p → ((flatI l).drop (i * 2)).take 2 = [vI p.1, vS p.2]
  | [], i, p, h => by simp at h
  | q :: l, 0, p, h => by
    simp at h; subst h; simp [flatI]
  | q :: l, i + 1, p, h => by
    have e : (i + 1) * 2 = (i * 2 + 1) + 1 := by omega
    rw [e]
    simp only [flatI, List.drop_succ_cons]
    exact flatI_at l i p (by simpa using h)
/-- Images: by value, or in a box. -/
def ImH (a : AVal) (l : List (Int × ByteArray)) (H : Hp) : Prop := (∃ nn, a = .sl nn 2 (imV l) ∧ H = []) ∨ ∃ g, a = .gs g 2 0 l.length ∧ H = [(g, .mk (flatI l))]
theorem ImH.len {a : AVal} {l : List (Int × ByteArray)} {H : Hp} (h : ImH a l H) : lenV a = some l.length := by
  rcases h with ⟨nn, rfl, rfl⟩ | ⟨g, rfl, rfl⟩
  · simp [lenV, imV_len]
  · rfl
theorem ImH.plain {a : AVal} {l : List (Int × ByteArray)} {H : Hp} (h : ImH a l H) : plainA a = some a := by
  rcases h with ⟨nn, rfl, rfl⟩ | ⟨g, rfl, rfl⟩ <;> rfl
theorem ev_im {Q : Out → Prop} {sg : Sg} {L H : Hp} {a : AVal} {l : List (Int × ByteArray)} {i : Nat} {c : List AVal → Option Out} (hI : ImH a l H) (hL : Has sg L) (hs : ∀ q, q ∈ H → q ∈ L) (hi : i < l.length) (h : Ev (c [vI l[i].1, vS l[i].2]) Q) :
    Ev (withO (elemV 2 ((i : Nat) : Int) a) fun r => withO (loadC none sg r) fun p => bif (p.snd + 2).ble p.fst.length then bindL (List.take 2 (List.drop p.snd p.fst)) c else none) Q := by
  rcases hI with ⟨nn, rfl, rfl⟩ | ⟨g, rfl, rfl⟩
  · exact ev_elemS (by omega) (imV_at hi) rfl rfl h
  · obtain ⟨n, hn⟩ := List.mem_iff_getElem?.1 (hs (g, .mk (flatI l)) (by simp))
    refine ev_elem (by omega) (Int.ofNat_lt.2 hi) ?_
    have e1 : 0 + ((i : Nat) : Int).toNat * 2 = i * 2 := by simp
    rw [e1]
    exact ev_ldG hL n hn (flatI_at l i _ (List.getElem?_eq_getElem hi)) rfl (by decide) h
variable {N dp : Nat} {sg : Sg} {j d n size k at_ : Nat} {ep num : Int} {A R H : Hp} {a1 : AVal}
theorem room_ok (h : Has sg ((j, jnB d size ep at_ num) :: R)) (h1 : at_ ≤ size) (h2 : size ≤ 1024) : Ev (tab N (dp + 1) 146 [.gp j 0] sg) (Rt fun v sg' => v = vI ((size - at_ : Nat) : Int) ∧ sg' = sg) := by
  refine ev_of ((t146 ..).trans (journal_Journal_Room.main ..)) ?_
  refine ev_else (by decide) ?_
  refine ev_ldI h 0 rfl rfl ?_
  refine ev_ldI h 0 rfl rfl (ev_ret ⟨?_, rfl⟩)
  rw [i64_in (by omega)]
  congr 3; omega
theorem epoch_ok (h : Has sg ((j, jnB d size ep at_ num) :: R)) : Ev (tab N (dp + 1) 147 [.gp j 0] sg) (Rt fun v sg' => v = vU ep ∧ sg' = sg) := by
  refine ev_of ((t147 ..).trans (journal_Journal_Epoch.main ..)) ?_
  refine ev_else (by decide) ?_
  exact ev_ldI h 0 rfl rfl (ev_ret ⟨rfl, rfl⟩)
theorem jopen_ok (hA : Dk n k d A) (h : Has sg (A ++ R)) (h1 : 4 ≤ size) (h2 : size ≤ 1024) (h3 : size < n) :
    Ev (tab N (dp + 2) 238 [.gp d 0, vI size, vU ep] sg) (Rt fun v sg' => ∃ j, v = .tup [.gp j 0, vI 0] ∧ Has sg' ((j, jnB d size ep 0 0) :: (A ++ R))) := by
  refine ev_of ((t238 ..).trans (journal_Open.main ..)) ?_
  refine ev_if (by decide) (ev_if (by simp; omega) (ev_if (by simp; omega) ?_))
  refine ev_call (dk_len hA h) rfl ?_
  rintro _ _ ⟨rfl, rfl⟩
  refine ev_I rfl (ev_else (by simp; omega) (ev_ret ⟨_, rfl, h.new _⟩))
theorem jwrite_ok {kind e0 n0 a m : Int} {i : Nat} {p : ByteArray} (hA : Dk n k d A) (h : Has sg ((j, jnB d size ep at_ num) :: (A ++ R))) (hk : 1 ≤ kind ∧ kind ≤ 4) (ha : 0 ≤ a ∧ a ≤ 65535) (hm : 0 ≤ m ∧ m ≤ 65535) (hp : p.size = 480) (hN : 10 < N)
    (hi : 1 + at_ + i < n) (hn : n ≤ 100000) (hkk : k < 1073741824) :
    Ev (tab N (dp + 4) 249 [.gp j 0, vI i, secV kind e0 n0 a m p] sg) (Rt fun v sg' => v = vI 0 ∧ ∃ A', Dk n (k + 1) d A' ∧ Has sg' ((j, jnB d size ep at_ num) :: (A' ++ R))) := by
  refine ev_of ((t249 ..).trans (journal_Journal_write.main ..)) ?_
  refine ev_ldI h 0 rfl rfl ?_
  refine ev_ldI h 0 rfl rfl ?_
  refine ev_call (seal_ok hk ha hm hp hN) rfl ?_
  rintro _ _ ⟨s, rfl, hs⟩
  refine ev_T (ev_bif rfl (ev_S rfl (ev_I rfl (ev_else (by decide) ?_))))
  refine ev_ldA h 0 rfl rfl ?_
  refine ev_ldI h 0 rfl rfl ?_
  refine ev_A rfl ?_
  have e : IntKind.i64.wrap (IntKind.i64.wrap (1 + (at_ : Int)) + (i : Int)) = ((1 + at_ + i : Nat) : Int) := by
    rw [i64_in (n := 1 + (at_ : Int)) (by omega), i64_in (by omega)]; omega
  rw [e]
  refine ev_call (dk_write hA h.rot hi hs hkk) rfl ?_
  rintro _ sg1 ⟨rfl, A', hA', h1⟩
  exact ev_I rfl (ev_ret ⟨rfl, A', hA', h1.tor⟩)
theorem jpage_ok {p : Int} (h1 : 0 ≤ p) (h2 : p < 3840) : Ev (tab N (dp + 1) 246 [vI p] sg) (Rt fun v _ => v = vB true) := by
  refine ev_of ((t246 ..).trans (journal_page.main ..)) ?_
  refine ev_if (by simpa using h1) (ev_ret ?_)
  rw [decide_eq_true h2]
/-- Images of pages below n, none twice. -/
structure ImOk (n : Nat) (l : List (Int × ByteArray)) : Prop where
  nd : (l.map (·.1)).Nodup
  rg : ∀ p, p ∈ l → (0 ≤ p.1 ∧ p.1 < n) ∧ p.2.size = 480
def tV (_ : Unit) : AVal := vB true
theorem jcheck_ok {l : List (Int × ByteArray)} (hI : ImH a1 l H) (hl : ImOk n l) (hn : n ≤ 3840) (hne : l ≠ []) (hN : l.length < N) (hlen : l.length ≤ 100000) (h : Has sg R) (hs : ∀ q, q ∈ H → q ∈ R) :
    Ev (tab N (dp + 2) 139 [a1] sg) (Rt fun v sg' => v = vI 0 ∧ Has sg' R) := by
  refine ev_of ((t139 ..).trans (journal_Check.main ..)) ?_
  refine ev_O hI.len ?_
  have h0 := h.new (Box.map [])
  generalize sg.length = g at h0 ⊢
  refine ev_loop l.length (fun i st => ∃ sg' ms, st = mkS [0, 3, 7, 8, 9] [.v a1 false, .v (.gm g) false, .v a1 false, .v (vI l.length) false, .v (vI i) false] [none, none, none, none, none] (.sg sg') ∧
    Has sg' ((g, .map (emb tV ms)) :: R) ∧ ∀ x, x ∈ ms.map (·.1) ↔ x ∈ (l.take i).map (·.1)) hN ⟨_, [], rfl, h0, by simp⟩ ?_
  rintro i st K hi ⟨sg1, ms, rfl, h1, hms⟩ hnext hexit hret
  refine ev_of (journal_Check.r0 ..) ?_
  refine ev_ite (fun hlt => ?_) (fun hge => ?_)
  · have hlt : i < l.length := by simpa using hlt
    obtain ⟨hr1, hr2⟩ := hl.rg l[i] (List.getElem_mem hlt)
    refine ev_im hI h1 (fun q hq => List.mem_cons_of_mem _ (hs q hq)) hlt (ev_bif rfl (ev_L ?_))
    refine ev_I rfl (ev_call (jpage_ok hr1.1 (by omega)) rfl ?_)
    rintro _ _ rfl
    refine ev_B rfl (ev_if rfl (ev_S rfl (ev_if (by simp [hr2]) (ev_I rfl (ev_A rfl ?_)))))
    refine ev_map h1 0 rfl ?_
    refine ev_O (mGet_emb tV ..) ?_
    have hnot : l[i].1 ∉ ms.map (·.1) := by
      rw [hms]
      intro hm
      obtain ⟨q, hq, he⟩ := List.mem_map.1 hm
      obtain ⟨jj, hj, hje⟩ := List.mem_iff_getElem.1 hq
      rw [List.length_take] at hj
      rw [List.getElem_take] at hje
      have e1 : (l.map (·.1))[jj]? = some l[i].1 := by
        rw [List.getElem?_map, List.getElem?_eq_getElem (by omega), hje]; simp [he]
      have e2 : (l.map (·.1))[i]? = some l[i].1 := by rw [List.getElem?_map, List.getElem?_eq_getElem hlt]; rfl
      have := (List.getElem?_inj (by rw [List.length_map]; omega) hl.nd).1 (e1.trans e2.symm)
      omega
    rw [lk_none.2 hnot]
    refine ev_A rfl (ev_B rfl (ev_else (by decide) ?_))
    refine ev_I rfl (ev_A rfl ?_)
    refine ev_map h1 0 rfl ?_
    refine ev_O (mSet_emb tV _ () _) ?_
    rw [i64_nat (by omega)]
    refine hnext _ hlt ⟨_, _, rfl, h1.put (n := 0) _ rfl, fun x => ?_⟩
    have e : (l.take (i + 1)).map (·.1) = (l.take i).map (·.1) ++ [l[i].1] := by
      rw [List.take_add_one, List.getElem?_eq_getElem hlt, List.map_append]; rfl
    rw [keys_ins, hms, e, List.mem_append, List.mem_singleton, or_comm]
  · have hge : i = l.length := by
      have : l.length ≤ i := by simpa using hge
      omega
    refine hexit _ _ ?_
    refine ev_of (journal_Check.k0_2 ..) ?_
    refine ev_O hI.len ?_
    have : l.length ≠ 0 := fun h => hne (List.eq_nil_of_length_eq_zero h)
    exact ev_else (by simp; omega) (ev_ret ⟨rfl, h1.tail⟩)
theorem append_ok {l : List (Int × ByteArray)} (hI : ImH a1 l H) (hA : Dk n k d A) (h : Has sg ((j, jnB d size ep at_ num) :: (A ++ R))) (hl : ImOk 3840 l) (hne : l ≠ []) (hroom : at_ + l.length < size) (hs : size ≤ 1024) (hn : size < n) (hn2 : n ≤ 100000)
    (hN : 2000 < N) (hk : k + 2000 < 1073741824) (hH : ∀ q, q ∈ H → q ∈ R) :
    Ev (tab N (dp + 5) 142 [.gp j 0, a1] sg) (Rt fun v sg' => v = vI 0 ∧ ∃ num' A', Dk n (k + l.length + 1) d A' ∧ Has sg' ((j, jnB d size ep (at_ + l.length + 1) num') :: (A' ++ R))) := by
  refine ev_of ((t142 ..).trans (journal_Journal_Append.main ..)) ?_
  refine ev_if (by decide) (ev_A hI.plain ?_)
  refine ev_call (jcheck_ok hI hl (Nat.le_refl _) hne (by omega) (by omega) h (fun q hq => by simp [hH q hq])) rfl ?_
  rintro _ sg1 ⟨rfl, h1⟩
  refine ev_I rfl (ev_else (by decide) ?_)
  have eL := hI.len
  refine ev_O eL ?_
  refine ev_call (room_ok h1 (by omega) hs) rfl ?_
  rintro _ _ ⟨rfl, rfl⟩
  refine ev_I rfl (ev_else (by simp; omega) ?_)
  refine ev_O eL ?_
  refine ev_loop l.length (fun i st => ∃ sg' A', st = mkS [0, 1, 24, 25, 26] [.v (.gp j 0) false, .v a1 false, .v a1 false, .v (vI l.length) false, .v (vI i) false] [none, none, none, none, none] (.sg sg') ∧
    Dk n (k + i) d A' ∧ Has sg' ((j, jnB d size ep at_ num) :: (A' ++ R))) (by omega) ⟨_, A, rfl, hA, h1⟩ ?_
  rintro i st K hi ⟨sg2, A2, rfl, hA2, h2⟩ hnext hexit hret
  refine ev_of (journal_Journal_Append.r0 ..) ?_
  refine ev_ite (fun hlt => ?_) (fun hge => ?_)
  · have hlt : i < l.length := by simpa using hlt
    obtain ⟨hr1, hr2⟩ := hl.rg l[i] (List.getElem_mem hlt)
    refine ev_im hI h2 (fun q hq => by simp [hH q hq]) hlt (ev_bif rfl (ev_L ?_))
    refine ev_I rfl (ev_S rfl ?_)
    refine ev_call (jwrite_ok hA2 h2 (by decide) ⟨hr1.1, by omega⟩ ⟨by omega, by omega⟩ hr2 (by omega) (by omega) hn2 (by omega)) rfl ?_
    rintro _ sg3 ⟨rfl, A3, hA3, h3⟩
    refine ev_I rfl (ev_else (by decide) ?_)
    rw [i64_nat (by omega)]
    exact hnext _ hlt ⟨_, A3, rfl, hA3, h3⟩
  · have hge : i = l.length := by
      have : l.length ≤ i := by simpa using hge
      omega
    subst hge
    refine hexit _ _ ?_
    refine ev_of (journal_Journal_Append.k0_2 ..) ?_
    refine ev_O eL ?_
    refine ev_call (pad_ok (n := 480) (by decide) (by decide)) rfl ?_
    rintro _ _ ⟨rfl, rfl⟩
    refine ev_S rfl (ev_O eL ?_)
    refine ev_call (jwrite_ok hA2 h2 (by decide) (by decide) ⟨by omega, by omega⟩ (zeros_size _) (by omega) (by omega) hn2 (by omega)) rfl ?_
    rintro _ sg3 ⟨rfl, A3, hA3, h3⟩
    refine ev_I rfl (ev_else (by decide) ?_)
    refine ev_ldI h3 0 rfl rfl (ev_O eL ?_)
    refine ev_st h3 0 rfl rfl (Nat.le_of_ble_eq_true rfl) (Nat.succ_pos _) fun sg4 h4 => ?_
    refine ev_ldI h4 0 rfl rfl ?_
    refine ev_st h4 0 rfl rfl (Nat.le_of_ble_eq_true rfl) (Nat.succ_pos _) fun sg5 h5 => ?_
    have e : IntKind.i64.wrap ((at_ : Int) + IntKind.i64.wrap ((l.length : Int) + 1)) = ((at_ + l.length + 1 : Nat) : Int) := by
      rw [i64_in (n := (l.length : Int) + 1) (by omega), i64_in (by omega)]; omega
    refine ev_ret ⟨rfl, IntKind.u64.wrap (num + 1), A3, hA3, ?_⟩
    rw [e] at h5
    exact h5
end Go.Abs
