/- THE STORE OF PAGES, while the disk does not fail. -/
import Derived.Test.YtimoaolannkpcaaGreatRepX
set_option linter.unusedVariables false
set_option linter.unusedSimpArgs false
set_option linter.unusedSectionVars false
namespace Go.Abs
open Go
set_option linter.unusedVariables false
set_option maxRecDepth 100000
def stB (d size p n m : Nat) (jv : AVal) (wt : Int) : Box := .mk [.gp d 0, vI size, .gs p 1 0 n, .gm m, jv, vI wt]
theorem insI_pm (x : Int) : ∀ l, (insI x l).Perm (x :: l)
  | [] => List.Perm.refl _
  | y :: l => by
    simp only [insI]; split
    · exact List.Perm.refl _
    · exact ((insI_pm x l).cons y).trans (List.Perm.swap x y l)
theorem sortI_pm : ∀ l, (sortI l).Perm l
  | [] => List.Perm.refl _
  | x :: l => (insI_pm x (sortI l)).trans ((sortI_pm l).cons x)
/-- Which pages are fresh: numbers below n, none twice. -/
structure FrOk (n : Nat) (l : List (Int × Unit)) : Prop where
  nd : (l.map (·.1)).Nodup
  rg : ∀ x : Int, x ∈ l.map (·.1) → 0 ≤ x ∧ x < (n : Int)
theorem FrOk.len {n : Nat} {l : List (Int × Unit)} (h : FrOk n l) : l.length ≤ n := by
  have := len_le_of_nodup h.nd h.rg
  simpa using this
theorem FrOk.ins {n : Nat} {l : List (Int × Unit)} (h : FrOk n l) {x : Int} (hx : 0 ≤ x ∧ x < n) : FrOk n (insM x () l) :=
  ⟨nodup_ins h.nd, fun y hy => by
    rcases keys_ins.1 hy with rfl | hy
    · exact hx
    · exact h.rg y hy⟩
/-- What a store of pages holds: its boxes A, at s; n pages with these texts; the journal's size, and where its next transaction begins. -/
def StA (s n size at_ : Nat) (pgs : List ByteArray) (A : Hp) : Prop := ∃ d p m j ep num wt l k Ad, A = (s, stB d size p n m (.gp j 0) wt) :: (p, .mk (pgs.map vS)) :: (m, .map (emb tV l)) :: (j, jnB d size ep at_ num) :: Ad ∧
  Dk (1 + size + n) k d Ad ∧ k ≤ at_ ∧ at_ ≤ size ∧ pgs.length = n ∧ FrOk n l ∧ (∀ t, t ∈ pgs → t.size = 480) ∧ 8 ≤ n ∧ n ≤ 3840 ∧ 4 ≤ size ∧ size ≤ 1024
def St1 (s n size : Nat) (pgs : List ByteArray) (A : Hp) : Prop := ∃ at_, StA s n size at_ pgs A
variable {N dp : Nat} {sg : Sg} {s d p m n k size : Nat} {jv : AVal} {wt ep : Int} {A R : Hp}
theorem sizes_ok {a b : Int} : Ev (tab N (dp + 1) 148 [vI a, vI b] sg) (Rt fun v _ => v = vB (decide (8 ≤ a ∧ a ≤ 3840 ∧ 4 ≤ b ∧ b ≤ 1024))) := by
  refine ev_of ((t148 ..).trans (pages_sizes.main ..)) ?_
  refine ev_ite (fun h1 => ev_ite (fun h2 => ev_ite (fun h3 => ev_ret ?_) (fun h3 => ev_ret ?_)) (fun h2 => ev_ret ?_)) (fun h1 => ev_ret ?_)
  · have h1 : 8 ≤ a := by simpa using h1
    have h2 : a ≤ 3840 := by simpa using h2
    have h3 : 4 ≤ b := by simpa using h3
    simp [h1, h2, h3]
  · have h3 : ¬ 4 ≤ b := by simpa using h3
    simp [h3]
  · have h3 : ¬ a ≤ 3840 := by simpa using h2
    simp [h3]
  · have h3 : ¬ 8 ≤ a := by simpa using h1
    simp [h3]
theorem size_ok {a b : Int} : Ev (tab N (dp + 2) 41 [vI a, vI b] sg) (Rt fun v sg' => v = (if 8 ≤ a ∧ a ≤ 3840 ∧ 4 ≤ b ∧ b ≤ 1024 then .tup [vI (1 + b + a), vI 0] else .tup [vI 0, vI 18]) ∧ sg' = sg) := by
  refine ev_of ((t41 ..).trans (pages_Size.main ..)) ?_
  refine ev_call sizes_ok rfl ?_
  rintro _ _ rfl
  refine ev_B rfl (ev_ite (fun h => ev_ret ⟨?_, rfl⟩) (fun h => ev_ret ⟨?_, rfl⟩))
  · have h : ¬ (8 ≤ a ∧ a ≤ 3840 ∧ 4 ≤ b ∧ b ≤ 1024) := by simpa only [Bool.not_eq_true', decide_eq_false_iff_not] using h
    rw [if_neg h]
  · have h : 8 ≤ a ∧ a ≤ 3840 ∧ 4 ≤ b ∧ b ≤ 1024 := by simpa only [Bool.not_eq_true', decide_eq_false_iff_not, Classical.not_not] using h
    rw [if_pos h, i64_in (n := 1 + b) (by omega), i64_in (by omega)]
theorem head_ok {a b e : Int} (ha : 0 ≤ a ∧ a ≤ 65535) (hb : 0 ≤ b ∧ b ≤ 65535) (hN : 10 < N) : Ev (tab N (dp + 4) 237 [vI a, vI b, vU e] []) (Rt fun v _ => ∃ t, v = .tup [vS t, vI 0] ∧ t.size = 512) := by
  refine ev_of ((t237 ..).trans (pages_head.main ..)) ?_
  refine ev_call (pad_ok (n := 480) (by decide) (by decide)) rfl ?_
  rintro _ _ ⟨rfl, rfl⟩
  refine ev_S rfl (ev_call (seal_ok (by decide) ha hb (zeros_size _) hN) rfl ?_)
  rintro _ _ ⟨t, rfl, ht⟩
  exact ev_T (ev_bif rfl (ev_S rfl (ev_I rfl (ev_ret ⟨t, rfl, ht⟩))))
theorem swrite_ok (hA : Dk (1 + size + n) k d A) (h : Has sg ((s, stB d size p n m jv wt) :: (A ++ R))) (hn : n ≤ 3840) (h4 : 4 ≤ size) (hs : size ≤ 1024) (hk : k < 100000) (hN : 200000 < N) :
    Ev (tab N (dp + 5) 134 [.gp s 0, vU ep] sg) (Rt fun v sg' => v = vI 0 ∧ ∃ j A', Dk (1 + size + n) 0 d A' ∧ Has sg' ((s, stB d size p n m (.gp j 0) wt) :: (j, jnB d size ep 0 0) :: (A' ++ R))) := by
  refine ev_of ((t134 ..).trans (pages_Store_write.main ..)) ?_
  refine ev_ldA h 0 rfl rfl (ev_O (a := n) rfl ?_)
  refine ev_ldI h 0 rfl rfl ?_
  refine ev_call (head_ok ⟨by omega, by omega⟩ ⟨by omega, by omega⟩ (by omega)) rfl ?_
  rintro _ _ ⟨t, rfl, ht⟩
  refine ev_T (ev_bif rfl (ev_S rfl (ev_I rfl (ev_else (by decide) ?_))))
  refine ev_ldA h 0 rfl rfl (ev_A rfl ?_)
  refine ev_call (dk_write (i := 0) hA h.rot (by omega) ht (by omega)) rfl ?_
  rintro _ sg1 ⟨rfl, A1, hA1, h1⟩
  replace h1 := h1.tor
  refine ev_I rfl (ev_else (by decide) ?_)
  refine ev_ldA h1 0 rfl rfl (ev_A rfl ?_)
  refine ev_call (dk_flush hA1 h1.rot (by omega) (by omega)) rfl ?_
  rintro _ sg2 ⟨rfl, A2, hA2, h2⟩
  refine ev_I rfl (ev_else (by decide) ?_)
  refine ev_ldA h2.tor 0 rfl rfl ?_
  refine ev_ldI h2.tor 0 rfl rfl (ev_A rfl ?_)
  refine ev_call (jopen_ok hA2 h2 h4 hs (by omega)) rfl ?_
  rintro _ sg3 ⟨j, rfl, h3⟩
  refine ev_T (ev_bif rfl (ev_A rfl (ev_I rfl (ev_A rfl ?_))))
  have h5 : Has sg3 ((s, stB d size p n m jv wt) :: (j, jnB d size ep 0 0) :: (A2 ++ R)) := Has.tor (A := (j, jnB d size ep 0 0) :: A2) h3
  refine ev_st h5 0 rfl rfl (Nat.le_of_ble_eq_true rfl) (Nat.succ_pos _) fun sg4 h6 => ?_
  exact ev_ret ⟨rfl, j, A2, hA2, h6⟩
theorem held_ok {d : Nat} (h : Has sg R) (h1 : 1 ≤ n) (h2 : n ≤ 3840) (hN : 5000 < N) :
    Ev (tab N (dp + 4) 133 [.gp d 0, vI n, vI size] sg) (Rt fun v sg' => ∃ s p m, v = .gp s 0 ∧ Has sg' ((s, stB d size p n m (.at (.pointer none)) 0) :: (p, .mk ((List.replicate n (zeros 480)).map vS)) :: (m, .map (emb tV [])) :: R)) := by
  refine ev_of ((t133 ..).trans (pages_held.main ..)) ?_
  refine ev_call (pad_ok (n := 480) (by decide) (by decide)) rfl ?_
  rintro _ _ ⟨rfl, rfl⟩
  refine ev_S rfl (ev_bif rfl ?_)
  refine ev_call (repeat_ok (h.new _) h1 (by omega) hN) rfl ?_
  rintro _ sg1 ⟨p, rfl, h3⟩
  refine ev_A rfl (ev_bif rfl (ev_L (ev_ret ?_)))
  refine ⟨(sg1 ++ [Box.map []]).length, p, sg1.length, rfl, ?_⟩
  have h4 := (h3.new (.map [])).new (stB d size p n sg1.length (.at (.pointer none)) 0)
  have h5 : Has (sg1 ++ [Box.map []] ++ [stB d size p n sg1.length (.at (.pointer none)) 0]) ((List.length (sg1 ++ [Box.map []]), stB d size p n sg1.length (.at (.pointer none)) 0) :: (p, .mk ((List.replicate n (zeros 480)).map vS)) :: (sg1.length, .map (emb tV [])) :: R) := by
    rw [List.map_replicate]
    exact h4.perm ((List.Perm.swap _ _ _).cons _)
  exact h5
theorem format_ok (hA : Dk (1 + size + n) k d A) (h : Has sg (A ++ R)) (h1 : 8 ≤ n) (h2 : n ≤ 3840) (h3 : 4 ≤ size) (h4 : size ≤ 1024) (hk : k < 50000) (hN : 200000 < N) :
    Ev (tab N (dp + 6) 29 [.gp d 0, vI n, vI size] sg) (Rt fun v sg' => ∃ s A', v = .tup [.gp s 0, vI 0] ∧ St1 s n size (List.replicate n (zeros 480)) A' ∧ Has sg' (A' ++ R)) := by
  refine ev_of ((t29 ..).trans (pages_Format.main ..)) ?_
  refine ev_call size_ok rfl ?_
  rintro _ _ ⟨rfl, rfl⟩
  rw [if_pos ⟨by omega, by omega, by omega, by omega⟩]
  refine ev_T (ev_bif rfl (ev_I rfl (ev_I rfl (ev_if rfl ?_))))
  refine ev_call (dk_len hA h) rfl ?_
  rintro _ _ ⟨rfl, rfl⟩
  refine ev_I rfl (ev_else (by simp <;> omega) ?_)
  refine ev_loop (size + n) (fun i st => ∃ sg' A' k', st = mkS [0, 1, 2, 8, 10] [.v (.gp d 0) false, .v (vI n) false, .v (vI size) false, .v (vI (1 + size + n)) false, .v (vI (1 + i : Nat)) false] [none, none, none, none, none] (.sg sg') ∧
    Dk (1 + size + n) k' d A' ∧ k' = k + i ∧ Has sg' (A' ++ R)) (by omega) ⟨_, A, k, rfl, hA, rfl, h⟩ ?_
  rintro i st K hi ⟨sg1, A1, k1, rfl, hA1, hk1, h5⟩ hnext hexit hret
  refine ev_of (pages_Format.r0 ..) ?_
  refine ev_ite (fun hlt => ?_) (fun hge => ?_)
  · have hlt : i < size + n := by
      have : ((1 + i : Nat) : Int) < 1 + size + n := by simpa using hlt
      omega
    refine ev_call blank_ok rfl ?_
    rintro _ _ rfl
    refine ev_S rfl ?_
    refine ev_call (dk_write hA1 h5 (by omega) (zeros_size _) (by omega)) rfl ?_
    rintro _ sg2 ⟨rfl, A2, hA2, h6⟩
    refine ev_I rfl (ev_else (by decide) ?_)
    rw [i64_nat (by omega)]
    exact hnext _ hlt ⟨sg2, A2, _, rfl, hA2, by omega, h6⟩
  · refine hexit _ _ ?_
    refine ev_of (pages_Format.k0_2 ..) ?_
    refine ev_call (dk_flush hA1 h5 (by omega) (by omega)) rfl ?_
    rintro _ sg2 ⟨rfl, A2, hA2, h6⟩
    refine ev_I rfl (ev_else (by decide) ?_)
    refine ev_call (held_ok h6 (by omega) h2 (by omega)) rfl ?_
    rintro _ sg3 ⟨s, p, m, rfl, h7⟩
    refine ev_A rfl ?_
    have h8 : Has sg3 ((s, stB d size p n m (.at (.pointer none)) 0) :: (A2 ++ ([(p, .mk ((List.replicate n (zeros 480)).map vS)), (m, .map (emb tV []))] ++ R))) :=
      h7.perm ((List.perm_append_comm_assoc [_, _] A2 R).cons _)
    refine ev_call (swrite_ok (ep := 1) hA2 h8 h2 h3 h4 (by omega) hN) rfl ?_
    rintro _ sg4 ⟨rfl, j, A3, hA3, h9⟩
    refine ev_I rfl (ev_else (by decide) (ev_A rfl (ev_ret ?_)))
    refine ⟨s, _, rfl, ⟨0, d, p, m, j, 1, 0, 0, [], 0, A3, rfl, hA3, by omega, by omega, by simp, ⟨by simp, by simp⟩, fun t ht => ?_, h1, h2, h3, h4⟩, ?_⟩
    · rw [(List.mem_replicate.1 ht).2]; exact zeros_size _
    · have h10 : Has sg4 ((s, stB d size p n m (.gp j 0) 0) :: (((j, jnB d size 1 0 0) :: A3) ++ ([(p, .mk ((List.replicate n (zeros 480)).map vS)), (m, .map (emb tV []))] ++ R))) := h9
      have h11 : Has sg4 ((s, stB d size p n m (.gp j 0) 0) :: ([(p, .mk ((List.replicate n (zeros 480)).map vS)), (m, .map (emb tV []))] ++ (((j, jnB d size 1 0 0) :: A3) ++ R))) :=
        h10.perm ((List.perm_append_comm_assoc _ _ _).cons _)
      exact h11
end Go.Abs
