/- The store of pages: what it is asked for. -/
import Derived.Test.YtimoaolannkpcaaGreatPgX
set_option linter.unusedVariables false
set_option linter.unusedSimpArgs false
set_option linter.unusedSectionVars false
namespace Go.Abs
open Go
set_option linter.unusedVariables false
set_option maxRecDepth 100000
/-- Sorted keys, as they come. -/
def kV (q : Nat) (ks : List Int) : AVal := match ks with
  | [] => .sl true 1 []
  | _ :: _ => .gs q 1 0 ks.length
def kH (q : Nat) (ks : List Int) : Hp := match ks with
  | [] => []
  | _ :: _ => [(q, .mk (ks.map vI))]
theorem kV_len (q : Nat) (ks : List Int) : lenV (kV q ks) = some ks.length := by cases ks <;> rfl
variable {N dp : Nat} {sg : Sg} {s d p m n k size at_ : Nat} {jv : AVal} {wt ep : Int} {A R : Hp} {pgs : List ByteArray}
theorem sorted_ok {α : Type} {f : α → AVal} {F : FuncId} {l : List (Int × α)} {L : Hp} {i i' g : Nat} (h : Has sg L) (hF : keysFn F = true) (e1 : L[i]? = some (g, .mk [.gm m])) (e2 : L[i']? = some (m, .map (emb f l)))
    (hr : ∀ x : Int, x ∈ l.map (·.1) → 0 ≤ x ∧ x < 100000) (hl : l.length ≤ 100000) :
    Ev (tab N (dp + 1) 226 [.clo F [] [.gp g 0]] sg) (Rt fun v sg' => ∃ q, v = kV q (sortI (l.map (·.1))) ∧ Has sg' (kH q (sortI (l.map (·.1))) ++ L)) := by
  refine ev_of (t226 ..) ?_
  have hall : (l.map (·.1)).all inI64 = true := List.all_eq_true.2 fun x hx => by
    have := hr x hx
    simp only [inI64, Bool.and_eq_true, decide_eq_true_eq]; omega
  simp only [ovSortedN, hF, cond_true, h.at e1, h.at e2, keysI_emb, hall, Bool.true_and, List.length_map]
  refine ev_bif (Nat.ble_eq_true_of_le (by omega)) ?_
  cases l with
  | nil => exact ev_ret ⟨0, rfl, h⟩
  | cons x l =>
    have hp := sortI_pm (List.map (·.1) (x :: l))
    have hlen := hp.length_eq
    simp only [List.map_cons, List.length_cons, List.length_map] at hp hlen ⊢
    cases hs : sortI (x.1 :: List.map (·.1) l) with
    | nil => rw [hs] at hlen; simp at hlen
    | cons y ys =>
      rw [hs] at hlen
      refine ev_ret ⟨sg.length, ?_, h.new _⟩
      simp only [kV]; rw [hlen]
theorem shome_ok {L : Hp} {i : Nat} {a : Nat} (h : Has sg L) (e : L[i]? = some (s, stB d size p n m jv wt)) (hs : size ≤ 1024) (ha : a ≤ 3840) :
    Ev (tab N (dp + 1) 241 [.gp s 0, vI a] sg) (Rt fun v sg' => v = vI ((1 + size + a : Nat) : Int) ∧ sg' = sg) := by
  refine ev_of ((t241 ..).trans (pages_Store_home.main ..)) ?_
  refine ev_ldI h i e rfl (ev_ret ⟨?_, rfl⟩)
  rw [i64_in (n := 1 + (size : Int)) (by omega), i64_in (by omega)]
  congr 3
theorem checkpoint_ok (hA : StA s n size at_ pgs A) (h : Has sg (A ++ R)) (hN : 200000 < N) :
    Ev (tab N (dp + 6) 138 [.gp s 0, vU ep] sg) (Rt fun v sg' => v = vI 0 ∧ ∃ A', StA s n size 0 pgs A' ∧ Has sg' (A' ++ R)) := by
  obtain ⟨d, p, m, j, ep0, num, wt, l, k, Ad, rfl, hD, hk, hat, hpl, hfr, hsz, hn1, hn2, hs1, hs2⟩ := hA
  refine ev_of ((t138 ..).trans (pages_Store_checkpoint.main ..)) ?_
  refine ev_ldA h 0 rfl rfl (ev_A rfl ?_)
  have h1 : Has sg (Ad ++ ([(s, stB d size p n m (.gp j 0) wt), (p, .mk (pgs.map vS)), (m, .map (emb tV l)), (j, jnB d size ep0 at_ num)] ++ R)) := h.sw [_, _, _, _] Ad
  replace h1 : Has sg (Ad ++ ((s, stB d size p n m (.gp j 0) wt) :: (p, .mk (pgs.map vS)) :: (m, .map (emb tV l)) :: R)) :=
    h1.sub (List.Sublist.append (List.Sublist.refl _) (.cons_cons _ (.cons_cons _ (.cons_cons _ (.cons _ (List.Sublist.refl _))))))
  refine ev_call (dk_flush hD h1 (by omega) (by omega)) rfl ?_
  rintro _ sg2 ⟨rfl, A2, hA2, h2⟩
  refine ev_I rfl (ev_else (by decide) ?_)
  refine ev_ldA (h2.drop A2) 0 rfl rfl (ev_A rfl ?_)
  refine ev_call (φ := fun v sg' => ∃ g, v = .clo 331 [] [.gp g 0] ∧ Has sg' ((g, .mk [.gm m]) :: (A2 ++ ((s, stB d size p n m (.gp j 0) wt) :: (p, .mk (pgs.map vS)) :: (m, .map (emb tV l)) :: R)))) ?_ rfl ?_
  · refine ev_of ((t244 ..).trans (maps_Keys_map_intbool_int_bool.main ..)) ?_
    exact ev_A rfl (ev_ret ⟨_, rfl, h2.new _⟩)
  rintro _ sg3 ⟨g, rfl, h3⟩
  refine ev_A rfl ?_
  have h3' := Has.rot (A := A2) h3
  have hkl : l.length ≤ n := hfr.len
  have h3'' : Has sg3 (((g, .mk [.gm m]) :: (s, stB d size p n m (.gp j 0) wt) :: (p, .mk (pgs.map vS)) :: (m, .map (emb tV l)) :: R) ++ (A2 ++ [])) := by
    have := h3'.perm (List.perm_append_comm (l₁ := A2))
    simpa using this
  refine ev_call (sorted_ok (i := 0) (i' := 3) h3'' rfl rfl rfl (fun x hx => by have := hfr.rg x hx; omega) (by omega)) rfl ?_
  rintro _ sg4 ⟨q, rfl, h4⟩
  have hks : ∀ x : Int, x ∈ sortI (l.map (·.1)) → 0 ≤ x ∧ x < (n : Int) := fun x hx => hfr.rg x ((sortI_pm _).mem_iff.1 hx)
  have hkn : (sortI (l.map (·.1))).length ≤ n := by rw [(sortI_pm _).length_eq, List.length_map]; exact hkl
  generalize sortI (l.map (·.1)) = ks at h4 hks hkn ⊢
  refine ev_O (kV_len q ks) ?_
  have h5 : Has sg4 (A2 ++ (kH q ks ++ ((s, stB d size p n m (.gp j 0) wt) :: (p, .mk (pgs.map vS)) :: (m, .map (emb tV l)) :: R))) := by
    have h6 : Has sg4 (kH q ks ++ (((s, stB d size p n m (.gp j 0) wt) :: (p, .mk (pgs.map vS)) :: (m, .map (emb tV l)) :: R) ++ A2)) := by
      rw [List.append_nil] at h4
      exact h4.sub (List.Sublist.append (List.Sublist.refl _) (List.Sublist.append (.cons _ (List.Sublist.refl _)) (List.Sublist.refl _)))
    rw [← List.append_assoc] at h6
    exact h6.perm List.perm_append_comm
  refine ev_loop ks.length (fun i st => ∃ sg' A' k', st = mkS [0, 1, 26, 27, 28] [.v (.gp s 0) false, .v (vU ep) false, .v (kV q ks) false, .v (vI ks.length) false, .v (vI i) false] [none, none, none, none, none] (.sg sg') ∧
    Dk (1 + size + n) k' d A' ∧ k' = i ∧ Has sg' (A' ++ (kH q ks ++ ((s, stB d size p n m (.gp j 0) wt) :: (p, .mk (pgs.map vS)) :: (m, .map (emb tV l)) :: R)))) (by omega) ⟨_, A2, 0, rfl, hA2, rfl, h5⟩ ?_
  rintro i st K hi ⟨sg5, A5, k5, rfl, hA5, hk5, h7⟩ hnext hexit hret
  refine ev_of (pages_Store_checkpoint.r0 ..) ?_
  refine ev_ite (fun hlt => ?_) (fun hge => ?_)
  · have hlt : i < ks.length := by simpa using hlt
    have hx := hks ks[i] (List.getElem_mem hlt)
    have hki : (ks.map vI)[0 + ((i : Nat) : Int).toNat * 1]? = some (vI ks[i]) := by simp [List.getElem?_eq_getElem hlt]
    generalize hxe : ks[i] = x at hx hki
    obtain ⟨a, rfl⟩ : ∃ a : Nat, x = a := ⟨x.toNat, by omega⟩
    have ha : a < n := by omega
    have hpg : (pgs.map vS)[0 + ((a : Nat) : Int).toNat * 1]? = some (vS pgs[a]) := by simp [List.getElem?_eq_getElem (show a < pgs.length by omega)]
    cases ks with
    | nil => simp at hlt
    | cons y ys =>
      have h8 := h7.drop A5
      refine ev_elem (by omega) (Int.ofNat_lt.2 hlt) ?_
      refine ev_ldI h8 0 rfl hki ?_
      refine ev_ldA h8 1 rfl rfl ?_
      refine ev_elem (by omega) (Int.ofNat_lt.2 ha) ?_
      refine ev_ldS h8 2 rfl hpg ?_
      refine ev_call (home_ok ⟨by omega, by omega⟩ (hsz _ (List.getElem_mem _)) (by omega)) rfl ?_
      rintro _ _ ⟨b, rfl, hb⟩
      refine ev_T (ev_bif rfl (ev_S rfl (ev_I rfl (ev_else (by decide) ?_))))
      refine ev_ldA h8 1 rfl rfl ?_
      refine ev_call (shome_ok (i := 1) h8 rfl hs2 (by omega)) rfl ?_
      rintro _ _ ⟨rfl, rfl⟩
      refine ev_I rfl (ev_A rfl ?_)
      refine ev_call (dk_write hA5 h7 (by omega) hb (by omega)) rfl ?_
      rintro _ sg6 ⟨rfl, A6, hA6, h9⟩
      refine ev_I rfl (ev_else (by decide) ?_)
      rw [i64_nat (by omega)]
      exact hnext _ hlt ⟨sg6, A6, _, rfl, hA6, by omega, h9⟩
  · have hge : i = ks.length := by
      have : ks.length ≤ i := by simpa using hge
      omega
    refine hexit _ _ ?_
    refine ev_of (pages_Store_checkpoint.k0_2 ..) ?_
    have h8 : Has sg5 (A5 ++ ((s, stB d size p n m (.gp j 0) wt) :: (p, .mk (pgs.map vS)) :: (m, .map (emb tV l)) :: R)) :=
      h7.sub (List.Sublist.append (List.Sublist.refl _) (List.sublist_append_right _ _))
    refine ev_ldA (h8.drop A5) 0 rfl rfl (ev_A rfl ?_)
    refine ev_call (dk_flush hA5 h8 (by omega) (by omega)) rfl ?_
    rintro _ sg6 ⟨rfl, A6, hA6, h9⟩
    refine ev_I rfl (ev_else (by decide) ?_)
    refine ev_call (swrite_ok (ep := ep) hA6 h9.tor hn2 hs1 hs2 (by omega) hN) rfl ?_
    rintro _ sg7 ⟨rfl, j', A7, hA7, h10⟩
    refine ev_I rfl (ev_else (by decide) ?_)
    refine ev_ldA h10 0 rfl rfl (ev_A rfl ?_)
    have h11 : Has sg7 ((s, stB d size p n m (.gp j' 0) wt) :: ([(p, .mk (pgs.map vS)), (m, .map (emb tV l))] ++ (((j', jnB d size ep 0 0) :: A7) ++ R))) :=
      Has.perm (L := (s, stB d size p n m (.gp j' 0) wt) :: (((j', jnB d size ep 0 0) :: A7) ++ ([(p, .mk (pgs.map vS)), (m, .map (emb tV l))] ++ R))) h10 ((List.perm_append_comm_assoc _ _ _).cons _)
    refine ev_map h11 2 rfl ?_
    refine ev_st (h11.put (n := 2) (.map []) rfl) 0 rfl rfl (Nat.le_of_ble_eq_true rfl) (Nat.succ_pos _) fun sg8 h12 => ?_
    refine ev_ret ⟨rfl, _, ⟨d, p, m, j', ep, 0, 0, [], 0, A7, rfl, hA7, by omega, by omega, hpl, ⟨by simp, by simp⟩, hsz, hn1, hn2, hs1, hs2⟩, ?_⟩
    exact h12
end Go.Abs
