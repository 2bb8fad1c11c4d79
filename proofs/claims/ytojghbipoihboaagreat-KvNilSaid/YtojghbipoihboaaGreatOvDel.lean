/- slices.Delete at items: by hand. -/
import Derived.Test.YtojghbipoihboaaGreatOvBld
import Derived.RegionTactic
import Derived.BigRegion
import Derived.Deep.RegionLaw
import Derived.Shelf.RegionOpenPlain
set_option linter.unusedVariables false
set_option linter.unusedSimpArgs false
set_option linter.unusedSectionVars false
namespace Go.Abs
open Go.Proofs Go.RowKit
set_option linter.unusedVariables false
set_option linter.unusedSimpArgs false
set_option maxRecDepth 100000

theorem blit_set {l : List Value} {o : Nat} {v : Value} {vs : List Value} (h : o < l.length) : blit (l.set o v) (o + 1) vs = blit l o (v :: vs) := by
  have e : l.set o v = l.take o ++ v :: l.drop (o + 1) := by
    rw [List.set_eq_take_append_cons_drop, if_pos h]
  have e2 : (l.take o).length = o := by simp; omega
  have t1 : (l.take o ++ v :: l.drop (o + 1)).take (o + 1) = l.take o ++ [v] := by
    rw [List.take_append, e2, List.take_of_length_le (by omega), show o + 1 - o = 1 by omega]; rfl
  have t2 : (l.take o ++ v :: l.drop (o + 1)).drop (o + 1 + vs.length) = l.drop (o + (vs.length + 1)) := by
    rw [List.drop_append, e2, List.drop_eq_nil_of_le (by omega), show o + 1 + vs.length - o = vs.length + 1 by omega]
    simp [Nat.add_assoc, Nat.add_comm 1]
  unfold blit
  rw [e, t1, t2]
  simp
theorem setCells_heap {b : Nat} {T : TypeId} {fr : Nat × Nat} : ∀ (vs : List Value) (o : Nat) (w : World) (arr : Array Value), w.heap[b]? = some (.cells arr T fr) → o + vs.length ≤ arr.size →
    (w.setCells b o vs).heap[b]? = some (.cells (blit arr.toList o vs).toArray T fr) ∧ (∀ c, c ≠ b → (w.setCells b o vs).heap[c]? = w.heap[c]?) ∧ (w.setCells b o vs).heap.size = w.heap.size ∧
      (w.setCells b o vs).os = w.os ∧ (w.setCells b o vs).tape = w.tape ∧ (w.setCells b o vs).output = w.output
  | [], o, w, arr, h, _ => ⟨by simp [World.setCells, blit, h], fun _ _ => rfl, rfl, rfl, rfl, rfl⟩
  | v :: vs, o, w, arr, h, hl => by
    simp only [List.length_cons] at hl
    have h1 := setCell_heap (o := o) (v := v) h
    obtain ⟨k1, k2, k3, k4, k5, k6⟩ := setCells_heap vs (o + 1) (w.setCell ⟨b, o, none⟩ v) _ h1 (by simp; omega)
    refine ⟨?_, fun c hc => (k2 c hc).trans (setCell_other hc), k3.trans (by simp [World.setCell]), k4, k5, k6⟩
    show ((w.setCell ⟨b, o, none⟩ v).setCells b (o + 1) vs).heap[b]? = _
    rw [k1]
    congr 2
    apply congrArg List.toArray
    rw [Array.toList_setIfInBounds]
    exact blit_set (by simp; omega)

set_option maxHeartbeats 4000000 in
theorem del_walk (g o cap n i j : Nat) (w w2 : World) (news : List Value) (hij : i < j) (hjn : j ≤ n) (hcap : n ≤ cap) (hn : news.length = (n - j) * 2)
    (hnews : j < cap → ∀ (t : Nat) u, news[t]? = some u → w.cell? ⟨g, o + j * 2 + t, none⟩ = some u) (h1 : ∀ u ∈ news, u.oneCell' = true)
    (hsp : ∀ t, t < news.length → (w.cell? ⟨g, o + i * 2 + t, none⟩).isSome = true ∧ w.frozen? ⟨g, o + i * 2 + t, none⟩ = false)
    (hC : ∀ ty, (Builtin.clear_ #[54] ty #[.slice (some ⟨g, o + (i + (n - j)) * 2, none⟩) (n - (i + (n - j))) (cap - (i + (n - j)))]).run Tryz.prog (w.drew.setCells g (o + i * 2) news) = .ok (.tuple #[]) w2) :
    Calls Tryz.prog 194 #[.slice (some ⟨g, o, none⟩) n cap, .int .i64 i, .int .i64 j] w fun e w' => e = .returned (.slice (some ⟨g, o, none⟩) (i + (n - j)) cap) ∧ w' = w2 := by
  have mixed := mixed
  have hne : ¬ (i : Int) = j := by omega
  have hi0 : Tryz.prog.info? 60 = some (Tryz.prog.info? 60).get! := by kernel_rfl
  have hz2 : (Tryz.prog.info? 60).get!.size = 2 := Nat.eq_of_beq_eq_true (by kernel_rfl)
  obtain ⟨A, hA, hsrc⟩ : ∃ A : Addr, (if cap = j then (some ⟨g, o, none⟩ : Option Addr) else some ⟨g, o + j * 2, none⟩) = some A ∧ Hid (∀ (t : Nat) u, news[t]? = some u → w.drew.cell? (A.add t) = some u) := by
    by_cases h : cap = j
    · refine ⟨⟨g, o, none⟩, by simp [h], fun t u hu => ?_⟩
      have h0 : news.length = 0 := by rw [hn]; have : n - j = 0 := by omega
                                      simp [this]
      rw [List.length_eq_zero_iff.1 h0] at hu
      simp at hu
    · refine ⟨⟨g, o + j * 2, none⟩, by simp [h], fun t u hu => ?_⟩
      rw [add_mk]
      exact hnews (by omega) t u hu
  have s1 : Hid (news.length = (n - j) * 2) := hn
  have s2 : Hid (∀ u ∈ news, u.oneCell' = true) := h1
  have s3 : Hid (∀ t, t < news.length → (w.drew.cell? ⟨g, o + i * 2 + t, none⟩).isSome = true ∧ w.drew.frozen? ⟨g, o + i * 2 + t, none⟩ = false) := hsp
  obtain ⟨W1, hW⟩ : ∃ W1, Hid (W1 = w.drew.setCells g (o + i * 2) news) := ⟨_, rfl⟩
  have hC' : ∀ ty, (Builtin.clear_ #[54] ty #[.slice (some ⟨g, o + (i + (n - j)) * 2, none⟩) (n - (i + (n - j))) (cap - (i + (n - j)))]).run Tryz.prog W1 = .ok (.tuple #[]) w2 := by
    intro ty; rw [hW.out]; exact hC ty
  have hic : i ≤ cap := by omega
  have hjc : j ≤ cap := by omega
  clear hC hnews h1 hsp hn
  go_enter Tryz.func194, Tryz.ntmps194
  go_wp2_with fail
  go_region_law_o (refine step_append_room rfl (.tmp 22) (.tmp 25) 54 rfl 60 _ 2 Tryz.underlying54 hi0 hz2 g o i cap (by simp [Act.eval, Act.put]) A (n - j) (cap - j) news (by simp [Act.eval, Act.put]) s1.out hsrc.out s2.out (by omega) s3.out ?_; rw [← hW.out])
  go_wp2
  go_ret
  exact ⟨rfl, rfl⟩

set_option maxHeartbeats 4000000 in
theorem del_none (g o cap n i : Nat) (w : World) (hin : i ≤ n) (hcap : n ≤ cap) :
    Calls Tryz.prog 194 #[.slice (some ⟨g, o, none⟩) n cap, .int .i64 i, .int .i64 i] w fun e w' => e = .returned (.slice (some ⟨g, o, none⟩) n cap) ∧ w' = w := by
  have hic : i ≤ cap := by omega
  go_enter Tryz.func194, Tryz.ntmps194
  go_wp2
  all_goals (go_ret; exact ⟨rfl, rfl⟩)

theorem blit_takeD {l us : List Value} {off L : Nat} (h : off + us.length ≤ L) (hl : L ≤ l.length) : (blit l off us).take L = blit (l.take L) off us := by
  have e2 : (l.take off).length = off := by simp; omega
  have t1 : (l.take off ++ (us ++ l.drop (off + us.length))).take L = l.take off ++ (us ++ (l.drop (off + us.length)).take (L - off - us.length)) := by
    rw [List.take_append, e2, List.take_append, List.take_of_length_le (l := l.take off) (by omega), List.take_of_length_le (l := us) (by omega)]
  unfold blit
  rw [t1, List.take_take, show min off L = off by omega, List.drop_take]
  rw [show L - off - us.length = L - (off + us.length) by omega]

theorem zrun (w : World) (k : Nat) (ty : TypeId) (g o c : Nat) (hk : 0 < k) : (Builtin.clear_ #[54] ty #[.slice (some ⟨g, o, none⟩) k c]).run Tryz.prog w = ((storeCells ⟨g, o, none⟩ (Builtin.zeroCells #[.string .empty, .string .empty] k).toList).run Tryz.prog w).andThen fun _ w' => .ok (.tuple #[]) w' := by
  obtain ⟨k, rfl⟩ : ∃ m, k = m + 1 := ⟨k - 1, by omega⟩
  have hz : (zeroValue 60).run Tryz.prog w = .ok (.agg #[.string .empty, .string .empty]) w := Tryz.zeroValue60 w
  simp [Builtin.clear_, run_underlying Tryz.underlying54, hz, Value.cells]

theorem zeros_mem {k : Nat} {v : Value} (hv : v ∈ (Builtin.zeroCells #[.string .empty, .string .empty] k).toList) : v = .string .empty := by
  simp only [Builtin.zeroCells, List.mem_map, List.mem_toArray, Array.toList_map, Array.toList_range, List.mem_range] at hv
  obtain ⟨i, _, rfl⟩ := hv
  have : i % 2 = 0 ∨ i % 2 = 1 := by omega
  rcases this with h | h <;> simp [h]
theorem zeros_l2 {Z : Fz} {ι : Iot} (k : Nat) : L2 Z ι (List.replicate k zItem).flatten (Builtin.zeroCells #[.string .empty, .string .empty] k).toList := by
  refine ⟨by simp [Builtin.zeroCells, zItem], fun j c v hc hv => ?_⟩
  have h1 := zeros_mem (List.mem_of_getElem? hv)
  have h2 : c = .at (.string ⟨#[]⟩) := by
    obtain ⟨l, hl, hcl⟩ := List.mem_flatten.1 (List.mem_of_getElem? hc)
    rw [List.eq_of_mem_replicate hl] at hcl
    simp [zItem] at hcl
    exact hcl
  subst h1; subst h2
  exact ⟨.at rfl, rfl⟩

theorem leafDelItem : Good 194 (fun _ _ xs sg => ovDelete zItem xs sg) := by
  refine leafL Tryz.func194 (nb (by kernel_rfl)) (ne_of_beq (by kernel_rfl)) (by kernel_rfl) (by kernel_rfl) ?_
  intro xs sg out h
  unfold ovDelete at h
  split at h
  case h_2 => cases h
  rename_i g sz o n i j
  obtain ⟨hsz, h⟩ := bif_some h
  have hsz : sz = 2 := Nat.eq_of_beq_eq_true hsz
  subst hsz
  split at h
  case h_2 => cases h
  rename_i cs hB
  obtain ⟨⟨hi0, hij, hjn, hol⟩, h⟩ := if_some h
  obtain ⟨i, rfl⟩ := Int.eq_ofNat_of_zero_le hi0
  obtain ⟨j, rfl⟩ := Int.eq_ofNat_of_zero_le (show 0 ≤ j by omega)
  have hij : i ≤ j := by omega
  have hjn : j ≤ n := by omega
  simp only [Int.toNat_natCast] at h
  intro G w args K hlen ha
  match args, hlen with
  | ⟨[v0, v1, v2]⟩, _ =>
  have hv := (ha 0 _ v0 rfl rfl).1
  obtain rfl := arg_is ha (i := 1) rfl rfl
  obtain rfl := arg_is ha (i := 2) rfl rfl
  cases hv with
  | @gs _ _ _ _ cap p hg hcap hroom =>
  cases hbe : Nat.beq i j with
  | true =>
    have e := Nat.eq_of_beq_eq_true hbe
    subst e
    rw [hbe] at h
    cases h
    refine (del_none p.1 o cap n i w hjn hcap).mono ?_
    rintro e w' ⟨rfl, rfl⟩
    exact ⟨G, Fr.refl _ _, _, rfl, .gs hg hcap hroom, K⟩
  | false =>
    have hne : i ≠ j := by rintro rfl; simp at hbe
    rw [hbe] at h
    simp only [cond_false] at h
    cases h
    have hcs : cs ≠ [] := by rintro rfl; simp at hol; omega
    obtain ⟨p2, j1, j2, k3, k4⟩ := K.gbox g _ hB hcs
    rw [hg] at j1; cases j1
    obtain ⟨arr, T, fr, m1, m2⟩ := k4
    obtain ⟨q1, q2, q3⟩ := L2.of_box k3 m1
    simp only [Box.cells] at q1 q3
    let news : List Value := ((arr.toList.take cs.length).drop (o + j * 2)).take ((n - j) * 2)
    have hnl : L2 G.Z G.ι ((cs.drop (o + j * 2)).take ((n - j) * 2)) news := (q3.drop _).take _
    have hnlen : news.length = (n - j) * 2 := by simp [news]; omega
    have hone : ∀ u ∈ news, one u = true := fun u hu => by
      obtain ⟨t, ht⟩ := List.getElem?_of_mem hu
      have hlt := (List.getElem?_eq_some_iff.1 ht).1
      have hlt2 : t < ((cs.drop (o + j * 2)).take ((n - j) * 2)).length := by rw [hnl.1]; exact hlt
      exact (hnl.2 t _ u (List.getElem?_eq_getElem hlt2) ht).2
    have hnget : ∀ (t : Nat) u, news[t]? = some u → arr[o + j * 2 + t]? = some u ∧ o + j * 2 + t < arr.size := fun t u hu => by
      simp only [news, List.getElem?_take, List.getElem?_drop] at hu
      split at hu
      · split at hu
        · rw [Array.getElem?_toList] at hu
          exact ⟨hu, (Array.getElem?_eq_some_iff.1 hu).1⟩
        · cases hu
      · cases hu
    -- behind the append
    obtain ⟨s1, s2, s3, s4, s5, s6⟩ := setCells_heap (T := T) (fr := fr) news (o + i * 2) w.drew arr m1 (by rw [hnlen]; omega)
    have hbl : (blit arr.toList (o + i * 2) news).length = arr.size := by rw [blit_length (by simp [hnlen]; omega)]; simp
    -- behind clear
    let zs := (Builtin.zeroCells #[.string .empty, .string .empty] (n - (i + (n - j)))).toList
    have hzl : zs.length = (n - (i + (n - j))) * 2 := by simp [zs, Builtin.zeroCells]
    obtain ⟨w2, r1, r2, r3, r4, r5, r6, r7⟩ := run_storeCells_blit Tryz.prog p.1 (o + (i + (n - j)) * 2) T fr zs 0 (w.drew.setCells p.1 (o + i * 2) news) _ s1 (by simp [hbl, hzl]; omega) (fun k e1 e2 => q2 k (by simp [hzl] at e2; omega)) (fun v hv => by
      rw [zeros_mem hv]; rfl)
    have hC : ∀ ty, (Builtin.clear_ #[54] ty #[.slice (some ⟨p.1, o + (i + (n - j)) * 2, none⟩) (n - (i + (n - j))) (cap - (i + (n - j)))]).run Tryz.prog (w.drew.setCells p.1 (o + i * 2) news) = .ok (.tuple #[]) w2 := fun ty => by
      rw [zrun _ _ _ _ _ _ (by omega), r1]; rfl
    refine (del_walk p.1 o cap n i j w w2 news (by omega) hjn hcap hnlen (fun _ t u hu => by simp [World.cell?, m1, (hnget t u hu).1]) (fun u hu => by
      have hv := hone u hu
      cases u <;> simp [one] at hv <;> rfl) (fun t ht => ⟨by
        have : o + i * 2 + t < arr.size := by rw [hnlen] at ht; omega
        simp [World.cell?, m1, this], by
        have := q2 (o + i * 2 + t) (by rw [hnlen] at ht; omega)
        simp [World.frozen?, m1]; omega⟩) hC).mono ?_
    rintro e w' ⟨rfl, rfl⟩
    have hsz2 : w'.heap.size = w.heap.size := r4.trans s3
    have hne2 : ∀ c, c ≠ p.1 → w'.heap[c]? = w.heap[c]? := fun c hc => (r3 c hc).trans (s2 c hc)
    have hspl : (splice (splice cs (o + i * 2) ((cs.drop (o + j * 2)).take ((n - j) * 2))) (o + (i + (n - j)) * 2) (List.replicate (n - (i + (n - j))) zItem).flatten).length = cs.length := by
      have z2 := (zeros_l2 (Z := G.Z) (ι := G.ι) (n - (i + (n - j)))).1
      have z3 : ((cs.drop (o + j * 2)).take ((n - j) * 2)).length = (n - j) * 2 := by rw [hnl.1]; exact hnlen
      change _ = zs.length at z2
      rw [hzl] at z2
      unfold splice
      simp only [List.length_append, List.length_take, List.length_drop, z2, z3] at *
      omega
    have hbl2 : (blit (blit arr.toList (o + i * 2) news) (o + (i + (n - j)) * 2) zs).length = arr.size := by rw [blit_length (by rw [hbl, hzl]; omega), hbl]
    have r2' : w'.heap[p.1]? = some (.cells (blit (blit arr.toList (o + i * 2) news) (o + (i + (n - j)) * 2) zs).toArray T fr) := by simpa using r2
    refine ⟨G, Fr.own1 j2 (r5.trans s4) (r6.trans s5) (r7.trans s6) hsz2 hne2, _, rfl, .gs hg (by omega) hroom, K.setB hg j2 hsz2 hne2 (fun _ => ⟨.of r2' (fun k hk => q2 k (by simpa [hbl2] using hk)) (by rw [Box.cells_mk, hspl]; simpa [hbl2] using q1) ?_, ⟨_, _, _, r2', by simp only [List.size_toArray]; rw [hbl2]; exact m2⟩⟩) (fun hh => by cases hh)⟩
    rw [Box.cells_mk, hspl]
    have e1 : (blit (blit arr.toList (o + i * 2) news) (o + (i + (n - j)) * 2) zs).take cs.length = blit (blit (arr.toList.take cs.length) (o + i * 2) news) (o + (i + (n - j)) * 2) zs := by
      rw [blit_takeD (by rw [hzl]; omega) (by rw [hbl]; exact q1), blit_takeD (by rw [hnlen]; omega) (by simpa using q1)]
    show L2 _ _ _ (List.take _ _)
    simp only
    rw [e1]
    exact (q3.splice hnl _).splice (zeros_l2 _) _
end Go.Abs
