/- THE ENGINE, part 12: stores. -/
import Derived.Test.YtafmbianlodemaaSnd8
namespace Go.Abs
set_option linter.unusedSectionVars false
set_option linter.unusedVariables false
set_option linter.unusedSimpArgs false
section
variable {P : Program} {C : CallF} {nt : Nat} {o : Oper}

theorem heap_setCell (w : World) (b off : Nat) (v : Value) (arr : Array Value) (T : TypeId) (fr : Nat × Nat) (h : w.heap[b]? = some (.cells arr T fr)) :
    (w.setCell ⟨b, off, none⟩ v).heap[b]? = some (.cells (arr.setIfInBounds off v) T fr) ∧ (∀ c, c ≠ b → (w.setCell ⟨b, off, none⟩ v).heap[c]? = w.heap[c]?) ∧ (w.setCell ⟨b, off, none⟩ v).heap.size = w.heap.size := by
  refine ⟨?_, fun c hc => ?_, by simp [World.setCell]⟩
  · simp [World.setCell, Array.getElem?_modify, h]
  · simp only [World.setCell, Array.getElem?_modify]
    rw [if_neg (fun e => hc e.symm)]

/-- Cells are stored one behind the other. -/
theorem run_storeCells_blit (P : Program) (b off : Nat) (T : TypeId) (fr : Nat × Nat) : ∀ (vs : List Value) (i : Nat) (w : World) (arr : Array Value), w.heap[b]? = some (.cells arr T fr) →
    off + i + vs.length ≤ arr.size → (∀ j, off + i ≤ j → j < off + i + vs.length → ¬ (fr.1 ≤ j ∧ j < fr.2)) → (∀ v ∈ vs, one v = true) →
    ∃ w', (storeCells ⟨b, off, none⟩ vs i).run P w = .ok () w' ∧ w'.heap[b]? = some (.cells (blit arr.toList (off + i) vs).toArray T fr) ∧ (∀ c, c ≠ b → w'.heap[c]? = w.heap[c]?) ∧ w'.heap.size = w.heap.size ∧
      w'.os = w.os ∧ w'.tape = w.tape ∧ w'.output = w.output
  | [], i, w, arr, h, _, _, _ => ⟨w, by simp [storeCells], by simp [blit, h], fun _ _ => rfl, rfl, rfl, rfl, rfl⟩
  | v :: vs, i, w, arr, h, hs, hf, h1 => by
    have hv := h1 v (by simp)
    simp only [List.length_cons] at hs hf
    have hcell : w.cell? ⟨b, off + i, none⟩ = some (arr[off + i]'(by omega)) := by
      simp only [World.cell?, h]; simp [Array.getElem?_eq_getElem (show off + i < arr.size by omega)]
    have hfz : w.frozen? ⟨b, off + i, none⟩ = false := by
      have := hf (off + i) (by omega) (by omega)
      simp only [World.frozen?, h]
      simp only [Bool.and_eq_false_iff, decide_eq_false_iff_not]
      omega
    have hone : v.oneCell' = true := by cases v <;> simp [one] at hv <;> rfl
    obtain ⟨k1, k2, k3⟩ := heap_setCell w b (off + i) v arr T fr h
    obtain ⟨w', r1, r2, r3, r4, r5, r6, r7⟩ := run_storeCells_blit P b off T fr vs (i + 1) (w.setCell ⟨b, off + i, none⟩ v) (arr.setIfInBounds (off + i) v) k1 (by simp; omega)
      (fun j h1 h2 => hf j (by omega) (by omega)) (fun u hu => h1 u (by simp [hu]))
    refine ⟨w', ?_, ?_, fun c hc => (r3 c hc).trans (k2 c hc), r4.trans k3, r5, r6, r7⟩
    · simp only [storeCells, Sem.run_bind, add_mk, run_store P w _ v .plain hone, hcell, hfz]
      simpa using r1
    · rw [r2]
      congr 2
      apply Array.ext'
      simp only [Array.toList_setIfInBounds]
      unfold blit
      have hlt : off + i < arr.toList.length := by simp; omega
      rw [← Nat.add_assoc]
      rw [List.take_succ_eq_append_getElem (by simp; omega)]
      simp only [List.getElem_set_self, List.take_set_of_le (Nat.le_refl _), List.append_assoc, List.singleton_append, List.cons_append, List.nil_append, List.length_cons]
      rw [List.drop_set_of_lt (by omega)]
      rw [show off + i + 1 + vs.length = off + i + (vs.length + 1) by omega]

theorem Free.of_ne {Z : Fz} {w w' : World} {b e m c : Nat} (h : Free Z w b e m) (hc : b ≠ c) (hb : ∀ x, x ≠ c → w'.heap[x]? = w.heap[x]?) : Free Z w' b e m := h.world (hb b hc)

/-- A store into a slot's own box. -/
theorem Rel.storeL {G : Gh} {nt : Nat} {st : St} {tm : Array Value} {w w' : World} (H : Rel G nt st tm w) {r b : Nat} {B B' : Box} (hB : st (.l r) = .bx (some B)) (hb : G.lm r = some b) (ho : G.own b = some (.lbox r))
    (h1 : w'.os = w.os) (h2 : w'.tape = w.tape) (h3 : w'.output = w.output) (hsz : w'.heap.size = w.heap.size) (hne : ∀ c, c ≠ b → w'.heap[c]? = w.heap[c]?) (hbox : BoxR G w' B' b) :
    Rel G nt (upd st (.l r) (.bx (some B'))) tm w' ∧ Fr G w G w' := by
  have hls : ∀ i, upd st (.l r) (.bx (some B')) (.s i) = st (.s i) := fun i => upd_ne _ _ (by simp)
  have hlg : upd st (.l r) (.bx (some B')) .g = st .g := upd_ne _ _ (by simp)
  have hbx : ∀ i B0, st (.l i) = .bx (some B0) → ∃ B1, upd st (.l r) (.bx (some B')) (.l i) = .bx (some B1) := by
    intro i B0 h
    by_cases hi : i = r
    · subst hi; exact ⟨B', upd_self _ _ _⟩
    · exact ⟨B0, by rw [upd_ne _ _ (by simpa using hi)]; exact h⟩
  have hob : ∀ c oo, G.own c = some oo → oo ≠ .lbox r → c ≠ b := by
    rintro c oo h h' rfl; rw [ho] at h; cases h; exact h' rfl
  constructor
  · refine ⟨H.size, fun i s hi => ?_, fun i B0 h => ?_, fun sg hg g B0 h hne0 => ?_, fun sg hg => H.gdom sg (by rwa [hlg] at hg), fun aa v h => ?_, fun c oo h => by rw [hsz]; exact H.ownlt c oo h⟩
    · rw [hls] at hi
      exact ((H.slots i s hi).world fun c hc => hne c (hob c _ hc (by simp))).congr hbx
    · by_cases hi : i = r
      · subst hi
        rw [upd_self] at h; cases h
        exact ⟨b, hb, ho, hbox⟩
      · rw [upd_ne _ _ (by simpa using hi)] at h
        obtain ⟨c, e1, e2, e3⟩ := H.lbox i B0 h
        exact ⟨c, e1, e2, e3.world (hne c (hob c _ e2 (by simpa using hi)))⟩
    · rw [hlg] at hg
      obtain ⟨c, e1, e2, e3, e4⟩ := H.gbox sg hg g B0 h hne0
      exact ⟨c, e1, e2, e3.world (hne c.1 (hob c.1 _ e2 (by simp))), e4.same (hne c.1 (hob c.1 _ e2 (by simp)))⟩
    · obtain ⟨e1, e2, e3⟩ := H.frz aa v h
      have : aa.block ≠ b := by
        intro e
        obtain ⟨i, hi⟩ := e3 (.lbox r) (by rw [e]; exact ho)
        cases hi
      exact ⟨(cell_same (hne _ this)).trans e1, e2, e3⟩
  · exact ⟨h1, h2, h3, Nat.le_of_eq hsz.symm, fun _ _ h => h, fun _ _ h => h, fun c hc ho' => ⟨hne c (by rintro rfl; rw [ho] at ho'; cases ho'), ho', fun _ _ => rfl⟩⟩

/-- A store into a box of the common store. -/
theorem Rel.storeG {G : Gh} {nt : Nat} {st : St} {tm : Array Value} {w w' : World} (H : Rel G nt st tm w) {g : Nat} {p : Nat × Nat} {sg : Sg} {B B' : Box} (hsg : st .g = .sg sg) (hB : sg[g]? = some B) (hb : G.ι g = some p) (ho : G.own p.1 = some (.gbox g)) (hroom : Room w' p)
    (h1 : w'.os = w.os) (h2 : w'.tape = w.tape) (h3 : w'.output = w.output) (hsz : w'.heap.size = w.heap.size) (hne : ∀ c, c ≠ p.1 → w'.heap[c]? = w.heap[c]?) (hbox : BoxR G w' B' p.1) :
    Rel G nt (upd st .g (.sg (sg.set g B'))) tm w' ∧ Fr G w G w' := by
  have hls : ∀ i, upd st .g (.sg (sg.set g B')) (.s i) = st (.s i) := fun i => upd_ne _ _ (by simp)
  have hll : ∀ i, upd st .g (.sg (sg.set g B')) (.l i) = st (.l i) := fun i => upd_ne _ _ (by simp)
  have hob : ∀ c oo, G.own c = some oo → oo ≠ .gbox g → c ≠ p.1 := by
    rintro c oo h h' rfl; rw [ho] at h; cases h; exact h' rfl
  constructor
  · refine ⟨H.size, fun i s hi => ?_, fun i B0 h => ?_, fun sg' hg g' B0 h hne0 => ?_, fun sg' hg => ?_, fun aa v h => ?_, fun c oo h => by rw [hsz]; exact H.ownlt c oo h⟩
    · rw [hls] at hi
      exact ((H.slots i s hi).world fun c hc => hne c (hob c _ hc (by simp))).congr fun b B hB => ⟨B, by rw [hll]; exact hB⟩
    · rw [hll] at h
      obtain ⟨c, e1, e2, e3⟩ := H.lbox i B0 h
      exact ⟨c, e1, e2, e3.world (hne c (hob c _ e2 (by simp)))⟩
    · rw [upd_self] at hg; cases hg
      rw [List.getElem?_set] at h
      by_cases hi : g = g'
      · subst hi
        rw [if_pos rfl] at h
        split at h
        · cases h; exact ⟨p, hb, ho, hbox, hroom⟩
        · cases h
      · rw [if_neg hi] at h
        obtain ⟨c, e1, e2, e3, e4⟩ := H.gbox sg hsg g' B0 h hne0
        exact ⟨c, e1, e2, e3.world (hne c.1 (hob c.1 _ e2 (by simp; omega))), e4.same (hne c.1 (hob c.1 _ e2 (by simp; omega)))⟩
    · rw [upd_self] at hg; cases hg
      simpa using H.gdom sg hsg
    · obtain ⟨e1, e2, e3⟩ := H.frz aa v h
      have : aa.block ≠ p.1 := by
        intro e
        obtain ⟨i, hi⟩ := e3 (.gbox g) (by rw [e]; exact ho)
        cases hi
      exact ⟨(cell_same (hne _ this)).trans e1, e2, e3⟩
  · exact ⟨h1, h2, h3, Nat.le_of_eq hsz.symm, fun _ _ h => h, fun _ _ h => h, fun c hc ho' => ⟨hne c (by rintro rfl; rw [ho] at ho'; cases ho'), ho', fun _ _ => rfl⟩⟩

theorem L2.of_box {G : Gh} {w : World} {B : Box} {b : Nat} {arr : Array Value} {T : TypeId} {fr : Nat × Nat} (h : BoxR G w B b) (hb : w.heap[b]? = some (.cells arr T fr)) :
    B.cells.length ≤ arr.size ∧ (∀ j, j < arr.size → ¬ (fr.1 ≤ j ∧ j < fr.2)) ∧ L2 G.Z G.ι B.cells (arr.toList.take B.cells.length) := by
  obtain ⟨arr', T', fr', h1, h2, h3, h4⟩ := h
  rw [hb] at h1; cases h1
  refine ⟨h2, h3, by simp; omega, fun j c v hc hv => ?_⟩
  obtain ⟨u, hu, e1, e2⟩ := h4 j c hc
  rw [List.getElem?_take] at hv
  split at hv
  · simp at hv; rw [hu] at hv; cases hv; exact ⟨e1, e2⟩
  · cases hv

theorem blit_get {vs us : List Value} {off : Nat} (h : off + us.length ≤ vs.length) (j : Nat) : (blit vs off us)[j]? = if j < off then vs[j]? else if j < off + us.length then us[j - off]? else vs[j]? := by
  unfold blit
  rw [List.getElem?_append]
  simp only [List.length_take]
  by_cases h1 : j < off
  · rw [if_pos (by omega), if_pos h1, List.getElem?_take, if_pos h1]
  · rw [if_neg (by omega), if_neg h1, List.getElem?_append]
    rw [show min off vs.length = off by omega]
    by_cases h2 : j < off + us.length
    · rw [if_pos (by omega), if_pos h2]
    · rw [if_neg (by omega), if_neg h2, List.getElem?_drop]
      congr 1; omega
theorem blit_take {vs us : List Value} {off n : Nat} (h : off + us.length ≤ n) (hn : n ≤ vs.length) : (blit vs off us).take n = blit (vs.take n) off us := by
  apply List.ext_getElem?
  intro j
  rw [List.getElem?_take, blit_get (by omega), blit_get (by simp; omega)]
  by_cases hj : j < n
  · rw [if_pos hj, List.getElem?_take, if_pos hj]
  · rw [if_neg hj, if_neg (by omega), if_neg (by omega), List.getElem?_take, if_neg hj]

/-- The box behind it, when cells have been stored. -/
theorem box_stored {G : Gh} {w : World} {B : Box} {b off : Nat} {v : AVal} {u : Value} (h : BoxR G w B b) (hv : VR G.Z G.ι v u) (ht : ∀ vs, v ≠ .tup vs) (hle : off + v.cells.length ≤ B.cells.length) :
    ∃ w', (storeCells ⟨b, off, none⟩ u.cells.toList 0).run P w = .ok () w' ∧ BoxR G w' ⟨splice B.cells off v.cells⟩ b ∧ (∀ c, c ≠ b → w'.heap[c]? = w.heap[c]?) ∧ w'.heap.size = w.heap.size ∧
      w'.os = w.os ∧ w'.tape = w.tape ∧ w'.output = w.output ∧ ∀ m, Room w (b, m) → Room w' (b, m) := by
  have h0 := h
  obtain ⟨arr, T, fr, hb, _⟩ := h0
  obtain ⟨h1, h2, h3⟩ := L2.of_box h hb
  have hl := hv.l2 ht
  obtain ⟨w', r1, r2, r3, r4, r5, r6, r7⟩ := run_storeCells_blit P b off T fr u.cells.toList 0 w arr hb (by rw [← hl.1]; omega) (fun j e1 e2 => h2 j (by rw [← hl.1] at e2; omega))
    (fun x hx => by
      obtain ⟨i, hi⟩ := List.getElem?_of_mem hx
      have hlt : i < v.cells.length := by rw [hl.1]; exact (List.getElem?_eq_some_iff.1 hi).1
      exact (hl.2 i _ x (List.getElem?_eq_getElem hlt) hi).2)
  refine ⟨w', r1, .of r2 ?_ ?_ ?_, r3, r4, r5, r6, r7, fun m hm => ?_⟩
  · intro j hj
    refine h2 j ?_
    have : (blit arr.toList (off + 0) u.cells.toList).length = arr.toList.length := blit_length (by rw [← hl.1]; simp; omega)
    simp at hj this
    omega
  · show (splice B.cells off v.cells).length ≤ _
    rw [splice_length hle]
    have : (blit arr.toList (off + 0) u.cells.toList).length = arr.toList.length := blit_length (by rw [← hl.1]; simp; omega)
    simp at this ⊢
    omega
  · show L2 _ _ (splice B.cells off v.cells) _
    rw [splice_length hle]
    simp only [Nat.add_zero]
    rw [blit_take (by rw [← hl.1]; omega) (by simp; omega)]
    exact h3.splice hl off
  · obtain ⟨arr', T', fr', q1, q2⟩ := hm
    rw [hb] at q1; cases q1
    refine ⟨_, _, _, r2, ?_⟩
    have : (blit arr.toList (off + 0) u.cells.toList).length = arr.toList.length := blit_length (by rw [← hl.1]; simp; omega)
    simp only [List.size_toArray, this, Array.length_toList]
    exact q2

theorem ok_store {t : TypeId} {n : Nat} {root : Option Nat} {x y : Operand} (hop : o.op = .store t x y) (hdst : o.dst = none) (hs : sizeT P t = some n) : OpOK P C nt o (.store n root x y) := by
  intro G st a w H out c h next Q hn hp
  simp only [sem] at h
  have hr := rdO_rel H x
  have hrun : ∀ b off u w', a.eval x = .pointer (some ⟨b, off, none⟩) → a.eval y = u → u.cells.size = n → (storeCells ⟨b, off, none⟩ u.cells.toList 0).run P w = .ok () w' → (execOp a.eval o).run P w = .ok .skip w' := by
    intro b off u w' he hu hsz hl
    simp [execOp, hop, he, hu, Instr.storeAt, Instr.sureAddr, storeVar, size_run hs, hsz, hl]
  rcases withBox_some h with ⟨r, off, B, h1, h2, h3, h4⟩ | ⟨g, off, f, sg, B, h1, h2, h3, h4, hnemp, h5⟩
  · obtain ⟨v, e1, e2⟩ := withA_some h4
    obtain ⟨e3, e4⟩ := bif_some e2
    obtain ⟨e5, e6⟩ := bif_some e4
    have e3 := Nat.eq_of_beq_eq_true e3
    have e5 := Nat.le_of_ble_eq_true e5
    obtain ⟨hv, ht⟩ := rdA_rel H e1
    rw [h2] at hr
    obtain ⟨blk, k1, k2, k3⟩ := hr
    obtain ⟨b, k4, k5, k6⟩ := H.lbox r B h3
    rw [k1] at k4; cases k4
    obtain ⟨w', r1, r2, r3, r4, r5, r6, r7, r8⟩ := box_stored (P := P) k6 hv ht (by rw [e3]; exact e5)
    obtain ⟨R', F'⟩ := H.storeL h3 k1 k5 r5 r6 r7 r4 r3 r2
    refine wp_skipO (hrun _ _ _ w' k3 rfl (by rw [(hv.cells ht).1]; exact e3) r1) (hn _ G _ _ e6 ?_ (put_defers _ _ _) F')
    rw [hdst]; exact R'
  · obtain ⟨v, e1, e2⟩ := withA_some h5
    obtain ⟨e3, e4⟩ := bif_some e2
    obtain ⟨e5, e6⟩ := bif_some e4
    have e3 := Nat.eq_of_beq_eq_true e3
    have e5 := Nat.le_of_ble_eq_true e5
    obtain ⟨hv, ht⟩ := rdA_rel H e1
    rw [h2] at hr
    rcases hr with hr | hr
    · cases hr
    generalize he : a.eval x = u at hr
    cases hr with
    | gp hg =>
      obtain ⟨b, k4, k5, k6, k7⟩ := H.gbox sg h3 g B h4 hnemp
      rw [hg] at k4; cases k4
      obtain ⟨w', r1, r2, r3, r4, r5, r6, r7, r8⟩ := box_stored (P := P) k6 hv ht (by rw [e3]; exact e5)
      obtain ⟨R', F'⟩ := H.storeG h3 h4 hg k5 (r8 _ k7) r5 r6 r7 r4 r3 r2
      have e7 : c (.go [(.g, .sg (sg.set g ⟨splice B.cells off v.cells⟩))]) = some out := by
        simp only [bindL] at e6
        rw [h2, h3] at e6; exact e6
      refine wp_skipO (hrun _ _ _ w' he rfl (by rw [(hv.cells ht).1]; exact e3) r1) (hn _ G _ _ e7 ?_ (put_defers _ _ _) F')
      rw [hdst]; exact R'
end
end Go.Abs
