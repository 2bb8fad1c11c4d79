/- THE ENGINE, part 28: boxes in the common store, calls that leave it alone, full slices. -/
import Derived.Test.YtafmbianlodemaaSnd27
namespace Go.Abs
set_option linter.unusedSectionVars false
set_option linter.unusedVariables false
set_option linter.unusedSimpArgs false
section
variable {P : Program} {C : CallF} {nt : Nat} {o : Oper}

/-- A new block in the common store. -/
theorem Rel.newG {G : Gh} {nt : Nat} {st : St} {tm : Array Value} {w w' : World} (H : Rel G nt st tm w) {sg : Sg} (hsg : st .g = .sg sg) {arr : Array Value} {T : TypeId} {fr : Nat × Nat} {B : Box}
    (hheap : w'.heap = w.heap.push (.cells arr T fr)) (h1 : w'.os = w.os) (h2 : w'.tape = w.tape) (h3 : w'.output = w.output) (hf : ∀ j, j < arr.size → ¬ (fr.1 ≤ j ∧ j < fr.2))
    (hl : B.cells.length ≤ arr.size) (hB : L2 G.Z G.ι B.cells (arr.toList.take B.cells.length)) :
    ∃ G', Rel G' nt (upd st .g (.sg (sg ++ [B]))) tm w' ∧ Fr G w G' w' ∧ G'.ι sg.length = some (w.heap.size, arr.size) := by
  let G' : Gh := { G with ι := fun i => if i = sg.length then some (w.heap.size, arr.size) else G.ι i, own := fun b => if b = w.heap.size then some (.gbox sg.length) else G.own b }
  have hsz : w.heap.size ≤ w'.heap.size := by simp [hheap]
  have hold : ∀ b, b < w.heap.size → w'.heap[b]? = w.heap[b]? := by
    intro b hb; rw [hheap, Array.getElem?_push, if_neg (by omega)]
  have hnew : w'.heap[w.heap.size]? = some (.cells arr T fr) := by rw [hheap, Array.getElem?_push]; simp
  have R1 := H.grow hsz hold
  have hnone : G.ι sg.length = none := H.gdom sg hsg _ (Nat.le_refl _)
  have hι : ∀ g b, G.ι g = some b → G'.ι g = some b := fun g b h => by
    have : g ≠ sg.length := by rintro rfl; rw [hnone] at h; cases h
    simp [G', this, h]
  have hlt : ∀ b oo, G.own b = some oo → b ≠ w.heap.size := fun b oo h => by have := H.ownlt b oo h; omega
  have hown : ∀ b oo, G.own b = some oo → G'.own b = some oo := fun b oo h => by simp [G', hlt b oo h, h]
  have hls : ∀ i, upd st .g (.sg (sg ++ [B])) (.s i) = st (.s i) := fun i => upd_ne _ _ (by simp)
  have hll : ∀ i, upd st .g (.sg (sg ++ [B])) (.l i) = st (.l i) := fun i => upd_ne _ _ (by simp)
  have hbox : ∀ {B' : Box} {b : Nat}, BoxR G w' B' b → BoxR G' w' B' b := by
    rintro B' b ⟨arr, T, fr, p1, p2, p3, p4⟩
    exact ⟨arr, T, fr, p1, p2, p3, fun j c hc => by obtain ⟨u, q1, q2, q3⟩ := p4 j c hc; exact ⟨u, q1, q2.mono (fun _ _ h => h) hι, q3⟩⟩
  refine ⟨G', ⟨R1.size, fun i s hi => ?_, fun i B' hB' => ?_, fun s hs g B' hB' hne => ?_, fun s hs g hg => ?_, fun aa v h => ?_, fun b oo h => ?_⟩, ⟨h1, h2, h3, hsz, fun _ _ h => h, hι, fun b hb ho => ⟨hold b hb, by simp [G', ho]; omega, fun _ _ => rfl⟩⟩, by simp [G']⟩
  · rw [hls] at hi
    have h0 := R1.slots i s hi
    have h1' : SlotR G' st w' i s (tm.getD i undef) := by
      cases s with
      | v vv f =>
        refine ⟨h0.1.imp id fun h => h.mono (fun _ _ h => h) hι, fun hf => ?_⟩
        obtain ⟨nn, sz, l, e1, e2⟩ := h0.2 hf
        refine ⟨nn, sz, l, e1, ?_⟩
        rcases e2 with e2 | ⟨b, off, n, cap, e3, e4, e5⟩
        · exact .inl e2
        · exact .inr ⟨b, off, n, cap, e3, hown _ _ e4, e5⟩
      | lp b off => exact h0
      | ls b off n => exact h0
    exact h1'.congr fun b B' hB' => ⟨B', by rw [hll]; exact hB'⟩
  · rw [hll] at hB'
    obtain ⟨b, e1, e2, e3⟩ := R1.lbox i B' hB'
    exact ⟨b, e1, hown _ _ e2, hbox e3⟩
  · rw [upd_self] at hs; cases hs
    by_cases hg : g < sg.length
    · rw [List.getElem?_append_left hg] at hB'
      obtain ⟨b, e1, e2, e3, e4⟩ := R1.gbox sg hsg g B' hB' hne
      exact ⟨b, hι _ _ e1, hown _ _ e2, hbox e3, e4⟩
    · have hge : g = sg.length := by
        have := (List.getElem?_eq_some_iff.1 hB').1
        simp at this; omega
      subst hge
      simp at hB'
      subst hB'
      refine ⟨(w.heap.size, arr.size), by simp [G'], by simp [G'], .of (G := G') hnew hf hl ?_, arr, T, fr, hnew, rfl⟩
      exact hB.mono (fun _ _ h => h) hι
  · rw [upd_self] at hs; cases hs
    simp at hg
    have : g ≠ sg.length := by omega
    simp only [G', this, if_false]
    exact H.gdom sg hsg g (by omega)
  · obtain ⟨e1, e2, e3⟩ := R1.frz aa v h
    have hb := cell_lt (H.frz aa v h).1
    refine ⟨e1, e2, fun oo ho => e3 oo ?_⟩
    simp only [G'] at ho
    rwa [if_neg (by omega)] at ho
  · simp only [G'] at h
    split at h
    · rename_i hb; subst hb; simp [hheap]
    · exact Nat.lt_of_lt_of_le (H.ownlt b oo h) hsz

theorem ok_boxG {t : TypeId} {x : Operand} (hd : ∀ x, o.dst = some x → x < nt) (hop : o.op = .box t x) : OpOK P C nt o (.boxG x) := by
  intro G st a w H out c h next Q hn hp
  simp only [sem] at h
  obtain ⟨v, h1, h2⟩ := withA_some h
  split at h2
  · rename_i sg hsg
    obtain ⟨hv, ht⟩ := rdA_rel H h1
    have hl2 := hv.l2 ht
    obtain ⟨G', R', F', hi⟩ := H.newG (w' := { w with heap := w.heap.push (.cells (a.eval x).cells t) }) hsg (arr := (a.eval x).cells) (T := t) (fr := (0, 0)) (B := ⟨v.cells⟩) rfl rfl rfl rfl (by intro j _; simp) (by have := hl2.1; simp at this; simp [this])
      (by show L2 _ _ _ (List.take _ _); rw [List.take_of_length_le (by show _ ≤ List.length _; rw [hl2.1]; exact Nat.le_refl _)]; exact hl2)
    have hrun : (execOp a.eval o).run P w = .ok (.value (.pointer (some ⟨w.heap.size, 0, none⟩))) { w with heap := w.heap.push (.cells (a.eval x).cells t) } := by
      simp [execOp, hop, Instr.box, newVar, newRow]
    exact wp_val hrun (hn _ G' _ _ h2 (R'.dst hd fun _ _ => slotV (.gp hi)) (put_defers _ _ _) F')
  · cases h2

theorem ok_allocG {t : TypeId} {z : List AVal} (hd : ∀ x, o.dst = some x → x < nt) (hop : o.op = .alloc t) (hz : zeroT P t = some z) : OpOK P C nt o (.allocG z) := by
  intro G st a w H out c h next Q hn hp
  simp only [sem] at h
  split at h
  · rename_i sg hsg
    obtain ⟨v, hv, hl⟩ := zeroT_run hz w
    have hl2 := hl G.Z G.ι
    obtain ⟨G', R', F', hi⟩ := H.newG (w' := { w with heap := w.heap.push (.cells v.cells t) }) hsg (arr := v.cells) (T := t) (fr := (0, 0)) (B := ⟨z⟩) rfl rfl rfl rfl (by intro j _; simp) (by have := hl2.1; simp at this; simp [this])
      (by show L2 _ _ _ (List.take _ _); rw [List.take_of_length_le (by show _ ≤ List.length _; rw [hl2.1]; exact Nat.le_refl _)]; exact hl2)
    have hrun : (execOp a.eval o).run P w = .ok (.value (.pointer (some ⟨w.heap.size, 0, none⟩))) { w with heap := w.heap.push (.cells v.cells t) } := by
      simp [execOp, hop, Instr.alloc, hv, newVar, newRow]
    exact wp_val hrun (hn _ G' _ _ h (R'.dst hd fun _ _ => slotV (.gp hi)) (put_defers _ _ _) F')
  · cases h

/-! ### What does not lead into the common store -/
theorem noGs_mem : ∀ {l : List AVal}, noGs l = true → ∀ a ∈ l, noG a = true
  | [], _, a, h => by cases h
  | b :: l, h, a, ha => by
    simp only [noGs, Bool.and_eq_true] at h
    rcases List.mem_cons.1 ha with rfl | ha
    · exact h.1
    · exact noGs_mem h.2 a ha
theorem noG_cells {a c : AVal} (h : noG a = true) (hc : c ∈ a.cells) : noG c = true := by
  cases a <;> simp only [AVal.cells, List.mem_singleton] at hc <;> first | (subst hc; exact h) | skip
  exact noGs_mem (by simpa only [noG] using h) c hc
theorem VR.noG {Z : Fz} {ι ι' : Iot} {a : AVal} {v : Value} (h : VR Z ι a v) : Go.Abs.noG a = true → VR Z ι' a v := by
  induction h with
  | «at» h => intro _; exact .at h
  | agg hl _ h1 ih => intro hg; simp only [Go.Abs.noG] at hg; exact .agg hl (fun i a v e1 e2 => ih i a v e1 e2 (noGs_mem hg a (List.mem_of_getElem? e1))) h1
  | tup hl _ ih => intro hg; simp only [Go.Abs.noG] at hg; exact .tup hl (fun i a v e1 e2 => ih i a v e1 e2 (noGs_mem hg a (List.mem_of_getElem? e1)))
  | nil => intro _; exact .nil
  | sl vals hn hcap hsz hz _ hagg ih =>
    intro hg
    simp only [Go.Abs.noG] at hg
    exact .sl vals hn hcap hsz hz (fun i j a c e1 e2 => ih i j a c e1 e2 (noG_cells (noGs_mem hg a (List.mem_of_getElem? e1)) (List.mem_of_getElem? e2))) hagg
  | ep vals hz _ ih => intro hg; simp only [Go.Abs.noG] at hg; exact .ep vals hz (fun j c e1 => ih j c e1 (noGs_mem hg c (List.mem_of_getElem? e1)))
  | gp h => intro hg; simp [Go.Abs.noG] at hg
  | gs h hc hr => intro hg; simp [Go.Abs.noG] at hg
  | clo hl _ hl2 _ ht ih ih2 =>
    intro hg
    simp only [Go.Abs.noG, Bool.and_eq_true] at hg
    exact .clo hl (fun i a v e1 e2 => ih i a v e1 e2 (noGs_mem hg.1 a (List.mem_of_getElem? e1))) hl2 (fun i a v e1 e2 => ih2 i a v e1 e2 (noGs_mem hg.2 a (List.mem_of_getElem? e1))) ht
  | ifc _ ih => intro hg; simp only [Go.Abs.noG] at hg; exact .ifc (ih hg)

/-- The caller's view without anything of its own. -/
def Gh.bare (G : Gh) : Gh := ⟨G.Z, fun _ => none, fun _ => none, fun _ => none⟩
theorem Rel.toP {G : Gh} {st : St} {tm : Array Value} {w : World} (H : Rel G nt st tm w) : GRel G.bare [] w :=
  ⟨fun g B h hne => (by simp at h), fun _ _ => rfl, fun a v h => ⟨(H.frz a v h).1, (H.frz a v h).2.1, rfl⟩, fun _ _ h => (by cases h), fun _ _ h => (by cases h)⟩
theorem Rel.fromP {G G1 : Gh} {st : St} {tm : Array Value} {w w1 : World} {sg' : Sg} (H : Rel G nt st tm w) (F : Fr G.bare w G1 w1) (K : GRel G1 sg' w1) :
    Rel { G with Z := G1.Z } nt st tm w1 ∧ Fr G w { G with Z := G1.Z } w1 := by
  have hheap : ∀ b, b < w.heap.size → w1.heap[b]? = w.heap[b]? ∧ ∀ j s, G1.Z ⟨b, j, s⟩ = G.Z ⟨b, j, s⟩ := fun b hb => by
    obtain ⟨h1, _, h3⟩ := F.rest b hb rfl
    exact ⟨h1, h3⟩
  have hZ : ∀ a v, G.Z a = some v → G1.Z a = some v := F.Z
  have hbox : ∀ {B' : Box} {b : Nat}, b < w.heap.size → BoxR G w B' b → BoxR { G with Z := G1.Z } w1 B' b := by
    rintro B' b hb ⟨arr, T, fr, p1, p2, p3, p4⟩
    exact ⟨arr, T, fr, (hheap b hb).1.trans p1, p2, p3, fun j c hc => by obtain ⟨u, q1, q2, q3⟩ := p4 j c hc; exact ⟨u, q1, q2.mono hZ (fun _ _ h => h), q3⟩⟩
  refine ⟨⟨H.size, fun i s hi => ?_, fun i B hB => ?_, fun s hs g B hB hne => ?_, H.gdom, fun a v h => ?_, fun b oo h => Nat.lt_of_lt_of_le (H.ownlt b oo h) F.size⟩, ⟨F.os, F.tape, F.output, F.size, hZ, fun _ _ h => h, fun b hb ho => ⟨(hheap b hb).1, ho, (hheap b hb).2⟩⟩⟩
  · have h0 := H.slots i s hi
    cases s with
    | v vv f =>
      refine ⟨h0.1.imp id fun h => h.mono hZ (fun _ _ h => h), fun hf => ?_⟩
      obtain ⟨nn, sz, l, e1, e2⟩ := h0.2 hf
      refine ⟨nn, sz, l, e1, ?_⟩
      rcases e2 with e2 | ⟨b, off, n, cap, e3, e4, e5⟩
      · exact .inl e2
      · obtain ⟨k1, k2⟩ := hheap b (H.ownlt b _ e4)
        obtain ⟨arr, T, fr, p1, p2, p3, p4⟩ := e5
        exact .inr ⟨b, off, n, cap, e3, e4, arr, T, fr, k1.trans p1, p2, fun j hj => (k2 j none).trans (p3 j hj), p4⟩
    | lp b off => exact h0
    | ls b off n => exact h0
  · obtain ⟨b, e1, e2, e3⟩ := H.lbox i B hB
    exact ⟨b, e1, e2, hbox (H.ownlt b _ e2) e3⟩
  · obtain ⟨b, e1, e2, e3, e4⟩ := H.gbox s hs g B hB hne
    exact ⟨b, e1, e2, hbox (H.ownlt b.1 _ e2) e3, e4.same (hheap b.1 (H.ownlt b.1 _ e2)).1⟩
  · obtain ⟨e1, e2, _⟩ := K.frz a v h
    refine ⟨e1, e2, fun oo ho => ?_⟩
    have hb := H.ownlt _ _ ho
    have : G.Z a = some v := by
      have := (hheap _ hb).2 a.off a.spot
      rw [show (⟨a.block, a.off, a.spot⟩ : Addr) = a from rfl] at this
      rw [← this]; exact h
    exact (H.frz a v this).2.2 oo ho

theorem ok_callP (hC : SoundC P C) {f : FuncId} {xs : Array Operand} {tys : Array TypeId} {ks : List CK} (hd : ∀ x, o.dst = some x → x < nt) (hop : o.op = .call { callee := .value (.func f), args := xs, argTypes := tys }) :
    OpOK P C nt o (.callP f xs.toList ks) := by
  intro G st a w H out c h next Q hn hp
  simp only [sem] at h
  split at h
  · rename_i as has
    obtain ⟨hg, h⟩ := bif_some h
    obtain ⟨hl, hv⟩ := args_rel H has
    have hrun : (execOp a.eval o).run P w = .ok (.enter f (xs.map a.eval)) w := by
      simp [execOp, hop, resolve, Deferred.ofValue, Act.eval, invoke, callFunc_run (withOut_enters hC h)]
    unfold Oper.wp
    rw [hrun, Oper.upon_enter]
    unfold withOut at h
    split at h
    · rename_i v sg' hc
      refine ((hC f as [] _ hc).2 G.bare w (xs.map a.eval) H.toP (by simpa using hl) (fun i aa v h1 h2 => ?_)).mono ?_
      · obtain ⟨x, hx, hr, ht⟩ := hv i aa h1
        rw [Array.getElem?_toList] at hx
        simp [hx] at h2
        subst h2; exact ⟨hr.noG (noGs_mem hg aa (List.mem_of_getElem? h1)), ht⟩
      · rintro e w' ⟨G1, F, u, rfl, hu, K⟩
        obtain ⟨R2, F2⟩ := H.fromP F K
        obtain ⟨v', hc', hvr⟩ := withRes_some h
        obtain ⟨hng, hc'⟩ := bif_some hc'
        have hu' : VR G1.Z G.ι v' u := (hvr _ _ _ hu).noG hng
        exact hn _ _ _ _ hc' (R2.dst hd fun _ _ => slotV hu') (put_defers _ _ _) F2
    · cases h
    · cases h
  · cases h

/-! ### A call that gives its own store's data -/
theorem Rel.fromZ {G : Gh} {st : St} {tm : Array Value} {w w1 : World} {Z2 : Fz} (H : Rel G nt st tm w) (os : w1.os = w.os) (tape : w1.tape = w.tape) (output : w1.output = w.output) (size : w.heap.size ≤ w1.heap.size)
    (hZ : ∀ a v, G.Z a = some v → Z2 a = some v) (hheap : ∀ b, b < w.heap.size → w1.heap[b]? = w.heap[b]? ∧ ∀ j s, Z2 ⟨b, j, s⟩ = G.Z ⟨b, j, s⟩) (hfrz : ∀ a v, Z2 a = some v → w1.cell? a = some v ∧ one v = true) :
    Rel { G with Z := Z2 } nt st tm w1 ∧ Fr G w { G with Z := Z2 } w1 := by
  have hbox : ∀ {B' : Box} {b : Nat}, b < w.heap.size → BoxR G w B' b → BoxR { G with Z := Z2 } w1 B' b := by
    rintro B' b hb ⟨arr, T, fr, p1, p2, p3, p4⟩
    exact ⟨arr, T, fr, (hheap b hb).1.trans p1, p2, p3, fun j c hc => by obtain ⟨u, q1, q2, q3⟩ := p4 j c hc; exact ⟨u, q1, q2.mono hZ (fun _ _ h => h), q3⟩⟩
  refine ⟨⟨H.size, fun i s hi => ?_, fun i B hB => ?_, fun s hs g B hB hne => ?_, H.gdom, fun a v h => ?_, fun b oo h => Nat.lt_of_lt_of_le (H.ownlt b oo h) size⟩, ⟨os, tape, output, size, hZ, fun _ _ h => h, fun b hb ho => ⟨(hheap b hb).1, ho, (hheap b hb).2⟩⟩⟩
  · have h0 := H.slots i s hi
    cases s with
    | v vv f =>
      refine ⟨h0.1.imp id fun h => h.mono hZ (fun _ _ h => h), fun hf => ?_⟩
      obtain ⟨nn, sz, l, e1, e2⟩ := h0.2 hf
      refine ⟨nn, sz, l, e1, ?_⟩
      rcases e2 with e2 | ⟨b, off, n, cap, e3, e4, e5⟩
      · exact .inl e2
      · obtain ⟨k1, k2⟩ := hheap b (H.ownlt b _ e4)
        obtain ⟨arr, T, fr, p1, p2, p3, p4⟩ := e5
        exact .inr ⟨b, off, n, cap, e3, e4, arr, T, fr, k1.trans p1, p2, fun j hj => (k2 j none).trans (p3 j hj), p4⟩
    | lp b off => exact h0
    | ls b off n => exact h0
  · obtain ⟨b, e1, e2, e3⟩ := H.lbox i B hB
    exact ⟨b, e1, e2, hbox (H.ownlt b _ e2) e3⟩
  · obtain ⟨b, e1, e2, e3, e4⟩ := H.gbox s hs g B hB hne
    exact ⟨b, e1, e2, hbox (H.ownlt b.1 _ e2) e3, e4.same (hheap b.1 (H.ownlt b.1 _ e2)).1⟩
  · obtain ⟨e1, e2⟩ := hfrz a v h
    refine ⟨e1, e2, fun oo ho => ?_⟩
    have hb := H.ownlt _ _ ho
    have : G.Z a = some v := by
      have := (hheap _ hb).2 a.off a.spot
      rw [show (⟨a.block, a.off, a.spot⟩ : Addr) = a from rfl] at this
      rw [← this]; exact h
    exact (H.frz a v this).2.2 oo ho

/-- All cells of the callee's own boxes, as they stand. -/
def ThawP (G : Gh) (sg : Sg) (a : Addr) : Prop := a.spot = none ∧ ∃ g B b, sg[g]? = some B ∧ a.off < B.cells.length ∧ G.ι g = some b ∧ b.1 = a.block
open Classical in
noncomputable def thawZ (G : Gh) (sg : Sg) (w : World) : Fz := fun a => match G.Z a with
  | some v => some v
  | none => if ThawP G sg a then w.cell? a else none
theorem thawZ_old {G : Gh} {sg : Sg} {w : World} {a : Addr} {v : Value} (h : G.Z a = some v) : thawZ G sg w a = some v := by simp only [thawZ, h]
theorem cells_ne {B : Box} {j : Nat} (h : j < B.cells.length) : B.cells ≠ [] := by intro e; rw [e] at h; simp at h
theorem thawZ_none {G : Gh} {sg : Sg} {w : World} (K : GRel G sg w) {a : Addr} (h : G.own a.block = none) : thawZ G sg w a = G.Z a := by
  unfold thawZ
  split
  · rename_i v e; exact e.symm
  · rename_i e
    rw [e]
    refine if_neg ?_
    rintro ⟨_, g, B, b, hB, hlt, hι, hb⟩
    obtain ⟨b', e1, e2, _⟩ := K.gbox g B hB (cells_ne hlt)
    rw [hι] at e1; cases e1
    rw [hb, h] at e2; cases e2
theorem GRel.box {G : Gh} {sg : Sg} {w : World} (K : GRel G sg w) {g : Nat} {B : Box} {b : Nat × Nat} (hB : sg[g]? = some B) (hι : G.ι g = some b) {j : Nat} {c : AVal} (hc : B.cells[j]? = some c) :
    G.own b.1 = some (.gbox g) ∧ ∃ u, w.cell? ⟨b.1, j, none⟩ = some u ∧ VR G.Z G.ι c u ∧ one u = true := by
  obtain ⟨b', e1, e2, ⟨arr, T, fr, p1, p2, p3, p4⟩, _⟩ := K.gbox g B hB (cells_ne (List.getElem?_eq_some_iff.1 hc).1)
  rw [hι] at e1; cases e1
  obtain ⟨u, q1, q2, q3⟩ := p4 j c hc
  exact ⟨e2, u, by simp [World.cell?, p1, q1], q2, q3⟩
theorem thawZ_cell {G : Gh} {sg : Sg} {w : World} (K : GRel G sg w) {a : Addr} {v : Value} (h : thawZ G sg w a = some v) : w.cell? a = some v ∧ one v = true := by
  unfold thawZ at h
  split at h
  · rename_i v' e; cases h; exact ⟨(K.frz a v e).1, (K.frz a v e).2.1⟩
  · split at h
    · rename_i hp
      obtain ⟨hsp, g, B, b, hB, hlt, hι, hb⟩ := hp
      refine ⟨h, ?_⟩
      obtain ⟨_, u, h1, _, h2⟩ := K.box hB hι (List.getElem?_eq_getElem hlt)
      have : (⟨b.1, a.off, none⟩ : Addr) = a := by rw [hb, ← hsp]
      rw [this, h] at h1
      cases h1
      exact h2
    · cases h
theorem thawZ_at {G : Gh} {sg : Sg} {w : World} (K : GRel G sg w) {g : Nat} {B : Box} {b : Nat × Nat} (hB : sg[g]? = some B) (hι : G.ι g = some b) {j : Nat} {u : Value} (hj : j < B.cells.length) (hu : w.cell? ⟨b.1, j, none⟩ = some u) :
    thawZ G sg w ⟨b.1, j, none⟩ = some u := by
  obtain ⟨ho, _⟩ := K.box hB hι (List.getElem?_eq_getElem hj)
  unfold thawZ
  split
  · rename_i v e
    have := (K.frz _ v e).2.2
    rw [ho] at this; cases this
  · rw [if_pos ⟨rfl, g, B, b, hB, hj, hι, rfl⟩]; exact hu
theorem thawL_some {f : AVal → Option AVal} : ∀ {l m : List AVal}, thawL f l = some m → m.length = l.length ∧ ∀ (i : Nat) b, m[i]? = some b → ∃ a, l[i]? = some a ∧ f a = some b
  | [], m, h => by simp only [thawL, Option.some.injEq] at h; subst h; exact ⟨rfl, fun i b h => by simp at h⟩
  | a :: l, m, h => by
    simp only [thawL] at h
    split at h
    · rename_i b hb
      split at h
      · rename_i m' hm
        cases h
        obtain ⟨h1, h2⟩ := thawL_some hm
        refine ⟨by simp [h1], fun i c hc => ?_⟩
        cases i with
        | zero => simp at hc; subst hc; exact ⟨a, rfl, hb⟩
        | succ i => simp at hc; obtain ⟨a', e1, e2⟩ := h2 i c hc; exact ⟨a', by simpa using e1, e2⟩
      · cases h
    · cases h
theorem chunks_len (sz : Nat) : ∀ (n : Nat) (cs : List AVal), (chunks sz n cs).length = n
  | 0, _ => rfl
  | n + 1, cs => by simp [chunks, chunks_len sz n]
theorem chunks_get (sz : Nat) : ∀ {n : Nat} {cs : List AVal} {i : Nat}, i < n → (chunks sz n cs)[i]? = some (bif Nat.beq sz 1 then (cs.drop (i * sz)).headD .junk else .agg ((cs.drop (i * sz)).take sz))
  | 0, _, _, h => by omega
  | n + 1, cs, 0, h => by simp [chunks]
  | n + 1, cs, i + 1, h => by
    simp only [chunks, List.getElem?_cons_succ]
    rw [chunks_get sz (by omega), List.drop_drop, Nat.add_mul, Nat.one_mul, Nat.add_comm sz]

theorem thaw_rel {G : Gh} {sg : Sg} {w : World} (K : GRel G sg w) {ι' : Iot} : ∀ (n : Nat) {v v' : AVal} {u : Value}, thaw n sg v = some v' → VR G.Z G.ι v u → VR (thawZ G sg w) ι' v' u
  | 0, _, _, _, h, _ => by cases h
  | n + 1, v, v', u, h, hv => by
    unfold thaw at h
    cases hg : noG v with
    | true =>
      rw [hg] at h
      simp only [cond_true, Option.some.injEq] at h
      subst h
      exact (hv.noG (ι' := ι') hg).mono (fun _ _ h => thawZ_old h) (fun _ _ h => h)
    | false =>
      rw [hg] at h
      simp only [cond_false] at h
      split at h
      · rename_i vs
        obtain ⟨m, hm, rfl⟩ := Option.map_eq_some_iff.1 h
        obtain ⟨h1, h2⟩ := thawL_some hm
        cases hv with
        | tup hl hh => exact .tup (h1.trans hl) (fun i a x e1 e2 => by obtain ⟨a', e3, e4⟩ := h2 i a e1; exact thaw_rel K n e4 (hh i a' x e3 e2))
      · rename_i cs
        obtain ⟨m, hm, rfl⟩ := Option.map_eq_some_iff.1 h
        obtain ⟨h1, h2⟩ := thawL_some hm
        cases hv with
        | agg hl hh h3 => exact .agg (h1.trans hl) (fun i a x e1 e2 => by obtain ⟨a', e3, e4⟩ := h2 i a e1; exact thaw_rel K n e4 (hh i a' x e3 e2)) h3
      · rename_i g off
        split at h
        · rename_i B hB
          obtain ⟨m, hm, rfl⟩ := Option.map_eq_some_iff.1 h
          obtain ⟨h1, h2⟩ := thawL_some hm
          cases hv with
          | @gp _ _ b hι =>
            have get : ∀ (j : Nat) c, m[j]? = some c → thawZ G sg w ⟨b.1, off + j, none⟩ = some ((w.cell? ⟨b.1, off + j, none⟩).getD undef) ∧ VR (thawZ G sg w) ι' c ((w.cell? ⟨b.1, off + j, none⟩).getD undef) := fun j c hc => by
              obtain ⟨a, e1, e2⟩ := h2 j c hc
              rw [List.getElem?_drop] at e1
              obtain ⟨_, u, e3, e4, e5⟩ := K.box hB hι e1
              rw [e3]
              exact ⟨thawZ_at K hB hι (List.getElem?_eq_some_iff.1 e1).1 e3, thaw_rel K n e2 e4⟩
            refine .ep (fun j => (w.cell? ⟨b.1, off + j, none⟩).getD undef) (fun j hj => (get j _ (List.getElem?_eq_getElem hj)).1) (fun j c hc => (get j c hc).2)
        · cases h
      · rename_i g sz off len
        split at h
        · rename_i B hB
          obtain ⟨hc, h⟩ := bif_some h
          rw [Bool.and_eq_true] at hc
          have hr1 : off + len * sz ≤ B.cells.length := Nat.le_of_ble_eq_true hc.1
          have hr2 : 0 < sz := by have := hc.2; simpa using this
          obtain ⟨m, hm, rfl⟩ := Option.map_eq_some_iff.1 h
          obtain ⟨h1, h2⟩ := thawL_some hm
          have hml : m.length = len * sz := by rw [h1, List.length_take, List.length_drop]; omega
          cases hv with
          | @gs _ _ _ _ cap b hι hcap hroom =>
            have get : ∀ (j : Nat) c, m[j]? = some c → thawZ G sg w ⟨b.1, off + j, none⟩ = some ((w.cell? ⟨b.1, off + j, none⟩).getD undef) ∧ VR (thawZ G sg w) ι' c ((w.cell? ⟨b.1, off + j, none⟩).getD undef) ∧ one ((w.cell? ⟨b.1, off + j, none⟩).getD undef) = true := fun j c hc => by
              obtain ⟨a, e1, e2⟩ := h2 j c hc
              have hj : j < len * sz := by have := (List.getElem?_eq_some_iff.1 hc).1; omega
              rw [List.getElem?_take, if_pos hj, List.getElem?_drop] at e1
              obtain ⟨_, u, e3, e4, e5⟩ := K.box hB hι e1
              rw [e3]
              exact ⟨thawZ_at K hB hι (List.getElem?_eq_some_iff.1 e1).1 e3, thaw_rel K n e2 e4, e5⟩
            have single : ∀ {c : AVal} {x : Value}, VR (thawZ G sg w) ι' c x → one x = true → c.cells = [c] ∧ ∀ vs, c ≠ .tup vs := fun hx h1 => by
              cases hx <;> first | (exfalso; cases h1; done) | exact ⟨rfl, fun vs h => AVal.noConfusion h⟩
            have idx : ∀ i j, i < len → j < sz → i * sz + j < len * sz := fun i j hi hj => by
              have : (i + 1) * sz ≤ len * sz := Nat.mul_le_mul_right _ hi
              rw [Nat.add_mul, Nat.one_mul] at this; omega
            have elem : ∀ (i : Nat) a, (chunks sz len m)[i]? = some a → i < len ∧ a.cells.length = sz ∧ (∀ (j : Nat) c, a.cells[j]? = some c → m[i * sz + j]? = some c) ∧ ((∃ cs, a = .agg cs) ∨ (a.cells = [a] ∧ ∀ vs, a ≠ .tup vs)) := fun i a ha => by
              have hi : i < len := by have := (List.getElem?_eq_some_iff.1 ha).1; rw [chunks_len] at this; exact this
              rw [chunks_get sz hi] at ha
              cases hb : Nat.beq sz 1 with
              | true =>
                have e1 := Nat.eq_of_beq_eq_true hb
                subst e1
                rw [hb] at ha
                simp only [cond_true, Option.some.injEq] at ha
                have hlt : i * 1 < m.length := by rw [hml]; omega
                have ea : m[i * 1]? = some a := by
                  rw [List.drop_eq_getElem_cons hlt] at ha
                  simp only [List.headD_cons] at ha
                  rw [← ha, List.getElem?_eq_getElem hlt]
                obtain ⟨_, g2, g3⟩ := get _ _ ea
                obtain ⟨s1, s2⟩ := single g2 g3
                refine ⟨hi, by rw [s1]; rfl, fun j c hc => ?_, .inr ⟨s1, s2⟩⟩
                rw [s1] at hc
                cases j with
                | zero => simp only [List.getElem?_cons_zero, Option.some.injEq] at hc; subst hc; exact ea
                | succ j => simp at hc
              | false =>
                rw [hb] at ha
                simp only [cond_false, Option.some.injEq] at ha
                subst ha
                refine ⟨hi, ?_, fun j c hc => ?_, .inl ⟨_, rfl⟩⟩
                · simp only [AVal.cells, List.length_take, List.length_drop]
                  have := idx i (sz - 1) hi (by omega)
                  omega
                · simp only [AVal.cells, List.getElem?_take, List.getElem?_drop] at hc
                  split at hc
                  · exact hc
                  · cases hc
            refine .sl (fun j => (w.cell? ⟨b.1, off + j, none⟩).getD undef) (chunks_len sz len m).symm hcap (fun a ha => ?_) (fun j hj => ?_) (fun i j a c e1 e2 => ?_) (fun a ha => ?_)
            · obtain ⟨i, hi⟩ := List.getElem?_of_mem ha; exact (elem i a hi).2.1
            · have : j < m.length := by omega
              exact (get j _ (List.getElem?_eq_getElem this)).1
            · obtain ⟨_, _, e3, _⟩ := elem i a e1
              exact (get _ _ (e3 j c e2)).2.1
            · obtain ⟨i, hi⟩ := List.getElem?_of_mem ha; exact (elem i a hi).2.2.2
        · cases h
      · cases h

theorem ok_callD (hC : SoundC P C) {f : FuncId} {xs : Array Operand} {tys : Array TypeId} {ks : List CK} (hd : ∀ x, o.dst = some x → x < nt) (hop : o.op = .call { callee := .value (.func f), args := xs, argTypes := tys }) :
    OpOK P C nt o (.callD f xs.toList ks) := by
  intro G st a w H out c h next Q hn hp
  simp only [sem] at h
  split at h
  · rename_i as has
    obtain ⟨hg, h⟩ := bif_some h
    obtain ⟨hl, hv⟩ := args_rel H has
    have hrun : (execOp a.eval o).run P w = .ok (.enter f (xs.map a.eval)) w := by
      simp [execOp, hop, resolve, Deferred.ofValue, Act.eval, invoke, callFunc_run (withOut_enters hC h)]
    unfold Oper.wp
    rw [hrun, Oper.upon_enter]
    unfold withOut at h
    split at h
    · rename_i v sg' hc
      refine ((hC f as [] _ hc).2 G.bare w (xs.map a.eval) H.toP (by simpa using hl) (fun i aa v h1 h2 => ?_)).mono ?_
      · obtain ⟨x, hx, hr, ht⟩ := hv i aa h1
        rw [Array.getElem?_toList] at hx
        simp [hx] at h2
        subst h2; exact ⟨hr.noG (noGs_mem hg aa (List.mem_of_getElem? h1)), ht⟩
      · rintro e w' ⟨G1, F, u, rfl, hu, K⟩
        obtain ⟨v1, ht1, h⟩ := withO_some h
        obtain ⟨v', hc', hvr⟩ := withRes_some h
        obtain ⟨hng, hc'⟩ := bif_some hc'
        have hu' : VR (thawZ G1 sg' w') G.ι v' u := hvr _ _ _ (thaw_rel K (ι' := G.ι) 8 ht1 hu)
        have hold : ∀ b, b < w.heap.size → w'.heap[b]? = w.heap[b]? ∧ ∀ j s, thawZ G1 sg' w' ⟨b, j, s⟩ = G.Z ⟨b, j, s⟩ := fun b hb => by
          obtain ⟨h1, h2, h3⟩ := F.rest b hb rfl
          exact ⟨h1, fun j s => (thawZ_none K (a := ⟨b, j, s⟩) h2).trans (h3 j s)⟩
        obtain ⟨R2, F2⟩ := H.fromZ F.os F.tape F.output F.size (fun a v h => thawZ_old (F.Z a v h)) hold (fun a v h => thawZ_cell K h)
        exact hn _ _ _ _ hc' (R2.dst hd fun _ _ => slotV hu') (put_defers _ _ _) F2
    · cases h
    · cases h
  · cases h

theorem ok_sliceX {t : TypeId} {e : TypeId} {n : Nat} {x : Operand} {lo : Option Operand} {hi mx : Operand} (hd : ∀ x, o.dst = some x → x < nt) (hop : o.op = .slice t x lo (some hi) (some mx))
    (hu : P.underlying t = some (.slice e)) (hs : sizeT P e = some n) : OpOK P C nt o (.sliceX n x lo hi mx) := by
  intro G st a w H out c h next Q hn hp
  simp only [sem] at h
  split at h
  · rename_i g sz off n' hx
    obtain ⟨h1, h2⟩ := bif_some h
    have h1 := Nat.eq_of_beq_eq_true h1
    subst h1
    obtain ⟨km, m, hm1, h2⟩ := withN_some h2
    have em := at_eq (rdA_rel H hm1).1
    unfold bounds at h2
    obtain ⟨hh, e1, h3⟩ := intOr_some H h2
    have eh : ∃ k, a.eval hi = .int k hh := by
      rcases e1 with ⟨e1, _⟩ | ⟨y, k, e1, e2⟩
      · cases e1
      · cases e1; exact ⟨k, e2⟩
    obtain ⟨kh, eh⟩ := eh
    obtain ⟨ll, el, h4⟩ := intOr_some H h3
    obtain ⟨⟨b1, b2, b3⟩, h5⟩ := if_some h4
    obtain ⟨⟨b4, b5⟩, h6⟩ := if_some h5
    clear h2 h3 h4 h5 e1
    have h2 := h6
    clear h6
    obtain ⟨l, rfl⟩ := Int.eq_ofNat_of_zero_le b1
    obtain ⟨q, rfl⟩ := Int.eq_ofNat_of_zero_le (show 0 ≤ hh by omega)
    obtain ⟨r, rfl⟩ := Int.eq_ofNat_of_zero_le (show 0 ≤ m by omega)
    simp only [Int.toNat_natCast] at h2 b4
    have hlq : l ≤ q := by omega
    have hqr : q ≤ r := by omega
    have hrx : r ≤ n' := by omega
    obtain ⟨hv, _⟩ := rdA_rel H hx
    generalize he : a.eval x = u at hv
    cases hv with
    | @gs _ _ _ _ cap pb hg hc hr =>
      have hrc : r ≤ cap := by omega
      have hb : (Instr.sliceBounds true n' cap (lo.map a.eval) (some (a.eval hi)) (some (a.eval mx))).run P w = .ok (l, q, r) w := by
        rcases el with ⟨rfl, e2⟩ | ⟨z, k', rfl, e2⟩
        · have e2 : l = 0 := by omega
          subst e2
          simp [Instr.sliceBounds, Instr.sliceBound, asIntOf, em, eh, hrc, hqr]
        · simp [Instr.sliceBounds, Instr.sliceBound, asIntOf, em, eh, e2, hrc, hqr, hlq]
      have hroom : (if r = l then off else off + l * sz) + (r - l) * sz ≤ pb.2 := by
        have e1 : l * sz + (r - l) * sz = r * sz := by rw [← Nat.add_mul]; congr 1; omega
        have e2 : r * sz ≤ cap * sz := Nat.mul_le_mul_right _ hrc
        split
        · rename_i e; subst e; simp; omega
        · omega
      refine opVal (P := P) H hd (v := .slice (some ⟨pb.1, if r = l then off else off + l * sz, none⟩) (q - l) (r - l)) ?_ (fun _ => slotV (.gs hg (by omega) hroom)) h2 hn
      simp only [execOp, hop, Option.map_some, Sem.run_bind, Instr.sliceAt, run_underlying hu, Result.andThen_ok, Instr.slice, he, hb, size_run hs, Sem.run_pure]
      congr 3
      split
      · rfl
      · simp [add_mk]
  · rename_i nn sz xs hx
    obtain ⟨h1, h2⟩ := bif_some h
    have h1 := Nat.eq_of_beq_eq_true h1
    subst h1
    obtain ⟨km, m, hm1, h2⟩ := withN_some h2
    have em := at_eq (rdA_rel H hm1).1
    -- the bounds, by hand
    unfold bounds at h2
    obtain ⟨hh, e1, h3⟩ := intOr_some H h2
    have eh : ∃ k, a.eval hi = .int k hh := by
      rcases e1 with ⟨e1, _⟩ | ⟨y, k, e1, e2⟩
      · cases e1
      · cases e1; exact ⟨k, e2⟩
    obtain ⟨kh, eh⟩ := eh
    obtain ⟨ll, el, h4⟩ := intOr_some H h3
    obtain ⟨⟨b1, b2, b3⟩, h5⟩ := if_some h4
    obtain ⟨⟨b4, b5⟩, h6⟩ := if_some h5
    clear h2 h3 h4 h5 e1
    have h2 := h6
    clear h6
    obtain ⟨l, rfl⟩ := Int.eq_ofNat_of_zero_le b1
    obtain ⟨q, rfl⟩ := Int.eq_ofNat_of_zero_le (show 0 ≤ hh by omega)
    obtain ⟨r, rfl⟩ := Int.eq_ofNat_of_zero_le (show 0 ≤ m by omega)
    simp only [Int.toNat_natCast] at h2 b4
    have hlq : l ≤ q := by omega
    have hqr : q ≤ r := by omega
    have hrx : r ≤ xs.length := by omega
    have hb : ∀ cap, xs.length ≤ cap → ∀ w', (Instr.sliceBounds true xs.length cap (lo.map a.eval) (some (a.eval hi)) (some (a.eval mx))).run P w' = .ok (l, q, r) w' := by
      intro cap hcap w'
      have hrc : r ≤ cap := by omega
      rcases el with ⟨rfl, e2⟩ | ⟨z, k', rfl, e2⟩
      · have e2 : l = 0 := by omega
        subst e2
        simp [Instr.sliceBounds, Instr.sliceBound, asIntOf, em, eh, hrc, hqr]
      · simp [Instr.sliceBounds, Instr.sliceBound, asIntOf, em, eh, e2, hrc, hqr, hlq]
    obtain ⟨hv, _⟩ := rdA_rel H hx
    generalize he : a.eval x = u at hv
    rcases hv.sl_inv with ⟨rfl, rfl, rfl⟩ | ⟨rfl, b, off, cap, vals, rfl, hcap, hsz, hz, hr, hagg⟩
    · simp only [List.length_nil] at hrx
      obtain ⟨rfl, rfl, rfl⟩ : l = 0 ∧ q = 0 ∧ r = 0 := by omega
      have hb := hb 0 (Nat.le_refl _) w
      simp only [List.length_nil] at hb
      exact opVal (P := P) H hd (v := .slice none 0 0) (by simp [execOp, hop, Instr.sliceAt, run_underlying hu, Instr.slice, he, hb, size_run hs]) (fun _ => slotV (by simpa using VR.nil)) h2 hn
    · have hb := hb cap hcap w
      have hlen : ((xs.drop l).take (q - l)).length = q - l := by simp; omega
      refine opVal (P := P) H hd (v := .slice (some ⟨b, if r = l then off else off + l * sz, none⟩) (q - l) (r - l)) ?_ (fun _ => slotV (.sl (fun j => vals (l * sz + j)) hlen.symm (by omega) ?_ ?_ ?_ ?_)) h2 hn
      · simp only [execOp, hop, Option.map_some, Sem.run_bind, Instr.sliceAt, run_underlying hu, Result.andThen_ok, Instr.slice, he, hb, size_run hs, Sem.run_pure]
        congr 3
        split
        · rfl
        · simp [add_mk]
      · intro aa ha
        exact hsz aa (List.mem_of_mem_drop (List.mem_of_mem_take ha))
      · intro j hj
        have hlt : l ≠ r := by
          rintro rfl
          have : q - l = 0 := by omega
          rw [this] at hj; simp at hj
        rw [if_neg (fun e => hlt e.symm), Nat.add_assoc]
        refine hz _ ?_
        have : l * sz + (q - l) * sz = q * sz := by rw [← Nat.add_mul]; congr 1; omega
        have h3 : q * sz ≤ xs.length * sz := Nat.mul_le_mul_right _ (by omega)
        omega
      · intro i j aa cc hi hj
        rw [List.getElem?_take] at hi
        split at hi
        · rw [List.getElem?_drop] at hi
          have := hr (l + i) j aa cc hi hj
          rwa [Nat.add_mul, Nat.add_assoc] at this
        · cases hi
      · intro aa ha
        exact hagg aa (List.mem_of_mem_drop (List.mem_of_mem_take ha))
  · cases h
end
end Go.Abs
