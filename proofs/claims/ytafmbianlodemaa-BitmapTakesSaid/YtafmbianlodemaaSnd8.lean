/- THE ENGINE, part 11: rows of cells, boxes, stores. -/
import Derived.Test.YtafmbianlodemaaSnd7
namespace Go.Abs
set_option linter.unusedSectionVars false
set_option linter.unusedVariables false
set_option linter.unusedSimpArgs false
section
variable {P : Program} {C : CallF} {nt : Nat} {o : Oper}

/-- Cells and what lies in memory, one by one. -/
def L2 (Z : Fz) (ι : Iot) (cs : List AVal) (vs : List Value) : Prop :=
  cs.length = vs.length ∧ ∀ (j : Nat) c v, cs[j]? = some c → vs[j]? = some v → VR Z ι c v ∧ one v = true

variable {Z : Fz} {ι : Iot}
theorem L2.nil : L2 Z ι [] [] := ⟨rfl, by simp⟩
theorem L2.cons {c : AVal} {v : Value} {cs : List AVal} {vs : List Value} (h1 : VR Z ι c v) (h2 : one v = true) (h : L2 Z ι cs vs) : L2 Z ι (c :: cs) (v :: vs) :=
  ⟨by simp [h.1], fun j a b ha hb => by
    cases j with
    | zero => simp at ha hb; subst ha; subst hb; exact ⟨h1, h2⟩
    | succ j => exact h.2 j a b (by simpa using ha) (by simpa using hb)⟩
theorem L2.take {cs : List AVal} {vs : List Value} (h : L2 Z ι cs vs) (n : Nat) : L2 Z ι (cs.take n) (vs.take n) :=
  ⟨by simp [h.1], fun j a b ha hb => by
    rw [List.getElem?_take] at ha hb
    split at ha
    · rename_i hj; rw [if_pos hj] at hb; exact h.2 j a b ha hb
    · cases ha⟩
theorem L2.drop {cs : List AVal} {vs : List Value} (h : L2 Z ι cs vs) (n : Nat) : L2 Z ι (cs.drop n) (vs.drop n) :=
  ⟨by simp [h.1], fun j a b ha hb => by
    rw [List.getElem?_drop] at ha hb
    exact h.2 _ a b ha hb⟩
theorem L2.append {cs ds : List AVal} {vs us : List Value} (h : L2 Z ι cs vs) (k : L2 Z ι ds us) : L2 Z ι (cs ++ ds) (vs ++ us) :=
  ⟨by simp [h.1, k.1], fun j a b ha hb => by
    rw [List.getElem?_append] at ha hb
    split at ha
    · rename_i hj; rw [if_pos (by rw [← h.1]; exact hj)] at hb; exact h.2 j a b ha hb
    · rename_i hj
      rw [if_neg (by rw [← h.1]; exact hj)] at hb
      rw [← h.1] at hb
      exact k.2 _ a b ha hb⟩

def blit (vs : List Value) (off : Nat) (us : List Value) : List Value := vs.take off ++ (us ++ vs.drop (off + us.length))
theorem L2.splice {cs xs : List AVal} {vs us : List Value} (h : L2 Z ι cs vs) (k : L2 Z ι xs us) (off : Nat) : L2 Z ι (splice cs off xs) (blit vs off us) := by
  unfold Go.Abs.splice blit
  rw [← k.1]
  exact (h.take off).append (k.append (h.drop _))
theorem blit_length {vs us : List Value} {off : Nat} (h : off + us.length ≤ vs.length) : (blit vs off us).length = vs.length := by
  simp [blit]; omega
theorem splice_length {vs us : List AVal} {off : Nat} (h : off + us.length ≤ vs.length) : (splice vs off us).length = vs.length := by
  simp [splice]; omega

theorem VR.l2 {a : AVal} {v : Value} (h : VR Z ι a v) (ht : ∀ vs, a ≠ .tup vs) : L2 Z ι a.cells v.cells.toList := by
  obtain ⟨h1, h2⟩ := h.cells ht
  refine ⟨by simp [h1], fun j c u hc hu => ?_⟩
  obtain ⟨u', hu', h3, h4⟩ := h2 j c hc
  simp at hu
  rw [hu'] at hu; cases hu
  exact ⟨h3, h4⟩
theorem L2.agg {cs : List AVal} {vs : List Value} (h : L2 Z ι cs vs) : VR Z ι (.agg cs) (.agg vs.toArray) :=
  .agg (by simp [h.1]) (fun i a v h1 h2 => (h.2 i a v h1 (by simpa using h2)).1) (fun i v h2 => by
    have hi : i < cs.length := by
      rw [h.1]
      have := (Array.getElem?_eq_some_iff.1 h2).1
      simpa using this
    exact (h.2 i _ v (List.getElem?_eq_getElem hi) (by simpa using h2)).2)
theorem L2.mono {Z' : Fz} {ι' : Iot} (hZ : ∀ a v, Z a = some v → Z' a = some v) (hι : ∀ g b, ι g = some b → ι' g = some b) {cs : List AVal} {vs : List Value} (h : L2 Z ι cs vs) : L2 Z' ι' cs vs :=
  ⟨h.1, fun j c v hc hv => ⟨(h.2 j c v hc hv).1.mono hZ hι, (h.2 j c v hc hv).2⟩⟩

theorem BoxR.of {G : Gh} {w : World} {B : Box} {b : Nat} {arr : Array Value} {T : TypeId} {fr : Nat × Nat} (hb : w.heap[b]? = some (.cells arr T fr)) (hf : ∀ j, j < arr.size → ¬ (fr.1 ≤ j ∧ j < fr.2))
    (hl : B.cells.length ≤ arr.size) (h : L2 G.Z G.ι B.cells (arr.toList.take B.cells.length)) : BoxR G w B b :=
  ⟨arr, T, fr, hb, hl, hf, fun j c hc => by
    have hj := (List.getElem?_eq_some_iff.1 hc).1
    have hj2 : j < arr.size := by omega
    have h2 := h.2 j c arr[j] hc (by rw [List.getElem?_take, if_pos hj]; simp [hj2])
    exact ⟨arr[j], Array.getElem?_eq_getElem hj2, h2.1, h2.2⟩⟩

/-- A new block for a slot's own box. -/
theorem Rel.newL {G : Gh} {nt : Nat} {st : St} {a : Act} {w w' : World} (H : Rel G nt st a.tmps w) {d : Nat} (hd : d < nt) (hno : st (.l d) = .bx none) {arr : Array Value} {T : TypeId} {fr : Nat × Nat} {B : Box} {s : Slot} {v : Value}
    (hheap : w'.heap = w.heap.push (.cells arr T fr)) (h1 : w'.os = w.os) (h2 : w'.tape = w.tape) (h3 : w'.output = w.output) (hf : ∀ j, j < arr.size → ¬ (fr.1 ≤ j ∧ j < fr.2))
    (hl : B.cells.length ≤ arr.size) (hB : L2 G.Z G.ι B.cells (arr.toList.take B.cells.length))
    (hs : (s = .lp d 0 ∧ v = .pointer (some ⟨w.heap.size, 0, none⟩)) ∨ ∃ n cap, s = .ls d 0 n ∧ v = .slice (some ⟨w.heap.size, 0, none⟩) n cap ∧ n ≤ cap) :
    ∃ G', Rel G' nt (upds st [(.l d, .bx (some B)), (.s d, .sv s)]) (a.put (some d) v).tmps w' ∧ Fr G w G' w' := by
  let G' : Gh := { G with lm := fun i => if i = d then some w.heap.size else G.lm i, own := fun b => if b = w.heap.size then some (.lbox d) else G.own b }
  have hsz : w.heap.size ≤ w'.heap.size := by simp [hheap]
  have hold : ∀ b, b < w.heap.size → w'.heap[b]? = w.heap[b]? := by
    intro b hb; rw [hheap, Array.getElem?_push, if_neg (by omega)]
  have hnew : w'.heap[w.heap.size]? = some (.cells arr T fr) := by rw [hheap, Array.getElem?_push]; simp
  have R1 := H.grow hsz hold
  have hlt : ∀ b oo, G.own b = some oo → b ≠ w.heap.size := fun b oo h => by have := H.ownlt b oo h; omega
  have hown : ∀ b oo, G.own b = some oo → G'.own b = some oo := fun b oo h => by simp [G', hlt b oo h, h]
  have hbl : ∀ i, i ≠ d → upd st (.l d) (.bx (some B)) (.l i) = st (.l i) := fun i h => upd_ne _ _ (by simpa using h)
  have hls : ∀ i, upd st (.l d) (.bx (some B)) (.s i) = st (.s i) := fun i => upd_ne _ _ (by simp)
  have hlg : upd st (.l d) (.bx (some B)) .g = st .g := upd_ne _ _ (by simp)
  have R2 : Rel G' nt (upd st (.l d) (.bx (some B))) a.tmps w' := by
    refine ⟨R1.size, fun i s hi => ?_, fun i B' hB' => ?_, fun sg hg g B' hB' hne => ?_, fun sg hg => R1.gdom sg (by rwa [hlg] at hg), fun aa v h => ?_, fun b oo h => ?_⟩
    · rw [hls] at hi
      have h0 := R1.slots i s hi
      cases s with
      | v vv f =>
        refine ⟨h0.1, fun hf => ?_⟩
        obtain ⟨nn, sz, l, e1, e2⟩ := h0.2 hf
        refine ⟨nn, sz, l, e1, ?_⟩
        rcases e2 with e2 | ⟨b, off, n, cap, e3, e4, e5⟩
        · exact .inl e2
        · exact .inr ⟨b, off, n, cap, e3, hown _ _ e4, e5⟩
      | lp b off =>
        obtain ⟨blk, e1, ⟨B', e2⟩, e3⟩ := h0
        have hne : b ≠ d := by rintro rfl; rw [hno] at e2; cases e2
        exact ⟨blk, by simp [G', hne, e1], ⟨B', by rw [hbl _ hne]; exact e2⟩, e3⟩
      | ls b off n =>
        obtain ⟨blk, cap, e1, ⟨B', e2⟩, e3⟩ := h0
        have hne : b ≠ d := by rintro rfl; rw [hno] at e2; cases e2
        exact ⟨blk, cap, by simp [G', hne, e1], ⟨B', by rw [hbl _ hne]; exact e2⟩, e3⟩
    · by_cases hi : i = d
      · subst hi
        rw [upd_self] at hB'
        cases hB'
        exact ⟨w.heap.size, by simp [G'], by simp [G'], .of (G := G') hnew hf hl hB⟩
      · rw [hbl _ hi] at hB'
        obtain ⟨b, e1, e2, e3⟩ := R1.lbox i B' hB'
        exact ⟨b, by simp [G', hi, e1], hown _ _ e2, e3⟩
    · rw [hlg] at hg
      obtain ⟨b, e1, e2, e3, e4⟩ := R1.gbox sg hg g B' hB' hne
      exact ⟨b, e1, hown _ _ e2, e3, e4⟩
    · obtain ⟨e1, e2, e3⟩ := R1.frz aa v h
      have hb := cell_lt (H.frz aa v h).1
      refine ⟨e1, e2, fun oo ho => e3 oo ?_⟩
      simp only [G'] at ho
      rwa [if_neg (by omega)] at ho
    · simp only [G'] at h
      split at h
      · rename_i hb; subst hb; simp [hheap]
      · exact Nat.lt_of_lt_of_le (H.ownlt b oo h) hsz
  refine ⟨G', ?_, h1, h2, h3, hsz, fun _ _ h => h, fun _ _ h => h, fun b hb ho => ⟨hold b hb, by simp [G', ho]; omega, fun _ _ => rfl⟩⟩
  refine R2.setSlot d s v hd ?_
  rcases hs with ⟨rfl, rfl⟩ | ⟨n, cap, rfl, rfl, hc⟩
  · exact ⟨w.heap.size, by simp [G'], ⟨B, upd_self _ _ _⟩, rfl⟩
  · exact ⟨w.heap.size, cap, by simp [G'], ⟨B, upd_self _ _ _⟩, rfl, hc⟩

theorem ok_boxL {t : TypeId} {x : Operand} (hd : ∀ x, o.dst = some x → x < nt) (hop : o.op = .box t x) : OpOK P C nt o (.boxL x) := by
  intro G st a w H out c h next Q hn hp
  simp only [sem] at h
  split at h
  · rename_i d hdst
    obtain ⟨v, h1, h2⟩ := withA_some h
    split at h2
    · rename_i hno
      obtain ⟨hv, ht⟩ := rdA_rel H h1
      have hl2 := hv.l2 ht
      obtain ⟨G', R', F'⟩ := H.newL (w' := { w with heap := w.heap.push (.cells (a.eval x).cells t) }) (hd d hdst) hno (arr := (a.eval x).cells) (T := t) (fr := (0, 0)) (B := ⟨v.cells⟩) rfl rfl rfl rfl (by intro j _; simp) (by have := hl2.1; simp at this; simp [this])
        (by show L2 _ _ _ (List.take _ _); rw [List.take_of_length_le (by show _ ≤ List.length _; rw [hl2.1]; exact Nat.le_refl _)]; exact hl2) (.inl ⟨rfl, rfl⟩)
      have hrun : (execOp a.eval o).run P w = .ok (.value (.pointer (some ⟨w.heap.size, 0, none⟩))) { w with heap := w.heap.push (.cells (a.eval x).cells t) } := by
        simp [execOp, hop, Instr.box, newVar, newRow]
      exact wp_val hrun (hn _ G' _ _ h2 (by rw [hdst]; exact R') (put_defers _ _ _) F')
    · cases h2
  · cases h

theorem zero_rel {Z : Fz} {ι : Iot} : ∀ {ks : List CK} {vs : List Value} {z : List AVal}, zeroCells ks vs = some z → L2 Z ι z vs
  | [], [], z, h => by simp [zeroCells] at h; subst h; exact .nil
  | [], _ :: _, z, h => by simp [zeroCells] at h
  | k :: ks, [], z, h => by cases k <;> simp [zeroCells] at h
  | k :: ks, v :: vs, z, h => by
    unfold zeroCells at h
    split at h
    · rename_i heq; cases heq
    · rename_i sz ks' vs' e1 e2
      cases e1; cases e2
      simp at h
      obtain ⟨z', hz, rfl⟩ := h
      exact .cons .nil rfl (zero_rel hz)
    · cases h
    · rename_i e1 e2
      cases e1; cases e2
      split at h
      · rename_i h1
        simp at h
        obtain ⟨z', hz, rfl⟩ := h
        exact .cons (.at h1) h1 (zero_rel hz)
      · cases h
    · cases h

theorem zeroT_run {t : TypeId} {z : List AVal} (h : zeroT P t = some z) (w : World) : ∃ v, (zeroValue t).run P w = .ok v w ∧ ∀ Z ι, L2 Z ι z v.cells.toList := by
  unfold zeroT at h
  split at h
  · rename_i ks agg v hk hz
    cases hi : P.info? t with
    | none => simp [hi] at hz
    | some inf =>
      simp [hi] at hz
      exact ⟨v, by simp [zeroValue, typeInfo, hi, hz], fun Z ι => zero_rel h⟩
  · cases h

theorem ok_allocL {t : TypeId} {z : List AVal} (hd : ∀ x, o.dst = some x → x < nt) (hop : o.op = .alloc t) (hz : zeroT P t = some z) : OpOK P C nt o (.allocL z) := by
  intro G st a w H out c h next Q hn hp
  simp only [sem] at h
  split at h
  · rename_i d hdst
    split at h
    · rename_i hno
      obtain ⟨v, hv, hl⟩ := zeroT_run hz w
      have hl2 := hl G.Z G.ι
      obtain ⟨G', R', F'⟩ := H.newL (w' := { w with heap := w.heap.push (.cells v.cells t) }) (hd d hdst) hno (arr := v.cells) (T := t) (fr := (0, 0)) (B := ⟨z⟩) rfl rfl rfl rfl (by intro j _; simp) (by have := hl2.1; simp at this; simp [this])
        (by show L2 _ _ _ (List.take _ _); rw [List.take_of_length_le (by show _ ≤ List.length _; rw [hl2.1]; exact Nat.le_refl _)]; exact hl2) (.inl ⟨rfl, rfl⟩)
      have hrun : (execOp a.eval o).run P w = .ok (.value (.pointer (some ⟨w.heap.size, 0, none⟩))) { w with heap := w.heap.push (.cells v.cells t) } := by
        simp [execOp, hop, Instr.alloc, hv, newVar, newRow]
      exact wp_val hrun (hn _ G' _ _ h (by rw [hdst]; exact R') (put_defers _ _ _) F')
    · cases h
  · cases h
end
end Go.Abs
