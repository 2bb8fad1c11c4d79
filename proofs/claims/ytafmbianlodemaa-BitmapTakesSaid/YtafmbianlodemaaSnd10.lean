/- THE ENGINE, part 13: new rows; append. -/
import Derived.Test.YtafmbianlodemaaSnd9
namespace Go.Abs
set_option linter.unusedSectionVars false
set_option linter.unusedVariables false
set_option linter.unusedSimpArgs false
section
variable {P : Program} {C : CallF} {nt : Nat} {o : Oper}

/-- The elements of a list, in cells. -/
structure ElemsR (Z : Fz) (ι : Iot) (sz : Nat) (l : List AVal) (cell : Nat → Option Value) : Prop where
  hsz : ∀ a ∈ l, a.cells.length = sz
  hagg : ∀ a ∈ l, (∃ cs, a = .agg cs) ∨ (a.cells = [a] ∧ ∀ vs, a ≠ .tup vs)
  hval : ∀ (i j : Nat) a c, l[i]? = some a → a.cells[j]? = some c → ∃ u, cell (i * sz + j) = some u ∧ VR Z ι c u
  hone : ∀ j, j < l.length * sz → ∃ u, cell j = some u ∧ one u = true

theorem ElemsR.vr {Z Z' : Fz} {ι : Iot} {sz : Nat} {l : List AVal} {cell : Nat → Option Value} {b off cap : Nat} (h : ElemsR Z ι sz l cell) (hZ : ∀ a v, Z a = some v → Z' a = some v)
    (hc : ∀ j, j < l.length * sz → Z' ⟨b, off + j, none⟩ = cell j) (hcap : l.length ≤ cap) : VR Z' ι (.sl false sz l) (.slice (some ⟨b, off, none⟩) l.length cap) := by
  refine .sl (fun j => (cell j).getD undef) rfl hcap h.hsz ?_ ?_ h.hagg
  · intro j hj
    obtain ⟨u, hu, _⟩ := h.hone j hj
    rw [hc j hj, hu]; rfl
  · intro i j a c hi hj
    obtain ⟨u, hu, hv⟩ := h.hval i j a c hi hj
    rw [hu]
    exact hv.mono hZ fun _ _ h => h

/-- A new row for a slot, which may grow. -/
theorem Rel.newRow {G : Gh} {nt : Nat} {st : St} {a : Act} {w w' : World} (H : Rel G nt st a.tmps w) {d : Option Nat} (hd : ∀ x, d = some x → x < nt) {arr : Array Value} {T : TypeId} {sz cap : Nat} {l : List AVal}
    (hheap : w'.heap = w.heap.push (.cells arr T (0, 0))) (h1 : w'.os = w.os) (h2 : w'.tape = w.tape) (h3 : w'.output = w.output)
    (hE : ElemsR G.Z G.ι sz l (fun j => arr[j]?)) (hcap : l.length ≤ cap) (hcs : cap * sz ≤ arr.size) :
    ∃ G', Rel G' nt (upds st (dstU d (.v (.sl false sz l) true))) (a.put d (.slice (some ⟨w.heap.size, 0, none⟩) l.length cap)).tmps w' ∧ Fr G w G' w' := by
  have hsz : w.heap.size ≤ w'.heap.size := by simp [hheap]
  have hold : ∀ b, b < w.heap.size → w'.heap[b]? = w.heap[b]? := by
    intro b hb; rw [hheap, Array.getElem?_push, if_neg (by omega)]
  have hnew : w'.heap[w.heap.size]? = some (.cells arr T (0, 0)) := by rw [hheap, Array.getElem?_push]; simp
  have R1 := H.grow hsz hold
  cases d with
  | none => exact ⟨G, R1, Fr.grow h1 h2 h3 hsz hold⟩
  | some d =>
    let Z' : Fz := fun x => if x.block = w.heap.size then (if x.spot = none ∧ x.off < l.length * sz then arr[x.off]? else none) else G.Z x
    let G' : Gh := { G with Z := Z', own := fun b => if b = w.heap.size then some (.slot d) else G.own b }
    have hZlt : ∀ x v, G.Z x = some v → x.block ≠ w.heap.size := fun x v h => by have := cell_lt (H.frz x v h).1; omega
    have hZ : ∀ x v, G.Z x = some v → Z' x = some v := fun x v h => by simp [Z', hZlt x v h, h]
    have hlt : ∀ b oo, G.own b = some oo → b ≠ w.heap.size := fun b oo h => by have := H.ownlt b oo h; omega
    have hown : ∀ b oo, G.own b = some oo → G'.own b = some oo := fun b oo h => by simp [G', hlt b oo h, h]
    have hfree : ∀ b e m, b ≠ w.heap.size → Free G.Z w' b e m → Free Z' w' b e m := by
      rintro b e m hb ⟨ar, T', fr, k1, k2, k3, k4⟩
      exact ⟨ar, T', fr, k1, k2, fun j hj => by simp [Z', hb, k3 j hj], k4⟩
    have hbox : ∀ B b, BoxR G w' B b → BoxR G' w' B b := by
      rintro B b ⟨ar, T', fr, k1, k2, k3, k4⟩
      exact ⟨ar, T', fr, k1, k2, k3, fun j c hc => by obtain ⟨u, e1, e2, e3⟩ := k4 j c hc; exact ⟨u, e1, e2.mono hZ fun _ _ h => h, e3⟩⟩
    have R2 : Rel G' nt st a.tmps w' := by
      refine ⟨R1.size, fun i s hi => ?_, fun i B hB => ?_, fun sg hg g B hB hne => ?_, R1.gdom, fun aa v h => ?_, fun b oo h => ?_⟩
      · have h0 := R1.slots i s hi
        cases s with
        | v vv f =>
          refine ⟨h0.1.imp id fun h => h.mono hZ fun _ _ h => h, fun hf => ?_⟩
          obtain ⟨nn, sz', l', e1, e2⟩ := h0.2 hf
          refine ⟨nn, sz', l', e1, ?_⟩
          rcases e2 with e2 | ⟨b, off, n, cap, e3, e4, e5⟩
          · exact .inl e2
          · exact .inr ⟨b, off, n, cap, e3, hown _ _ e4, hfree _ _ _ (hlt _ _ e4) e5⟩
        | lp b off => exact h0
        | ls b off n => exact h0
      · obtain ⟨b, e1, e2, e3⟩ := R1.lbox i B hB
        exact ⟨b, e1, hown _ _ e2, hbox _ _ e3⟩
      · obtain ⟨b, e1, e2, e3, e4⟩ := R1.gbox sg hg g B hB hne
        exact ⟨b, e1, hown _ _ e2, hbox _ _ e3, e4⟩
      · by_cases hb : aa.block = w.heap.size
        · simp only [G', Z'] at h
          rw [if_pos hb] at h
          split at h
          · rename_i hsp
            refine ⟨?_, ?_, fun oo ho => ?_⟩
            · simp only [World.cell?]
              rw [hb, hnew]
              simp [hsp.1, h]
            · obtain ⟨u, hu, h1⟩ := hE.hone aa.off hsp.2
              rw [h] at hu; cases hu; exact h1
            · simp only [G'] at ho
              rw [if_pos hb] at ho; cases ho; exact ⟨d, rfl⟩
          · cases h
        · simp only [G', Z'] at h
          rw [if_neg hb] at h
          obtain ⟨e1, e2, e3⟩ := R1.frz aa v h
          refine ⟨e1, e2, fun oo ho => e3 oo ?_⟩
          simp only [G'] at ho
          rwa [if_neg hb] at ho
      · simp only [G'] at h
        split at h
        · rename_i hb; subst hb; simp [hheap]
        · exact Nat.lt_of_lt_of_le (H.ownlt b oo h) hsz
    refine ⟨G', ?_, h1, h2, h3, hsz, hZ, fun _ _ h => h, fun b hb ho => ⟨hold b hb, by simp [G', ho]; omega, fun j s => ?_⟩⟩
    · refine R2.setSlot d _ _ (hd d rfl) ⟨.inr ?_, fun _ => ⟨false, sz, l, rfl, .inr ⟨w.heap.size, 0, l.length, cap, rfl, by simp [G'], arr, T, (0, 0), hnew, by omega, fun j hj => ?_, by simp⟩⟩⟩
      · refine hE.vr hZ (fun j hj => ?_) hcap
        simp [G', Z', hj]
      · simp only [G', Z']
        rw [if_pos trivial, if_neg (by simp; omega)]
    · show Z' _ = _
      have : b ≠ w.heap.size := by omega
      simp [Z', this]

theorem loadCells_some {G : Gh} {nt : Nat} {st : St} {tm : Array Value} {w : World} (H : Rel G nt st tm w) {b off n : Nat} (vals : Nat → Value) (hz : ∀ j, j < n → G.Z ⟨b, off + j, none⟩ = some (vals j)) :
    (loadCells ⟨b, off, none⟩ n).run P w = .ok ((List.range n).map vals).toArray w :=
  run_loadCells w ⟨b, off, none⟩ n vals fun j hj => by rw [add_mk]; exact (H.frz _ _ (hz j hj)).1

/-- What a list's elements read as, as cells. -/
theorem cells_of {G : Gh} {nt : Nat} {st : St} {tm : Array Value} {w : World} (H : Rel G nt st tm w) {nn : Bool} {sz : Nat} {l : List AVal} {u : Value} (h : VR G.Z G.ι (.sl nn sz l) u) :
    ∃ arr : Array Value, arr.size = l.length * sz ∧ (Builtin.firstCells sz l.length u).run P w = .ok arr w ∧ (∃ cap b, u = .slice b l.length cap ∧ l.length ≤ cap) ∧ ElemsR G.Z G.ι sz l (fun j => arr[j]?) := by
  rcases h.sl_inv with ⟨rfl, rfl, rfl⟩ | ⟨rfl, b, off, cap, vals, rfl, hcap, hsz, hz, hr, hagg⟩
  · exact ⟨#[], by simp, by simp [Builtin.firstCells], ⟨0, none, rfl, Nat.le_refl _⟩, by simp, by simp, by simp, by simp⟩
  · refine ⟨((List.range (l.length * sz)).map vals).toArray, by simp, by simp only [Builtin.firstCells]; exact loadCells_some H vals hz, ⟨cap, _, rfl, hcap⟩, hsz, hagg, fun i j a c hi hj => ?_, fun j hj => ?_⟩
    · have hil := (List.getElem?_eq_some_iff.1 hi).1
      have hjl : j < sz := by
        rw [← hsz a (List.mem_of_getElem? hi)]; exact (List.getElem?_eq_some_iff.1 hj).1
      have : i * sz + j < l.length * sz := by
        have : i * sz + sz ≤ l.length * sz := by rw [← Nat.succ_mul]; exact Nat.mul_le_mul_right _ hil
        omega
      exact ⟨vals (i * sz + j), by simp [this], hr i j a c hi hj⟩
    · exact ⟨vals j, by simp [hj], (H.frz _ _ (hz j hj)).2.1⟩

theorem ofBytes_get (bs : List UInt8) (i : Nat) : (ofBytes bs)[i]? = bs[i]?.map fun b => .at (.int .u8 b.toNat) := by simp [ofBytes]
theorem ofBytes_elems {Z : Fz} {ι : Iot} (bs : List UInt8) (cell : Nat → Option Value) (h : ∀ (j : Nat) b, bs[j]? = some b → cell j = some (.int .u8 b.toNat)) : ElemsR Z ι 1 (ofBytes bs) cell := by
  refine ⟨?_, ?_, ?_, ?_⟩
  · intro a ha
    simp [ofBytes] at ha
    obtain ⟨b, _, rfl⟩ := ha; rfl
  · intro a ha
    simp [ofBytes] at ha
    obtain ⟨b, _, rfl⟩ := ha
    exact .inr ⟨rfl, by simp⟩
  · intro i j a c hi hj
    rw [ofBytes_get] at hi
    cases hb : bs[i]? with
    | none => simp [hb] at hi
    | some b =>
      simp [hb] at hi
      subst hi
      cases j with
      | zero => simp [AVal.cells] at hj; subst hj; exact ⟨_, by simpa using h i b hb, .at rfl⟩
      | succ j => simp [AVal.cells] at hj
  · intro j hj
    simp [ofBytes] at hj
    exact ⟨_, h j _ (List.getElem?_eq_getElem hj), rfl⟩

/-- What is appended. -/
theorem appended_rel {G : Gh} {nt : Nat} {st : St} {a : Act} {w : World} (H : Rel G nt st a.tmps w) {y : Operand} {sz : Nat} {r : List AVal} (h : appended sz (rdA st y) = some r) :
    ∃ arr : Array Value, arr.size = r.length * sz ∧ (Builtin.firstCells sz r.length (a.eval y)).run P w = .ok arr w ∧ (Builtin.lenOf (a.eval y)).run P w = .ok r.length w ∧ ElemsR G.Z G.ι sz r (fun j => arr[j]?) := by
  unfold appended at h
  split at h
  · rename_i nn sz' l hy
    obtain ⟨h1, h2⟩ := bif_some h
    have h1 := Nat.eq_of_beq_eq_true h1
    subst h1; cases h2
    obtain ⟨arr, e1, e2, ⟨cap, b, e3, _⟩, e4⟩ := cells_of (P := P) H (rdA_rel H hy).1
    exact ⟨arr, e1, e2, by rw [e3]; simp [Builtin.lenOf], e4⟩
  · rename_i s hy
    obtain ⟨h1, h2⟩ := bif_some h
    have h1 := Nat.eq_of_beq_eq_true h1
    subst h1; cases h2
    have he := at_eq (rdA_rel H hy).1
    have hl : (ofBytes s.data.toList).length = s.size := by simp [ofBytes]
    refine ⟨s.data.map fun b => .int .u8 b.toNat, by simp [ofBytes], ?_, by simp [he, Builtin.lenOf, hl], ofBytes_elems _ _ fun j b hb => ?_⟩
    · rw [he, hl]
      simp only [Builtin.firstCells]
      rw [show s.extract 0 s.size = s by simp]
      rfl
    · simp at hb
      simp [hb]
  · cases h
end
end Go.Abs
