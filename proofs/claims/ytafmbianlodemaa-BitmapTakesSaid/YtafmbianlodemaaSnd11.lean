/- THE ENGINE, part 14: append. -/
import Derived.Test.YtafmbianlodemaaSnd10
namespace Go.Abs
set_option linter.unusedSectionVars false
set_option linter.unusedVariables false
set_option linter.unusedSimpArgs false
section
variable {P : Program} {C : CallF} {nt : Nat} {o : Oper}

theorem ElemsR.append {Z : Fz} {ι : Iot} {sz : Nat} {l r : List AVal} {c1 c2 : Nat → Option Value} (h : ElemsR Z ι sz l c1) (k : ElemsR Z ι sz r c2) {cell : Nat → Option Value}
    (e1 : ∀ j, j < l.length * sz → cell j = c1 j) (e2 : ∀ j, j < r.length * sz → cell (l.length * sz + j) = c2 j) : ElemsR Z ι sz (l ++ r) cell := by
  have hb : ∀ (l : List AVal) (i j : Nat) a c, (∀ a ∈ l, a.cells.length = sz) → l[i]? = some a → a.cells[j]? = some c → i * sz + j < l.length * sz := by
    intro l i j a c hs hi hj
    have hil := (List.getElem?_eq_some_iff.1 hi).1
    have hjl : j < sz := by
      rw [← hs a (List.mem_of_getElem? hi)]; exact (List.getElem?_eq_some_iff.1 hj).1
    have : i * sz + sz ≤ l.length * sz := by rw [← Nat.succ_mul]; exact Nat.mul_le_mul_right _ hil
    omega
  refine ⟨?_, ?_, ?_, ?_⟩
  · intro a ha
    rcases List.mem_append.1 ha with ha | ha
    · exact h.hsz a ha
    · exact k.hsz a ha
  · intro a ha
    rcases List.mem_append.1 ha with ha | ha
    · exact h.hagg a ha
    · exact k.hagg a ha
  · intro i j a c hi hj
    rw [List.getElem?_append] at hi
    split at hi
    · obtain ⟨u, hu, hv⟩ := h.hval i j a c hi hj
      exact ⟨u, by rw [e1 _ (hb l i j a c h.hsz hi hj)]; exact hu, hv⟩
    · rename_i hlt
      obtain ⟨u, hu, hv⟩ := k.hval _ j a c hi hj
      refine ⟨u, ?_, hv⟩
      have := e2 ((i - l.length) * sz + j) (hb r _ j a c k.hsz hi hj)
      rw [← this.trans hu]
      congr 1
      rw [← Nat.add_assoc, ← Nat.add_mul]
      congr 2; omega
  · intro j hj
    simp only [List.length_append, Nat.add_mul] at hj
    by_cases hlt : j < l.length * sz
    · obtain ⟨u, hu, h1⟩ := h.hone j hlt
      exact ⟨u, (e1 j hlt).trans hu, h1⟩
    · obtain ⟨u, hu, h1⟩ := k.hone (j - l.length * sz) (by omega)
      refine ⟨u, ?_, h1⟩
      have := e2 (j - l.length * sz) (by omega)
      rw [show l.length * sz + (j - l.length * sz) = j by omega] at this
      exact this.trans hu

theorem ElemsR.mono {Z Z' : Fz} {ι : Iot} {sz : Nat} {l : List AVal} {c : Nat → Option Value} (hZ : ∀ a v, Z a = some v → Z' a = some v) (h : ElemsR Z ι sz l c) : ElemsR Z' ι sz l c :=
  ⟨h.hsz, h.hagg, fun i j a cc hi hj => by obtain ⟨u, hu, hv⟩ := h.hval i j a cc hi hj; exact ⟨u, hu, hv.mono hZ fun _ _ h => h⟩, h.hone⟩

/-- In place: the row of a slot that may grow gets more cells; they are another slot's now. -/
theorem Rel.inPlace {G : Gh} {nt : Nat} {st : St} {a : Act} {w w' : World} {d : Option Nat} (hd : ∀ x, d = some x → x < nt) {b off cap sz : Nat} {l r : List AVal} {x : Nat} {us : List Value}
    (H : Rel G nt st a.tmps w) (hfree : Free G.Z w b (off + l.length * sz) (off + cap * sz)) (hown : G.own b = some (.slot x)) (hnox : ∀ i s, st (.s i) = .sv s → (∃ v, s = .v v true) → i ≠ x)
    (hcap : l.length + r.length ≤ cap) (hl : VR G.Z G.ι (.sl false sz l) (.slice (some ⟨b, off, none⟩) l.length cap))
    (hr : ElemsR G.Z G.ι sz r (fun j => us[j]?)) (hul : us.length = r.length * sz)
    (h1 : w'.os = w.os) (h2 : w'.tape = w.tape) (h3 : w'.output = w.output) (hsz : w'.heap.size = w.heap.size) (hne : ∀ c, c ≠ b → w'.heap[c]? = w.heap[c]?)
    (hb' : ∀ arr T fr, w.heap[b]? = some (.cells arr T fr) → w'.heap[b]? = some (.cells (blit arr.toList (off + l.length * sz) us).toArray T fr)) :
    ∃ G', Rel G' nt (upds st (dstU d (.v (.sl false sz (l ++ r)) true))) (a.put d (.slice (some ⟨b, off, none⟩) (l.length + r.length) cap)).tmps w' ∧ Fr G w G' w' := by
  obtain ⟨arr, T, fr, hb, hm, hz, hfz⟩ := hfree
  have hb2 := hb' arr T fr hb
  have hfit : off + l.length * sz + us.length ≤ arr.toList.length := by
    have : (l.length + r.length) * sz ≤ cap * sz := Nat.mul_le_mul_right _ hcap
    rw [Nat.add_mul] at this
    rw [hul]; simp; omega
  have hblen : (blit arr.toList (off + l.length * sz) us).length = arr.size := by rw [blit_length hfit]; simp
  let own' : Option Owner := d.map .slot
  let Z' : Fz := fun y => if y.block = b ∧ y.spot = none ∧ off + l.length * sz ≤ y.off ∧ y.off < off + l.length * sz + us.length then us[y.off - (off + l.length * sz)]? else G.Z y
  let G' : Gh := { G with Z := Z', own := fun c => if c = b then own' else G.own c }
  have hZ : ∀ y v, G.Z y = some v → Z' y = some v := by
    intro y v h
    have : ¬ (y.block = b ∧ y.spot = none ∧ off + l.length * sz ≤ y.off ∧ y.off < off + l.length * sz + us.length) := by
      rintro ⟨e1, e2, e3, e4⟩
      have := hz y.off e3
      rw [show (⟨b, y.off, none⟩ : Addr) = y by cases y; simp_all] at this
      rw [h] at this; cases this
    simp only [Z', if_neg this, h]
  have hcell : ∀ y v, G.Z y = some v → w'.cell? y = some v := by
    intro y v h
    obtain ⟨e1, e2, e3⟩ := H.frz y v h
    by_cases hyb : y.block = b
    · simp only [World.cell?, hyb, hb] at e1
      split at e1
      · cases e1
      · rename_i hsp
        have hlt : ¬ (off + l.length * sz ≤ y.off) := by
          intro hle
          have := hz y.off hle
          rw [show (⟨b, y.off, none⟩ : Addr) = y by cases y; simp_all] at this
          rw [h] at this; cases this
        simp only [World.cell?, hyb, hb2, hsp]
        simp only [Bool.false_eq_true, if_false, List.getElem?_toArray]
        rw [blit_get hfit, if_pos (by omega)]
        simpa using e1
    · exact (cell_same (hne _ hyb)).trans e1
  have hoc : ∀ c oo, G.own c = some oo → oo ≠ .slot x → c ≠ b := by
    rintro c oo h h' rfl; rw [hown] at h; cases h; exact h' rfl
  have hfree' : ∀ c e m, c ≠ b → Free G.Z w c e m → Free Z' w' c e m := by
    rintro c e m hc ⟨ar, T', fr', k1, k2, k3, k4⟩
    exact ⟨ar, T', fr', (hne c hc).trans k1, k2, fun j hj => by simp [Z', hc, k3 j hj], k4⟩
  have hbox : ∀ B c, c ≠ b → BoxR G w B c → BoxR G' w' B c := by
    rintro B c hc ⟨ar, T', fr', k1, k2, k3, k4⟩
    exact ⟨ar, T', fr', (hne c hc).trans k1, k2, k3, fun j cc hcc => by obtain ⟨u, e1, e2, e3⟩ := k4 j cc hcc; exact ⟨u, e1, e2.mono hZ fun _ _ h => h, e3⟩⟩
  have R2 : Rel G' nt st a.tmps w' := by
    refine ⟨H.size, fun i s hi => ?_, fun i B hB => ?_, fun sg hg g B hB hne0 => ?_, H.gdom, fun aa v h => ?_, fun c oo h => ?_⟩
    · have h0 := H.slots i s hi
      cases s with
      | v vv f =>
        refine ⟨h0.1.imp id fun h => h.mono hZ fun _ _ h => h, fun hf => ?_⟩
        subst hf
        have hix := hnox i _ hi ⟨vv, rfl⟩
        obtain ⟨nn, sz', l', e1, e2⟩ := h0.2 rfl
        refine ⟨nn, sz', l', e1, ?_⟩
        rcases e2 with e2 | ⟨c, off, n, cap, e3, e4, e5⟩
        · exact .inl e2
        · have hc := hoc c _ e4 (by simpa using hix)
          exact .inr ⟨c, off, n, cap, e3, by simp [G', hc, e4], hfree' _ _ _ hc e5⟩
      | lp b off => exact h0
      | ls b off n => exact h0
    · obtain ⟨c, e1, e2, e3⟩ := H.lbox i B hB
      have hc := hoc c _ e2 (by simp)
      exact ⟨c, e1, by simp [G', hc, e2], hbox _ _ hc e3⟩
    · obtain ⟨c, e1, e2, e3, e4⟩ := H.gbox sg hg g B hB hne0
      have hc := hoc c.1 _ e2 (by simp)
      exact ⟨c, e1, by simp [G', hc, e2], hbox _ _ hc e3, e4.same (hne _ hc)⟩
    · have hown'' : ∀ oo, G'.own aa.block = some oo → ∃ i, oo = .slot i ∨ G.own aa.block = some oo := by
        intro oo ho
        simp only [G'] at ho
        split at ho
        · simp only [own'] at ho
          cases d with
          | none => cases ho
          | some d => cases ho; exact ⟨_, .inl rfl⟩
        · exact ⟨0, .inr ho⟩
      by_cases hq : aa.block = b ∧ aa.spot = none ∧ off + l.length * sz ≤ aa.off ∧ aa.off < off + l.length * sz + us.length
      · simp only [G', Z'] at h
        rw [if_pos hq] at h
        refine ⟨?_, ?_, fun oo ho => ?_⟩
        · simp only [World.cell?, hq.1, hb2, hq.2.1]
          simp only [Option.isSome_none, Bool.false_eq_true, if_false, List.getElem?_toArray]
          rw [blit_get hfit, if_neg (by omega), if_pos (by omega)]
          exact h
        · obtain ⟨u, hu, h1⟩ := hr.hone (aa.off - (off + l.length * sz)) (by rw [← hul]; omega)
          rw [h] at hu; cases hu; exact h1
        · simp only [G'] at ho
          rw [if_pos hq.1] at ho
          simp only [own'] at ho
          cases d with
          | none => cases ho
          | some d => cases ho; exact ⟨_, rfl⟩
      · have h' : G.Z aa = some v := by
          simp only [G', Z'] at h
          rwa [if_neg hq] at h
        obtain ⟨e1, e2, e3⟩ := H.frz aa v h'
        refine ⟨hcell aa v h', e2, fun oo ho => ?_⟩
        obtain ⟨i, hi | hi⟩ := hown'' oo ho
        · exact ⟨i, hi⟩
        · exact e3 oo hi
    · simp only [G'] at h
      rw [hsz]
      split at h
      · rename_i hc; subst hc; exact H.ownlt _ _ hown
      · exact H.ownlt c oo h
  have hfr : Fr G w G' w' := ⟨h1, h2, h3, Nat.le_of_eq hsz.symm, hZ, fun _ _ h => h, fun c hc ho => by
    have hcb : c ≠ b := by rintro rfl; rw [hown] at ho; cases ho
    exact ⟨hne c hcb, by simp [G', hcb, ho], fun j s => by simp [G', Z', hcb]⟩⟩
  refine ⟨G', ?_, hfr⟩
  cases hdd : d with
  | none => exact R2
  | some d' =>
    refine R2.setSlot d' _ _ (hd d' hdd) ⟨.inr ?_, fun _ => ⟨false, sz, l ++ r, rfl, .inr ⟨b, off, l.length + r.length, cap, rfl, by simp [G', own', hdd], _, T, fr, hb2, ?_, fun j hj => ?_, fun j e1 e2 => ?_⟩⟩⟩
    · -- the elements
      rcases hl.sl_inv with ⟨h, _⟩ | ⟨_, b0, off0, cap0, vals, heq, hcap0, hsz0, hz0, hr0, hagg0⟩
      · cases h
      · cases heq
        have hE1 : ElemsR G.Z G.ι sz l (fun j => if j < l.length * sz then some (vals j) else none) := ⟨hsz0, hagg0, fun i j aa c hi hj => by
            have hil := (List.getElem?_eq_some_iff.1 hi).1
            have hjl : j < sz := by rw [← hsz0 aa (List.mem_of_getElem? hi)]; exact (List.getElem?_eq_some_iff.1 hj).1
            have : i * sz + sz ≤ l.length * sz := by rw [← Nat.succ_mul]; exact Nat.mul_le_mul_right _ hil
            exact ⟨_, if_pos (by omega), hr0 i j aa c hi hj⟩, fun j hj => ⟨_, if_pos hj, (H.frz _ _ (hz0 j hj)).2.1⟩⟩
        have hE := hE1.append hr (cell := fun j => Z' ⟨b, off + j, none⟩) (fun j hj => by
            simp only [if_pos hj]; exact hZ _ _ (hz0 j hj)) (fun j hj => by
            simp only [Z']
            rw [if_pos ⟨trivial, trivial, by omega, by rw [hul]; omega⟩]
            congr 1; omega)
        have := hE.vr (Z' := Z') (b := b) (off := off) (cap := cap) hZ (fun j hj => rfl) (by simp; exact hcap)
        simpa using this
    · simp [hblen]; exact hm
    · simp only [G', Z']
      rw [if_neg (by rw [hul]; rw [Nat.add_mul] at hj; omega)]
      exact hz j (by rw [Nat.add_mul] at hj; omega)
    · exact hfz j (by rw [Nat.add_mul] at e1; omega) e2

theorem grow_le : ∀ (n c m : Nat), c ≤ 2 * m → 256 ≤ m → Builtin.growBy m n c ≤ 2 * m
  | 0, c, m, h, _ => by simpa [Builtin.growBy] using h
  | n + 1, c, m, h, h2 => by
    unfold Builtin.growBy
    split
    · exact h
    · exact grow_le n _ m (by omega) h2
theorem next_le (m c : Nat) (h : c < m) : Builtin.nextslicecap m c ≤ 2 * m := by
  unfold Builtin.nextslicecap
  split
  · omega
  · split
    · omega
    · exact grow_le 4 c m (by omega) (by omega)
end
end Go.Abs
