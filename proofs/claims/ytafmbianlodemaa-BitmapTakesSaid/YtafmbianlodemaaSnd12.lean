/- THE ENGINE, part 15: append, the operation. -/
import Derived.Test.YtafmbianlodemaaSnd11
namespace Go.Abs
set_option linter.unusedSectionVars false
set_option linter.unusedVariables false
set_option linter.unusedSimpArgs false
section
variable {P : Program} {C : CallF} {nt : Nat} {o : Oper}

theorem rdT_slot {G : Gh} {st : St} {tm : Array Value} {w : World} (H : Rel G nt st tm w) {x : Nat} {s : Slot} (h : rdT st x = s) : SlotR G st w x s (tm.getD x undef) := by
  unfold rdT at h
  split at h
  · rename_i s' h'; rw [← h]; exact H.slots x s' h'
  · rw [← h]; exact ⟨.inl rfl, by simp⟩

theorem set_getD (tm : Array Value) (x : Nat) : tm.setIfInBounds x (tm.getD x undef) = tm := by
  apply Array.ext
  · simp
  · intro i h1 h2
    rw [Array.getElem_setIfInBounds]
    split
    · rename_i he; subst he; simp [Array.getD, h2]
    · rfl

/-- A slot lets its right go. -/
theorem Rel.letGo {G : Gh} {st : St} {tm : Array Value} {w : World} (H : Rel G nt st tm w) {x : Nat} {v : AVal} {f : Bool} (hx : x < nt) (h : rdT st x = .v v f) :
    Rel G nt (upd st (.s x) (.sv (.v v false))) tm w ∧ ∀ i s, upd st (.s x) (.sv (.v v false)) (.s i) = .sv s → (∃ v, s = .v v true) → i ≠ x := by
  constructor
  · have := H.setSlot x (.v v false) _ hx ⟨(rdT_slot H h).1, by simp⟩
    rwa [set_getD] at this
  · rintro i s hi ⟨v', rfl⟩ rfl
    rw [upd_self] at hi; cases hi

theorem zeroCells_run {t : TypeId} {z : List AVal} (h : zeroT P t = some z) (w : World) : ∃ v, (zeroValue t).run P w = .ok v w := by
  obtain ⟨v, hv, _⟩ := zeroT_run h w; exact ⟨v, hv⟩

theorem bytes_run {t : TypeId} {n : Nat} (hs : bytesT P t = some n) (w : World) : ∃ i, (typeInfo t).run P w = .ok i w ∧ i.bytes = n := by
  unfold bytesT at hs
  cases hi : P.info? t with
  | none => simp [hi] at hs
  | some inf => simp [hi] at hs; exact ⟨inf, by simp [typeInfo, hi], hs⟩

theorem info_some {e : TypeId} {sz bytes : Nat} {z : List AVal} (hs : sizeT P e = some sz) (hb : bytesT P e = some bytes) (hz : zeroT P e = some z) :
    ∃ i zv, P.info? e = some i ∧ i.size = sz ∧ i.bytes = bytes ∧ i.zero = some zv ∧ zv.cells.size = sz := by
  have hk : ∃ ks : List CK, ks.length = sz ∧ ∃ agg, kinds P e = some (ks, agg) := by
    unfold zeroT at hz
    split at hz
    · rename_i ks agg v hk hz'
      unfold kinds at hk
      split at hk
      · rename_i n h1 h2 h3
        split at hk
        · cases hk
          rename_i hl
          rw [hs] at h3; cases h3
          exact ⟨_, hl, agg, by unfold kinds; simp [h1, h2, hs, hl]⟩
        · cases hk
      · cases hk
    · cases hz
  unfold sizeT at hs
  unfold bytesT at hb
  cases hi : P.info? e with
  | none => simp [hi] at hs
  | some inf =>
    simp [hi] at hs hb
    cases hzz : inf.zero with
    | none => simp [zeroT, hi, hzz] at hz
    | some zv =>
      refine ⟨inf, zv, rfl, hs, hb, hzz, ?_⟩
      obtain ⟨ks, hl, agg, hk⟩ := hk
      simp only [zeroT, hk, hi, Option.bind_some, hzz] at hz
      have h1 := (zero_rel (Z := fun _ => none) (ι := fun _ => none) hz).1
      have h2 : ∀ (ks : List CK) (vs : List Value) (z : List AVal), zeroCells ks vs = some z → z.length = ks.length := by
        intro ks
        induction ks with
        | nil => intro vs z h; cases vs <;> simp [zeroCells] at h; subst h; rfl
        | cons k ks ih =>
          intro vs z h
          cases vs with
          | nil => cases k <;> simp [zeroCells] at h
          | cons v vs =>
            unfold zeroCells at h
            split at h
            · rename_i heq; cases heq
            · rename_i e1 e2; cases e1; cases e2
              simp at h
              obtain ⟨z', hz, rfl⟩ := h
              simp [ih _ _ hz]
            · cases h
            · rename_i e1 e2; cases e1; cases e2
              split at h
              · simp at h
                obtain ⟨z', hz, rfl⟩ := h
                simp [ih _ _ hz]
              · cases h
            · cases h
      have := h2 _ _ _ hz
      simp at h1
      omega

theorem run_append_in {sT tY e : TypeId} {i : TypeInfo} (hu : P.underlying sT = some (.slice e)) (hY : P.underlying tY = some .string ∨ ∃ e', P.underlying tY = some (.slice e')) (hi : P.info? e = some i)
    {w : World} {base : Option Addr} {n m cap : Nat} {y : Value} {arr : Array Value} (h1 : (Builtin.lenOf y).run P w = .ok m w) (h2 : (Builtin.firstCells i.size m y).run P w = .ok arr w) (h3 : n + m ≤ cap) (ty : TypeId) :
    (Builtin.append_ #[sT, tY] ty #[.slice base n cap, y]).run P w = match base with
      | some a => ((storeCells (a.add (n * i.size)) arr.toList).run P w).andThen fun _ w' => .ok (.slice base (n + m) cap) w'
      | none => .ok (.slice base (n + m) cap) w := by
  rcases hY with hY | ⟨e', hY⟩ <;> cases base <;> simp [Builtin.append_, run_underlying hu, run_underlying hY, sizeOf, typeInfo, hi, h1, h2, h3]

theorem run_append_new {sT tY e : TypeId} {i : TypeInfo} {z : Value} (hu : P.underlying sT = some (.slice e)) (hY : P.underlying tY = some .string ∨ ∃ e', P.underlying tY = some (.slice e')) (hi : P.info? e = some i) (hz : i.zero = some z)
    {w w1 : World} (hw1 : w1 = w.drew) {base : Option Addr} {n m cap : Nat} {y : Value} {old arr : Array Value} (h1 : (Builtin.lenOf y).run P w = .ok m w) (h2 : (Builtin.firstCells i.size m y).run P w1 = .ok arr w1)
    (h4 : (Builtin.firstCells i.size n (.slice base n cap)).run P w1 = .ok old w1) (h3 : ¬ n + m ≤ cap) (h63 : ((n + m : Nat) : Int) ≤ 9223372036854775807) (h48 : Builtin.nextslicecap (n + m) cap * i.bytes ≤ 281474976710656) (ty : TypeId) :
    ∃ nc, n + m ≤ nc ∧ (Builtin.append_ #[sT, tY] ty #[.slice base n cap, y]).run P w = .ok (.slice (some ⟨w.heap.size, 0, none⟩) (n + m) nc) (w1.alloc (.cells (old ++ arr ++ Builtin.zeroCells z.cells (nc - (n + m))) e)) := by
  have h63' : ¬ (9223372036854775807 < ((n : Int) + (m : Int))) := by omega
  have h48' : ¬ (281474976710656 < Builtin.nextslicecap (n + m) cap * i.bytes) := by omega
  refine ⟨(Question.appendCap (n + m) cap e).cut (w.tape w.drawn (.appendCap (n + m) cap e)), by simp [Question.cut], ?_⟩
  subst hw1
  rcases hY with hY | ⟨e', hY⟩ <;>
    simp [Builtin.append_, run_underlying hu, run_underlying hY, sizeOf, typeInfo, zeroValue, hi, hz, h1, h2, h3, h4, h63', h48', Question.forced, newRow]

theorem ok_append {sT tY e : TypeId} {sz bytes x : Nat} {y : Operand} {z : List AVal} (hd : ∀ x, o.dst = some x → x < nt) (hx : x < nt)
    (hop : o.op = .call { callee := .builtin .append, args := #[.tmp x, y], argTypes := #[sT, tY] }) (hu : P.underlying sT = some (.slice e)) (hY : P.underlying tY = some .string ∨ ∃ e', P.underlying tY = some (.slice e'))
    (hs : sizeT P e = some sz) (hb : bytesT P e = some bytes) (hb0 : 0 < bytes) (hz : zeroT P e = some z) : OpOK P C nt o (.append sz bytes x y) := by
  intro G st a w H out c h next Q hn hp
  simp only [sem] at h
  split at h
  case h_2 => cases h
  rename_i r hr
  split at h
  case h_2 => cases h
  rename_i nn sz' l hsx
  obtain ⟨e1, h2⟩ := bif_some h
  obtain ⟨hbd, h3⟩ := if_some h2
  have e1 := Nat.eq_of_beq_eq_true e1
  subst e1
  have hsl := rdT_slot H hsx
  obtain ⟨nn', sz'', l', hq, hclaim⟩ := hsl.2 rfl
  cases hq
  have hvr : VR G.Z G.ι (.sl nn sz' l) (a.tmps.getD x undef) := hsl.1.resolve_left (by simp)
  obtain ⟨R1, hnox⟩ := H.letGo hx hsx
  obtain ⟨i, zv, hi, hisz, hiby, hizv, hzsz⟩ := info_some (P := P) hs hb hz
  have hexec : ∀ v w', (Builtin.append_ #[sT, tY] o.type #[a.eval (.tmp x), a.eval y]).run P w = .ok v w' → (execOp a.eval o).run P w = .ok (.value v) w' := by
    intro v w' h
    simp [execOp, hop, resolve, invoke, builtin, h]
  have hex : a.eval (.tmp x) = a.tmps.getD x undef := rfl
  -- the list itself
  rcases hvr.sl_inv with ⟨rfl, rfl, hnil⟩ | ⟨rfl, b, off, cap, vals, hval, hcap, hsz, hzz, hrr, hagg⟩
  · by_cases hr0 : r = []
    · -- nothing to nothing
      subst hr0
      obtain ⟨arr, ha1, ha2, ha3, ha4⟩ := appended_rel (P := P) H hr
      have hrun := run_append_in (P := P) (base := none) (n := 0) (cap := 0) hu hY hi ha3 (by rw [hisz]; exact ha2) (by simp) o.type
      refine wp_val (hexec (.slice none 0 0) w (by rw [hex, hnil]; simpa using hrun)) (hn _ G _ _ h3 ?_ (put_defers _ _ _) (Fr.refl _ _))
      exact R1.dst hd fun d _ => ⟨.inr (by simpa [bothNil] using VR.nil), fun _ => ⟨_, _, _, rfl, .inl rfl⟩⟩
    · let w1 : World := w.drew
      have H1 := H.grow (w' := w1) (Nat.le_refl _) (fun _ _ => rfl)
      have R11 := R1.grow (w' := w1) (Nat.le_refl _) (fun _ _ => rfl)
      obtain ⟨arr0, hb1, hb2, hb3, hb4⟩ := appended_rel (P := P) H hr
      obtain ⟨arr, ha1, ha2, ha3, ha4⟩ := appended_rel (P := P) H1 hr
      have hrl : 0 < r.length := by cases r with | nil => exact absurd rfl hr0 | cons => simp
      obtain ⟨nc, hnc, hrun⟩ := run_append_new (P := P) (w := w) (w1 := w1) (base := none) (n := 0) (cap := 0) (m := r.length) (old := #[]) hu hY hi hizv rfl hb3 (by rw [hisz]; exact ha2) (by simp [Builtin.firstCells]) (by omega)
        (by simp only [List.length_nil, Nat.zero_add] at hbd; have : r.length * 1 ≤ r.length * bytes := Nat.mul_le_mul_left _ hb0; omega)
        (by have := next_le (0 + r.length) 0 (by omega); rw [hiby]; simp only [List.length_nil] at hbd
            have h5 : Builtin.nextslicecap (0 + r.length) 0 * bytes ≤ 2 * (0 + r.length) * bytes := Nat.mul_le_mul_right _ this
            rw [Nat.mul_assoc] at h5; omega) o.type
      have hE : ElemsR G.Z G.ι sz' r (fun j => (#[] ++ arr ++ Builtin.zeroCells zv.cells (nc - (0 + r.length)))[j]?) := by
        refine ⟨ha4.hsz, ha4.hagg, fun i j aa cc hi hj => ?_, fun j hj => ?_⟩
        · obtain ⟨u, hu, hv⟩ := ha4.hval i j aa cc hi hj
          have := (Array.getElem?_eq_some_iff.1 hu).1
          exact ⟨u, by simp only [Array.empty_append]; rw [Array.getElem?_append_left this]; exact hu, hv⟩
        · obtain ⟨u, hu, hv⟩ := ha4.hone j hj
          have := (Array.getElem?_eq_some_iff.1 hu).1
          exact ⟨u, by simp only [Array.empty_append]; rw [Array.getElem?_append_left this]; exact hu, hv⟩
      obtain ⟨G', R2, F2⟩ := R11.newRow (a := a) (cap := nc) hd (w' := w1.alloc (.cells (#[] ++ arr ++ Builtin.zeroCells zv.cells (nc - (0 + r.length))) e)) rfl rfl rfl rfl hE (by omega) (by
        simp [Builtin.zeroCells, ha1, hzsz]
        rw [← Nat.add_mul]; exact Nat.mul_le_mul_right _ (by omega))
      refine wp_val (hexec _ _ (by rw [hex, hnil]; exact hrun)) (hn _ G' _ _ h3 ?_ (put_defers _ _ _) ((Fr.grow (G := G) (w := w) (w' := w1) rfl rfl rfl (Nat.le_refl _) fun _ _ => rfl).trans F2))
      have hbn : bothNil r true = false := by cases r with | nil => exact absurd rfl hr0 | cons => rfl
      simp only [List.nil_append, hbn, upds]
      have hws : w1.heap.size = w.heap.size := rfl
      rw [hws] at R2
      simpa using R2
  · rcases hclaim with hc | ⟨b', off', n', cap', hc1, hc2, hc3⟩
    · rw [hval] at hc; cases hc
    rw [hval] at hc1; cases hc1
    by_cases hfit : l.length + r.length ≤ cap
    · obtain ⟨arr, ha1, ha2, ha3, ha4⟩ := appended_rel (P := P) H hr
      have hc0 := hc3
      obtain ⟨barr, T, fr, hb1, hb2, hb3, hb4⟩ := hc0
      have hmul : (l.length + r.length) * sz' ≤ cap * sz' := Nat.mul_le_mul_right _ hfit
      rw [Nat.add_mul] at hmul
      obtain ⟨w', r1, r2, r3, r4, r5, r6, r7⟩ := run_storeCells_blit P b (off + l.length * sz') T fr arr.toList 0 w barr hb1 (by simp [ha1]; omega) (fun j k1 k2 => hb4 j (by omega) (by simp [ha1] at k2; omega)) (fun v hv => by
        obtain ⟨j, hj⟩ := List.getElem?_of_mem hv
        have hlt := (List.getElem?_eq_some_iff.1 hj).1
        obtain ⟨u, hu, h1⟩ := ha4.hone j (by simpa [ha1] using hlt)
        simp at hj
        rw [hj] at hu; cases hu; exact h1)
      have hrun := run_append_in (P := P) (base := some ⟨b, off, none⟩) (n := l.length) (cap := cap) hu hY hi ha3 (by rw [hisz]; exact ha2) hfit o.type
      simp only [hisz, add_mk, r1, Result.andThen_ok] at hrun
      obtain ⟨G', R2, F2⟩ := R1.inPlace (w' := w') (a := a) hd hc3 hc2 hnox hfit (by rw [hval] at hvr; exact hvr) (us := arr.toList) (by
          refine ⟨ha4.hsz, ha4.hagg, fun i j aa cc hi hj => ?_, fun j hj => ?_⟩
          · obtain ⟨u, hu, hv⟩ := ha4.hval i j aa cc hi hj; exact ⟨u, by simpa using hu, hv⟩
          · obtain ⟨u, hu, hv⟩ := ha4.hone j hj; exact ⟨u, by simpa using hu, hv⟩) (by simp [ha1]) r5 r6 r7 r4 r3 (fun arr' T' fr' hh => by
          rw [hb1] at hh; cases hh; simpa using r2)
      refine wp_val (hexec _ _ (by rw [hex, hval]; exact hrun)) (hn _ G' _ _ h3 ?_ (put_defers _ _ _) F2)
      have hbn : bothNil r false = false := by cases r <;> rfl
      simp only [hbn, upds]
      exact R2
    · let w1 : World := w.drew
      have H1 := H.grow (w' := w1) (Nat.le_refl _) (fun _ _ => rfl)
      have R11 := R1.grow (w' := w1) (Nat.le_refl _) (fun _ _ => rfl)
      obtain ⟨arr0, hb1, hb2, hb3, hb4⟩ := appended_rel (P := P) H hr
      obtain ⟨arr, ha1, ha2, ha3, ha4⟩ := appended_rel (P := P) H1 hr
      rw [hval] at hvr
      obtain ⟨old, ho1, ho2, _, ho4⟩ := cells_of (P := P) H1 hvr
      obtain ⟨nc, hnc, hrun⟩ := run_append_new (P := P) (w := w) (w1 := w1) (base := some ⟨b, off, none⟩) (n := l.length) (cap := cap) (m := r.length) (old := old) hu hY hi hizv rfl hb3 (by rw [hisz]; exact ha2) (by rw [hisz]; exact ho2) hfit
        (by have : (l.length + r.length) * 1 ≤ (l.length + r.length) * bytes := Nat.mul_le_mul_left _ hb0; omega)
        (by have := next_le (l.length + r.length) cap (by omega); rw [hiby]
            have h5 : Builtin.nextslicecap (l.length + r.length) cap * bytes ≤ 2 * (l.length + r.length) * bytes := Nat.mul_le_mul_right _ this
            rw [Nat.mul_assoc] at h5; omega) o.type
      have hE : ElemsR G.Z G.ι sz' (l ++ r) (fun j => (old ++ arr ++ Builtin.zeroCells zv.cells (nc - (l.length + r.length)))[j]?) := by
        refine ho4.append ha4 (fun j hj => ?_) (fun j hj => ?_)
        · rw [Array.append_assoc, Array.getElem?_append_left (by rw [ho1]; exact hj)]
        · rw [Array.append_assoc, Array.getElem?_append_right (by rw [ho1]; omega), ho1, Array.getElem?_append_left (by rw [ha1]; omega)]
          congr 1; omega
      obtain ⟨G', R2, F2⟩ := R11.newRow (a := a) (cap := nc) hd (w' := w1.alloc (.cells (old ++ arr ++ Builtin.zeroCells zv.cells (nc - (l.length + r.length))) e)) rfl rfl rfl rfl hE (by simp; omega) (by
        simp [Builtin.zeroCells, ha1, ho1, hzsz]
        rw [← Nat.add_mul, ← Nat.add_mul]; exact Nat.mul_le_mul_right _ (by omega))
      refine wp_val (hexec _ _ (by rw [hex, hval]; exact hrun)) (hn _ G' _ _ h3 ?_ (put_defers _ _ _) ((Fr.grow (G := G) (w := w) (w' := w1) rfl rfl rfl (Nat.le_refl _) fun _ _ => rfl).trans F2))
      have hbn : bothNil r false = false := by cases r <;> rfl
      simp only [hbn, upds]
      have hws : w1.heap.size = w.heap.size := rfl
      rw [hws] at R2
      simpa using R2
end
end Go.Abs
