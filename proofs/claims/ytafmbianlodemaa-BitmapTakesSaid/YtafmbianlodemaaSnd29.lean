/- THE ENGINE, part 29: slices that grow in the common store. -/
import Derived.Test.YtafmbianlodemaaSnd28
namespace Go.Abs
set_option linter.unusedSectionVars false
set_option linter.unusedVariables false
set_option linter.unusedSimpArgs false
section
variable {P : Program} {C : CallF} {nt : Nat} {o : Oper}

/-- A box is given up. -/
theorem Rel.killG {G : Gh} {st : St} {tm : Array Value} {w : World} (H : Rel G nt st tm w) {sg : Sg} (hsg : st .g = .sg sg) (g : Nat) : Rel G nt (upd st .g (.sg (sg.set g ⟨[]⟩))) tm w := by
  have hls : ∀ i, upd st .g (.sg (sg.set g ⟨[]⟩)) (.s i) = st (.s i) := fun i => upd_ne _ _ (by simp)
  have hll : ∀ i, upd st .g (.sg (sg.set g ⟨[]⟩)) (.l i) = st (.l i) := fun i => upd_ne _ _ (by simp)
  refine ⟨H.size, fun i s hi => ?_, fun i B0 h => ?_, fun sg' hg g' B0 h hne0 => ?_, fun sg' hg => ?_, H.frz, H.ownlt⟩
  · rw [hls] at hi
    exact (H.slots i s hi).congr fun b B hB => ⟨B, by rw [hll]; exact hB⟩
  · rw [hll] at h; exact H.lbox i B0 h
  · rw [upd_self] at hg; cases hg
    rw [List.getElem?_set] at h
    by_cases hi : g = g'
    · subst hi
      rw [if_pos rfl] at h
      split at h
      · cases h; exact absurd rfl hne0
      · cases h
    · rw [if_neg hi] at h
      exact H.gbox sg hsg g' B0 h hne0
  · rw [upd_self] at hg; cases hg
    simpa using H.gdom sg hsg

/-- A given-up box's block is a new box's. -/
theorem Rel.adoptG {G : Gh} {st : St} {tm : Array Value} {w w' : World} (H : Rel G nt st tm w) {sg : Sg} (hsg : st .g = .sg sg) {g : Nat} {p : Nat × Nat} {B' : Box} (hdead : ∀ B, sg[g]? = some B → B.cells = []) (ho : G.own p.1 = some (.gbox g))
    (h1 : w'.os = w.os) (h2 : w'.tape = w.tape) (h3 : w'.output = w.output) (hsz : w'.heap.size = w.heap.size) (hne : ∀ c, c ≠ p.1 → w'.heap[c]? = w.heap[c]?) (hbox : BoxR G w' B' p.1) (hroom : Room w' p) :
    ∃ G', Rel G' nt (upd st .g (.sg (sg ++ [B']))) tm w' ∧ Fr G w G' w' ∧ G'.ι sg.length = some p := by
  let G' : Gh := { G with ι := fun i => if i = sg.length then some p else G.ι i, own := fun b => if b = p.1 then some (.gbox sg.length) else G.own b }
  have hnone : G.ι sg.length = none := H.gdom sg hsg _ (Nat.le_refl _)
  have hι : ∀ g b, G.ι g = some b → G'.ι g = some b := fun g b h => by
    have : g ≠ sg.length := by rintro rfl; rw [hnone] at h; cases h
    simp [G', this, h]
  have hob : ∀ c oo, G.own c = some oo → oo ≠ .gbox g → c ≠ p.1 := by
    rintro c oo h h' rfl; rw [ho] at h; cases h; exact h' rfl
  have hls : ∀ i, upd st .g (.sg (sg ++ [B'])) (.s i) = st (.s i) := fun i => upd_ne _ _ (by simp)
  have hll : ∀ i, upd st .g (.sg (sg ++ [B'])) (.l i) = st (.l i) := fun i => upd_ne _ _ (by simp)
  have hbm : ∀ {w0 : World} {B0 : Box} {b : Nat}, BoxR G w0 B0 b → BoxR G' w0 B0 b := by
    rintro w0 B0 b ⟨arr, T, fr, p1, p2, p3, p4⟩
    exact ⟨arr, T, fr, p1, p2, p3, fun j c hc => by obtain ⟨u, q1, q2, q3⟩ := p4 j c hc; exact ⟨u, q1, q2.mono (fun _ _ h => h) hι, q3⟩⟩
  refine ⟨G', ⟨H.size, fun i s hi => ?_, fun i B0 h => ?_, fun s hs g' B0 h hne0 => ?_, fun s hs g' hg' => ?_, fun aa v h => ?_, fun b oo h => ?_⟩, ⟨h1, h2, h3, Nat.le_of_eq hsz.symm, fun _ _ h => h, hι, fun c hc ho' => ?_⟩, by simp [G']⟩
  · rw [hls] at hi
    have h0 := (H.slots i s hi).world (w' := w') fun c hc => hne c (hob c _ hc (by simp))
    have h1' : SlotR G' st w' i s (tm.getD i undef) := by
      cases s with
      | v vv f =>
        refine ⟨h0.1.imp id fun h => h.mono (fun _ _ h => h) hι, fun hf => ?_⟩
        obtain ⟨nn, sz, l, e1, e2⟩ := h0.2 hf
        refine ⟨nn, sz, l, e1, ?_⟩
        rcases e2 with e2 | ⟨b, off, n, cap, e3, e4, e5⟩
        · exact .inl e2
        · exact .inr ⟨b, off, n, cap, e3, by simp [G', hob b _ e4 (by simp), e4], e5⟩
      | lp b off => exact h0
      | ls b off n => exact h0
    exact h1'.congr fun b B hB => ⟨B, by rw [hll]; exact hB⟩
  · rw [hll] at h
    obtain ⟨c, e1, e2, e3⟩ := H.lbox i B0 h
    have hc := hob c _ e2 (by simp)
    exact ⟨c, e1, by simp [G', hc, e2], hbm (e3.world (hne c hc))⟩
  · rw [upd_self] at hs; cases hs
    by_cases hg : g' < sg.length
    · rw [List.getElem?_append_left hg] at h
      obtain ⟨c, e1, e2, e3, e4⟩ := H.gbox sg hsg g' B0 h hne0
      have hgg : g' ≠ g := by rintro rfl; exact hne0 (hdead B0 h)
      have hc := hob c.1 _ e2 (by simpa using hgg)
      exact ⟨c, hι _ _ e1, by simp [G', hc, e2], hbm (e3.world (hne c.1 hc)), e4.same (hne c.1 hc)⟩
    · have hge : g' = sg.length := by
        have := (List.getElem?_eq_some_iff.1 h).1
        simp at this; omega
      subst hge
      simp at h
      subst h
      exact ⟨p, by simp [G'], by simp [G'], hbm hbox, hroom⟩
  · rw [upd_self] at hs; cases hs
    simp at hg'
    have : g' ≠ sg.length := by omega
    simp only [G', this, if_false]
    exact H.gdom sg hsg g' (by omega)
  · obtain ⟨e1, e2, e3⟩ := H.frz aa v h
    have hb : aa.block ≠ p.1 := by
      intro e
      obtain ⟨i, hi⟩ := e3 (.gbox g) (by rw [e]; exact ho)
      cases hi
    refine ⟨(cell_same (hne _ hb)).trans e1, e2, fun oo ho' => e3 oo ?_⟩
    simp only [G'] at ho'
    rwa [if_neg hb] at ho'
  · simp only [G'] at h
    rw [hsz]
    split at h
    · rename_i hb; subst hb; exact H.ownlt _ _ ho
    · exact H.ownlt b oo h
  · have hcb : c ≠ p.1 := by rintro rfl; rw [ho] at ho'; cases ho'
    exact ⟨hne c hcb, by simp [G', hcb, ho'], fun _ _ => rfl⟩

theorem flatA_length {sz : Nat} : ∀ {l : List AVal}, (∀ a ∈ l, a.cells.length = sz) → (flatA l).length = l.length * sz
  | [], _ => by simp [flatA]
  | a :: l, h => by
    have e1 := flatA_length (sz := sz) (l := l) (fun b hb => h b (List.mem_cons_of_mem _ hb))
    have e2 := h a (by simp)
    simp only [flatA, List.length_append, List.length_cons, e1, e2, Nat.add_mul, Nat.one_mul]
    omega
theorem flatA_get {sz : Nat} : ∀ {l : List AVal}, (∀ a ∈ l, a.cells.length = sz) → ∀ {k : Nat} {c : AVal}, (flatA l)[k]? = some c → ∃ i j a, l[i]? = some a ∧ a.cells[j]? = some c ∧ k = i * sz + j
  | [], _, k, c, h => by simp [flatA] at h
  | a :: l, hs, k, c, h => by
    simp only [flatA] at h
    rw [List.getElem?_append] at h
    have ha := hs a (by simp)
    split at h
    · exact ⟨0, k, a, rfl, h, by simp⟩
    · obtain ⟨i, j, b, e1, e2, e3⟩ := flatA_get (fun b hb => hs b (by simp [hb])) h
      exact ⟨i + 1, j, b, by simpa using e1, e2, by rw [Nat.add_mul, Nat.one_mul]; omega⟩
theorem ElemsR.l2 {Z : Fz} {ι : Iot} {sz : Nat} {l : List AVal} {arr : Array Value} (h : ElemsR Z ι sz l (fun j => arr[j]?)) (hs : arr.size = l.length * sz) : L2 Z ι (flatA l) arr.toList := by
  refine ⟨by rw [flatA_length h.hsz]; simp [hs], fun k c v hc hv => ?_⟩
  obtain ⟨i, j, a, e1, e2, rfl⟩ := flatA_get h.hsz hc
  obtain ⟨u, hu, hvr⟩ := h.hval i j a c e1 e2
  simp at hv
  have hu : arr[i * sz + j]? = some u := hu
  rw [hu] at hv; cases hv
  refine ⟨hvr, ?_⟩
  have hlt : i * sz + j < l.length * sz := by rw [← hs]; exact (Array.getElem?_eq_some_iff.1 hu).1
  obtain ⟨u', hu', h1⟩ := h.hone _ hlt
  have hu' : arr[i * sz + j]? = some u' := hu'
  rw [hu] at hu'; cases hu'
  exact h1

theorem ok_appendG {sT tY e : TypeId} {sz bytes : Nat} {x y : Operand} {z : List AVal} (hd : ∀ x, o.dst = some x → x < nt)
    (hop : o.op = .call { callee := .builtin .append, args := #[x, y], argTypes := #[sT, tY] }) (hu : P.underlying sT = some (.slice e)) (hY : P.underlying tY = some .string ∨ ∃ e', P.underlying tY = some (.slice e'))
    (hs : sizeT P e = some sz) (hb : bytesT P e = some bytes) (hb0 : 0 < bytes) (hz : zeroT P e = some z) : OpOK P C nt o (.appendG sz bytes x y) := by
  intro G st a w H out c h next Q hn hp
  simp only [sem] at h
  split at h
  case h_2 => cases h
  rename_i r0 rs hr
  have hr0 : 0 < (r0 :: rs).length := by simp
  generalize (r0 :: rs) = r at hr h hr0
  obtain ⟨i, zv, hi, hisz, hiby, hizv, hzsz⟩ := info_some (P := P) hs hb hz
  have hexec : ∀ v w', (Builtin.append_ #[sT, tY] o.type #[a.eval x, a.eval y]).run P w = .ok v w' → (execOp a.eval o).run P w = .ok (.value v) w' := by
    intro v w' h
    simp [execOp, hop, resolve, invoke, builtin, h]
  have hrx := rdO_rel H x
  let w1 : World := w.drew
  have H1 := H.grow (w' := w1) (Nat.le_refl _) (fun _ _ => rfl)
  obtain ⟨arr0, hb1, hb2, hb3, hb4⟩ := appended_rel (P := P) H hr
  obtain ⟨arr, ha1, ha2, ha3, ha4⟩ := appended_rel (P := P) H1 hr
  have Fd : Fr G w G w1 := Fr.grow rfl rfl rfl (Nat.le_refl _) fun _ _ => rfl
  split at h
  · -- nil
    rename_i sz' f sg hx hsg
    obtain ⟨e1, h2⟩ := bif_some h
    have e1 := Nat.eq_of_beq_eq_true e1
    subst e1
    obtain ⟨hbd, h3⟩ := if_some h2
    rw [hx] at hrx
    have hval : a.eval x = .slice none 0 0 := by
      rcases hrx with hrx | hrx
      · cases hrx
      · rcases hrx.sl_inv with ⟨_, _, h⟩ | ⟨h, _⟩
        · exact h
        · cases h
    obtain ⟨nc, hnc, hrun⟩ := run_append_new (P := P) (w := w) (w1 := w1) (base := none) (n := 0) (cap := 0) (m := r.length) (old := #[]) hu hY hi hizv rfl hb3 (by rw [hisz]; exact ha2) (by simp [Builtin.firstCells]) (by omega)
      (by have : r.length * 1 ≤ r.length * bytes := Nat.mul_le_mul_left _ hb0; omega)
      (by have := next_le (0 + r.length) 0 (by omega); rw [hiby]
          have h5 : Builtin.nextslicecap (0 + r.length) 0 * bytes ≤ 2 * (0 + r.length) * bytes := Nat.mul_le_mul_right _ this
          rw [Nat.mul_assoc] at h5; have h7 : (0 + r.length) * bytes = r.length * bytes := by rw [Nat.zero_add]
          omega) o.type
    have hl2 := ha4.l2 ha1
    have hsize : (#[] ++ arr ++ Builtin.zeroCells zv.cells (nc - (0 + r.length))).size = nc * sz' := by
      simp [Builtin.zeroCells, ha1, hzsz]
      rw [← Nat.add_mul]; congr 1; omega
    obtain ⟨G', R', F', hι⟩ := H1.newG hsg (w' := w1.alloc (.cells (#[] ++ arr ++ Builtin.zeroCells zv.cells (nc - (0 + r.length))) e)) (B := ⟨flatA r⟩) (fr := (0, 0)) rfl rfl rfl rfl (by intro j _; simp)
      (by show (flatA r).length ≤ _; rw [hl2.1]; simp) (by
        show L2 _ _ (flatA r) (List.take (flatA r).length _)
        rw [hl2.1]
        simpa using hl2)
    refine wp_val (hexec _ _ (by rw [hval]; exact hrun)) (hn _ G' _ _ h3 ?_ (put_defers _ _ _) (Fd.trans F'))
    refine R'.dst hd fun _ _ => slotV ?_
    have hws : w1.heap.size = w.heap.size := rfl
    rw [Nat.zero_add]
    rw [hws] at hι
    exact .gs hι (by omega) (by rw [hsize]; omega)
  · -- one that is there
    rename_i g sz' o' n f sg hx hsg
    obtain ⟨e1, h2⟩ := bif_some h
    rw [Bool.and_eq_true] at e1
    have e2 := Nat.eq_of_beq_eq_true e1.2
    have e1 := Nat.eq_of_beq_eq_true e1.1
    subst e1
    subst e2
    obtain ⟨B, hB, h2⟩ := withO_some h2
    obtain ⟨hc, h2⟩ := bif_some h2
    simp only [Bool.and_eq_true] at hc
    obtain ⟨c1, c2⟩ := hc
    have c1 := Nat.eq_of_beq_eq_true c1
    have c2 : 0 < B.cells.length := Nat.blt_eq ▸ c2
    have hne : B.cells ≠ [] := by rintro e; rw [e] at c2; simp at c2
    obtain ⟨hbd, h3⟩ := if_some h2
    rw [hx] at hrx
    rcases hrx with hrx | hrx
    · cases hrx
    generalize he : a.eval x = u at hrx hexec
    cases hrx with
    | @gs _ _ _ _ cap p hg hcap hroom =>
      obtain ⟨p', k1, k2, k3, k4⟩ := H.gbox sg hsg g B hB hne
      rw [hg] at k1; cases k1
      have k30 := k3
      obtain ⟨barr, T, fr, m1, m2, m3, _⟩ := k30
      obtain ⟨barr', T', fr', m4, m5⟩ := k4
      rw [m1] at m4; cases m4
      obtain ⟨_, _, m6⟩ := L2.of_box k3 m1
      have hdead : ∀ B0, (sg.set g ⟨[]⟩)[g]? = some B0 → B0.cells = [] := by
        intro B0 h
        rw [List.getElem?_set] at h
        rw [if_pos rfl] at h
        split at h
        · cases h; rfl
        · cases h
      have hsgk : upd st .g (.sg (sg.set g ⟨[]⟩)) .g = .sg (sg.set g ⟨[]⟩) := upd_self _ _ _
      have hlen : (sg.set g ⟨[]⟩).length = sg.length := by simp
      have hup : ∀ X : Sg, upd (upd st .g (.sg (sg.set g ⟨[]⟩))) .g (.sg X) = upd st .g (.sg X) := by
        intro X; funext q
        by_cases hq : q = .g
        · subst hq; simp [upd_self]
        · rw [upd_ne _ _ hq, upd_ne _ _ hq, upd_ne _ _ hq]
      by_cases hfit : n + r.length ≤ cap
      · -- in place
        have hmul : (n + r.length) * sz' ≤ cap * sz' := Nat.mul_le_mul_right _ hfit
        rw [Nat.add_mul] at hmul
        have hl2 := hb4.l2 hb1
        obtain ⟨w', r1, r2, r3, r4, r5, r6, r7⟩ := run_storeCells_blit P p.1 (0 + n * sz') T fr arr0.toList 0 w barr m1 (by simp [hb1]; omega) (fun j q1 q2 => m3 j (by simp [hb1] at q2; omega)) (fun v hv => by
          obtain ⟨j, hj⟩ := List.getElem?_of_mem hv
          have hlt := (List.getElem?_eq_some_iff.1 hj).1
          obtain ⟨u, hu, h1⟩ := hb4.hone j (by simpa [hb1] using hlt)
          simp at hj
          have hu : arr0[j]? = some u := hu
          rw [hj] at hu; cases hu; exact h1)
        have hrun := run_append_in (P := P) (base := some ⟨p.1, 0, none⟩) (n := n) (cap := cap) hu hY hi hb3 (by rw [hisz]; exact hb2) hfit o.type
        simp only [hisz, add_mk, r1, Result.andThen_ok] at hrun
        have hbl : (blit barr.toList (0 + n * sz' + 0) arr0.toList).length = barr.size := by rw [blit_length (by simp [hb1]; omega)]; simp
        have hbl' : (blit barr.toList (n * sz') arr0.toList).length = barr.size := by simpa using hbl
        have htake : (blit barr.toList (0 + n * sz' + 0) arr0.toList).take (B.cells ++ flatA r).length = barr.toList.take B.cells.length ++ arr0.toList := by
          have e3 : (B.cells ++ flatA r).length = n * sz' + arr0.toList.length := by rw [List.length_append, c1, hl2.1]
          rw [e3, c1]
          unfold blit
          simp only [Nat.zero_add, Nat.add_zero]
          have e4 : (barr.toList.take (n * sz')).length = n * sz' := by rw [List.length_take]; simp; omega
          rw [List.take_append, e4]
          rw [show n * sz' + arr0.toList.length - n * sz' = arr0.toList.length by omega]
          rw [List.take_of_length_le (by omega), List.take_left]
        have hBox : BoxR G w' ⟨B.cells ++ flatA r⟩ p.1 := .of r2 (by intro j hj; simp [hbl'] at hj; exact m3 j hj) (by
          show (B.cells ++ flatA r).length ≤ _
          rw [List.length_append, c1, hl2.1]; simp [hbl', hb1]; omega) (by
          show L2 _ _ (B.cells ++ flatA r) _
          simp only
          rw [htake]
          exact m6.append hl2)
        have hRoom : Room w' p := ⟨_, _, _, r2, by simp only [List.size_toArray]; rw [hbl]; exact m5⟩
        obtain ⟨G', R', F', hι⟩ := (H.killG hsg g).adoptG hsgk hdead k2 r5 r6 r7 r4 r3 hBox hRoom
        rw [hup, hlen] at *
        refine wp_val (hexec _ _ hrun) (hn _ G' _ _ h3 (R'.dst hd fun _ _ => slotV ?_) (put_defers _ _ _) F')
        exact .gs hι hfit hroom
      · -- a new block
        have hold : (Builtin.firstCells i.size n (.slice (some ⟨p.1, 0, none⟩) n cap)).run P w1 = .ok (barr.toList.take (n * sz')).toArray w1 := by
          simp only [Builtin.firstCells, hisz]
          have := run_loadCells (P := P) w1 ⟨p.1, 0, none⟩ (n * sz') (fun j => barr.getD j undef) fun j hj => by
            rw [add_mk]
            simp only [World.cell?, Nat.zero_add]
            have : w1.heap[p.1]? = some (.cells barr T fr) := m1
            rw [this]
            have hj2 : j < barr.size := by omega
            simp [hj2]
          rw [this]
          congr 2
          apply List.ext_getElem?
          intro j
          by_cases hj : j < n * sz'
          · have hj2 : j < barr.size := by omega
            simp [hj, hj2, List.getElem?_take]
          · simp [hj, List.getElem?_take]
        obtain ⟨nc, hnc, hrun⟩ := run_append_new (P := P) (w := w) (w1 := w1) (base := some ⟨p.1, 0, none⟩) (n := n) (cap := cap) (m := r.length) hu hY hi hizv rfl hb3 (by rw [hisz]; exact ha2) hold hfit
          (by have : (n + r.length) * 1 ≤ (n + r.length) * bytes := Nat.mul_le_mul_left _ hb0; omega)
          (by have := next_le (n + r.length) cap (by omega); rw [hiby]
              have h5 : Builtin.nextslicecap (n + r.length) cap * bytes ≤ 2 * (n + r.length) * bytes := Nat.mul_le_mul_right _ this
              rw [Nat.mul_assoc] at h5; omega) o.type
        have hl2 := ha4.l2 ha1
        have hol : (barr.toList.take (n * sz')).length = n * sz' := by rw [List.length_take]; simp; omega
        have hsize : ((barr.toList.take (n * sz')).toArray ++ arr ++ Builtin.zeroCells zv.cells (nc - (n + r.length))).size = nc * sz' := by
          simp only [Array.size_append, List.size_toArray, hol, ha1]
          simp [Builtin.zeroCells, hzsz]
          rw [← Nat.add_mul, ← Nat.add_mul]; congr 1; omega
        have Hk := (H.killG hsg g).grow (w' := w1) (Nat.le_refl _) (fun _ _ => rfl)
        obtain ⟨G', R', F', hι⟩ := Hk.newG hsgk (w' := w1.alloc (.cells ((barr.toList.take (n * sz')).toArray ++ arr ++ Builtin.zeroCells zv.cells (nc - (n + r.length))) e)) (B := ⟨B.cells ++ flatA r⟩) (fr := (0, 0)) rfl rfl rfl rfl (by intro j _; simp)
          (by show (B.cells ++ flatA r).length ≤ _; rw [List.length_append, c1, hl2.1]; simp only [Array.size_append, List.size_toArray, hol]; simp) (by
            show L2 _ _ (B.cells ++ flatA r) (List.take (B.cells ++ flatA r).length _)
            have e3 : (B.cells ++ flatA r).length = (barr.toList.take (n * sz') ++ arr.toList).length := by rw [List.length_append, List.length_append, c1, hol, hl2.1]
            rw [e3]
            simp only [Array.toList_append]
            rw [List.take_left]
            rw [c1] at m6
            exact m6.append hl2)
        rw [hup, hlen] at *
        refine wp_val (hexec _ _ hrun) (hn _ G' _ _ h3 (R'.dst hd fun _ _ => slotV ?_) (put_defers _ _ _) (Fd.trans F'))
        have hws : w1.heap.size = w.heap.size := rfl
        rw [hws] at hι
        exact .gs hι (by omega) (by rw [hsize]; omega)
  · cases h
end
end Go.Abs
