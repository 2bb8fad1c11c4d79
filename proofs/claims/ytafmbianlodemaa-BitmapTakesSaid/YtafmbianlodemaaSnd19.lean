/- THE ENGINE, part 22: makes, bytes and strings. -/
import Derived.Test.YtafmbianlodemaaSnd18
import Derived.Laws.BytesString
namespace Go.Abs
set_option linter.unusedSectionVars false
set_option linter.unusedVariables false
set_option linter.unusedSimpArgs false
section
variable {P : Program} {C : CallF} {nt : Nat} {o : Oper}

theorem modify_push {α : Type} (h : Array α) (x : α) (f : α → α) : (h.push x).modify h.size f = h.push (f x) := by
  apply Array.ext_getElem?
  intro i
  rw [Array.getElem?_modify, Array.getElem?_push, Array.getElem?_push]
  by_cases hi : h.size = i
  · subst hi; simp
  · rw [if_neg hi, if_neg (fun e => hi e.symm), if_neg (fun e => hi e.symm)]

theorem ok_toBytes {src dst e : TypeId} {x : Operand} (hd : ∀ x, o.dst = some x → x < nt) (hop : o.op = .convert src dst x) (h1 : P.underlying src = some .string) (h2 : P.underlying dst = some (.slice e)) (h3 : P.underlying e = some (.int .u8)) :
    OpOK P C nt o (.toBytes x) := by
  intro G st a w H out c h next Q hn hp
  simp only [sem] at h
  split at h
  case h_2 => cases h
  rename_i d hdst
  obtain ⟨s, e1, e2⟩ := withS_some h
  split at e2
  case h_2 => cases e2
  rename_i hno
  have he := at_eq (rdA_rel H e1).1
  let cp := (Question.appendCap s.size 0 e).cut (w.tape w.drawn (.appendCap s.size 0 e))
  have hcp : s.size ≤ cp := by simp [cp, Question.cut]
  let arr : Array Value := (s.data.map fun b => Value.int .u8 b.toNat) ++ Array.replicate (cp - s.size) (.int .u8 0)
  have hsz : arr.size = cp := by
    simp only [arr, Array.size_append, Array.size_map, Array.size_replicate]
    show s.size + _ = _
    omega
  let w' : World := (w.drew.alloc (.cells arr e)).freeze ⟨w.heap.size, arr.size, none⟩ 1
  have hheap : w'.heap = w.heap.push (.cells arr e (arr.size, arr.size + 1)) := by
    simp only [w', World.freeze]
    rw [if_neg (by simp)]
    have hh : (w.drew.alloc (.cells arr e)).heap = w.heap.push (.cells arr e) := rfl
    rw [hh, modify_push]
    simp
  have hsh : (w.drew.alloc (.cells arr e)).shape? w.heap.size = some (e, arr.size) := by
    simp only [World.shape?]
    rw [show (w.drew.alloc (.cells arr e)).heap = w.heap.push (.cells arr e) from rfl, Array.getElem?_push]
    simp
  have hrun : (execOp a.eval o).run P w = .ok (.value (.slice (some ⟨w.heap.size, 0, none⟩) s.size cp)) w' := by
    simp only [execOp, hop, Sem.run_bind, Go.convert, run_underlying h1, run_underlying h2, Result.andThen_ok, he, run_underlying h3, Conv.stringToBytes]
    simp only [run_choose, Question.forced, Bool.false_eq_true, if_false, Result.andThen_ok, newRow, Sem.run_bind, run_newObj, Sem.run_pure, markStringish, run_shape]
    simp only [World.shape?]
    rw [show (w.heap.push (Obj.cells (Array.map (fun b => Value.int IntKind.u8 (b.toNat : Int)) s.data ++ Array.replicate ((Question.appendCap s.size 0 e).cut (w.tape w.drawn (Question.appendCap s.size 0 e)) - s.size) (Value.int IntKind.u8 0)) e))[w.heap.size]? = some (.cells arr e) from by rw [Array.getElem?_push]; simp [arr, cp]]
    rfl
  have hB : L2 G.Z G.ι (ofBytes s.data.toList) (arr.toList.take (ofBytes s.data.toList).length) := by
    have : (ofBytes s.data.toList).length = (s.data.map fun b => Value.int .u8 (b.toNat : Int)).toList.length := by simp [ofBytes]
    simp only [arr, Array.toList_append]
    rw [List.take_append_of_le_length (by rw [this]; exact Nat.le_refl _), this, List.take_length]
    refine ⟨by rw [this], fun j cc v hc hv => ?_⟩
    rw [ofBytes_get] at hc
    cases hb : s.data.toList[j]? with
    | none => simp [hb] at hc
    | some b =>
      simp [hb] at hc
      subst hc
      simp at hv hb
      rw [hb] at hv
      simp at hv
      subst hv
      exact ⟨.at rfl, rfl⟩
  obtain ⟨G', R', F'⟩ := H.newL (w' := w') (hd d hdst) hno (arr := arr) (T := e) (fr := (arr.size, arr.size + 1)) (B := ⟨ofBytes s.data.toList⟩) hheap rfl rfl rfl (by intro j hj; simp; omega) (by
      show (ofBytes s.data.toList).length ≤ _
      rw [hsz]; simp [ofBytes]; exact hcp) hB (.inr ⟨s.size, cp, rfl, rfl, hcp⟩)
  exact wp_val hrun (hn _ G' _ _ e2 (by rw [hdst]; exact R') (put_defers _ _ _) F')

theorem bytesOf_vals {Z : Fz} {ι : Iot} : ∀ {l : List AVal} {bs : List UInt8} {vs : List Value}, bytesOf l = some bs → l.length = vs.length → (∀ (j : Nat) c v, l[j]? = some c → vs[j]? = some v → VR Z ι c v) →
    ∃ ns : List Int, vs = ns.map (Value.int .u8) ∧ bs = ns.map fun n => UInt8.ofNat n.toNat
  | [], bs, vs, h, hl, _ => by
    simp [bytesOf] at h; subst h
    cases vs with
    | cons => simp at hl
    | nil => exact ⟨[], rfl, rfl⟩
  | a :: l, bs, vs, h, hl, hv => by
    cases vs with
    | nil => simp at hl
    | cons v vs =>
      unfold bytesOf at h
      split at h
      · rename_i heq; cases heq
      · rename_i n l' heq
        cases heq
        split at h
        · rename_i bs' hb
          cases h
          obtain ⟨ns, h1, h2⟩ := bytesOf_vals (Z := Z) (ι := ι) hb (vs := vs) (by simpa using hl) (fun j c v e1 e2 => hv (j + 1) c v (by simpa using e1) (by simpa using e2))
          have := at_eq (hv 0 _ v rfl rfl)
          subst this
          exact ⟨n :: ns, by simp [h1], by simp [h2]⟩
        · cases h
      · cases h

theorem foldl_push (ns : List Int) : ∀ b : ByteArray, ns.foldl (fun r n => r.push (UInt8.ofNat n.toNat)) b = ⟨b.data ++ (ns.map fun n => UInt8.ofNat n.toNat).toArray⟩ := by
  induction ns with
  | nil => intro b; simp
  | cons n ns ih =>
    intro b
    rw [List.foldl_cons, ih]
    congr 1
    simp only [ByteArray.push, List.map_cons]
    apply Array.ext'
    simp

theorem ok_toStr {src dst e : TypeId} {x : Operand} {root : Option Nat} (hd : ∀ x, o.dst = some x → x < nt) (hop : o.op = .convert src dst x) (h1 : P.underlying src = some (.slice e)) (h2 : P.underlying dst = some .string) (h3 : P.underlying e = some (.int .u8)) :
    OpOK P C nt o (.toStr root x) := by
  intro G st a w H out c h next Q hn hp
  simp only [sem] at h
  have hr := rdO_rel H x
  have hrun : ∀ u s, a.eval x = u → (∃ a n c, u = .slice a n c) → (Conv.bytesToString u).run P w = .ok (.string s) w → (execOp a.eval o).run P w = .ok (.value (.string s)) w := by
    rintro u s he ⟨aa, n, cc, rfl⟩ hs
    simp only [execOp, hop, Sem.run_bind, Go.convert, run_underlying h1, run_underlying h2, Result.andThen_ok, he, run_underlying h3, hs, Sem.run_pure]
  have hbytes : ∀ (b off n cap : Nat) (vs : List Value) (bs : List UInt8), (loadCells ⟨b, off, none⟩ n).run P w = .ok vs.toArray w → (∃ ns : List Int, vs = ns.map (Value.int .u8) ∧ bs = ns.map fun n => UInt8.ofNat n.toNat) →
      (Conv.bytesToString (.slice (some ⟨b, off, none⟩) n cap)).run P w = .ok (.string ⟨bs.toArray⟩) w := by
    rintro b off n cap vs bs hl ⟨ns, rfl, rfl⟩
    rw [run_bytesToString w _ n cap ns hl, foldl_push]
    simp
  split at h
  · rename_i nn sz l f hs
    obtain ⟨bs, e1, e2⟩ := withO_some h
    rw [hs] at hr
    rcases hr with hr | hr
    · cases hr
    rcases hr.sl_inv with ⟨rfl, rfl, hu⟩ | ⟨rfl, b, off, cap, vals, hu, hcap, hsz, hz, hrr, hagg⟩
    · simp [bytesOf] at e1
      subst e1
      exact opAt (P := P) H hd e2 rfl (hrun _ _ hu ⟨_, _, _, rfl⟩ (by simp [Conv.bytesToString]; rfl)) hn
    · -- the elements are bytes: one cell each
      have hone : ∀ aa ∈ l, aa.cells.length = 1 := by
        have : ∀ (l : List AVal) bs, bytesOf l = some bs → ∀ aa ∈ l, aa.cells.length = 1 := by
          intro l
          induction l with
          | nil => intro bs _ aa ha; cases ha
          | cons y l ih =>
            intro bs hb aa ha
            unfold bytesOf at hb
            split at hb
            · rename_i heq; cases heq
            · rename_i n l' heq
              cases heq
              split at hb
              · rename_i bs' hb'
                rcases List.mem_cons.1 ha with rfl | ha
                · rfl
                · exact ih _ hb' aa ha
              · cases hb
            · cases hb
        exact this l bs e1
      by_cases hl0 : l = []
      · subst hl0
        simp [bytesOf] at e1
        subst e1
        refine opAt (P := P) H hd e2 rfl (hrun _ _ hu ⟨_, _, _, rfl⟩ (hbytes b off 0 cap [] [] (by simp [loadCells, loadCellsFrom]) ⟨[], rfl, rfl⟩)) hn
      · have hsz1 : sz = 1 := by
          cases l with
          | nil => exact absurd rfl hl0
          | cons y l => rw [← hsz y (by simp)]; exact hone y (by simp)
        subst hsz1
        have hld := loadCells_some (P := P) H (n := l.length) vals (fun j hj => hz j (by omega))
        refine opAt (P := P) H hd e2 rfl (hrun _ _ hu ⟨_, _, _, rfl⟩ (hbytes b off l.length cap ((List.range l.length).map vals) bs hld (bytesOf_vals (Z := G.Z) (ι := G.ι) e1 (by simp) (fun j cc v c1 c2 => ?_)))) hn
        have hj := (List.getElem?_eq_some_iff.1 c1).1
        simp [hj] at c2
        subst c2
        have hc1 : cc.cells = [cc] := by
          have hm := hone cc (List.mem_of_getElem? c1)
          rcases hagg cc (List.mem_of_getElem? c1) with ⟨cs, rfl⟩ | ⟨hh, _⟩
          · exfalso
            have : ∀ (l : List AVal) bs, bytesOf l = some bs → ∀ aa ∈ l, ∃ n, aa = .at (.int .u8 n) := by
              intro l
              induction l with
              | nil => intro bs _ aa ha; cases ha
              | cons y l ih =>
                intro bs hb aa ha
                unfold bytesOf at hb
                split at hb
                · rename_i heq; cases heq
                · rename_i n l' heq
                  cases heq
                  split at hb
                  · rename_i bs' hb'
                    rcases List.mem_cons.1 ha with rfl | ha
                    · exact ⟨_, rfl⟩
                    · exact ih _ hb' aa ha
                  · cases hb
                · cases hb
            obtain ⟨n, hn⟩ := this l bs e1 _ (List.mem_of_getElem? c1)
            cases hn
          · exact hh
        have := hrr j 0 cc cc c1 (by rw [hc1]; rfl)
        simpa using this
  · rename_i b off n hs
    obtain ⟨e0, h5⟩ := bif_some h
    split at h5
    case h_2 => cases h5
    rename_i B hB
    obtain ⟨bs, e1, e2⟩ := withO_some h5
    obtain ⟨e3, e4⟩ := if_some e2
    rw [hs] at hr
    obtain ⟨blk, cap, k1, k2, k3, k4⟩ := hr
    obtain ⟨b', k5, k6, k7⟩ := H.lbox b B hB
    rw [k1] at k5; cases k5
    have hrow := k7.row
    have hlen : ((B.cells.drop off).take n).length = n := by
      have : ∀ (l : List AVal) bs, bytesOf l = some bs → bs.length = l.length := by
        intro l
        induction l with
        | nil => intro bs h; simp [bytesOf] at h; subst h; rfl
        | cons y l ih =>
          intro bs hb
          unfold bytesOf at hb
          split at hb
          · rename_i heq; cases heq
          · rename_i n l' heq
            cases heq
            split at hb
            · rename_i bs' hb'; cases hb; simp [ih _ hb']
            · cases hb
          · cases hb
      rw [← this _ _ e1, e3]
    have hf : ∃ f : Nat → Value, ∀ j, j < n → w.cell? ⟨blk, off + j, none⟩ = some (f j) ∧ ∀ cc, B.cells[off + j]? = some cc → VR G.Z G.ι cc (f j) := by
      refine ⟨fun j => (w.cell? ⟨blk, off + j, none⟩).getD undef, fun j hj => ?_⟩
      have hlt : off + j < B.cells.length := by simp at hlen; omega
      obtain ⟨u, hu, hv, h1⟩ := hrow (off + j) _ (List.getElem?_eq_getElem hlt)
      rw [Nat.zero_add] at hu
      refine ⟨by simp [hu], fun cc hcc => ?_⟩
      simp only [hu, Option.getD_some]
      rw [List.getElem?_eq_getElem hlt] at hcc
      cases hcc
      exact hv
    obtain ⟨f, hf⟩ := hf
    have hld := run_loadCells (P := P) w ⟨blk, off, none⟩ n f (fun j hj => by rw [add_mk]; exact (hf j hj).1)
    refine opAt (P := P) H hd e4 rfl (hrun _ _ k3 ⟨_, _, _, rfl⟩ (hbytes blk off n cap ((List.range n).map f) bs hld (bytesOf_vals (Z := G.Z) (ι := G.ι) e1 (by simpa using hlen) (fun j cc v c1 c2 => ?_)))) hn
    have hj : j < n := by have := (List.getElem?_eq_some_iff.1 c1).1; omega
    simp [hj] at c2
    subst c2
    rw [List.getElem?_take, if_pos hj, List.getElem?_drop] at c1
    exact (hf j hj).2 cc c1
  · cases h
end
end Go.Abs
