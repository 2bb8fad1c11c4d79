/- THE ENGINE, part 17: slices' literals, makes, bytes and strings. -/
import Derived.Test.YtafmbianlodemaaSnd13
namespace Go.Abs
set_option linter.unusedSectionVars false
set_option linter.unusedVariables false
set_option linter.unusedSimpArgs false
section
variable {P : Program} {C : CallF} {nt : Nat} {o : Oper}

theorem vr_agg {Z : Fz} {ι : Iot} {a : AVal} {v : Value} (h : VR Z ι a v) (ht : ∀ vs, a ≠ .tup vs) : (∃ cs, a = .agg cs) ∨ (a.cells = [a] ∧ ∀ vs, a ≠ .tup vs) := by
  cases a <;> first | exact .inl ⟨_, rfl⟩ | exact .inr ⟨rfl, ht⟩

/-- A slice's literal, laid: elements k, k + 1, .. . -/
theorem fillS {G : Gh} {st : St} {a : Act} {w : World} (H : Rel G nt st a.tmps w) (sz : Nat) : ∀ (xs : List Operand) (as : List AVal) (k : Nat) (arr : Array Value), args? st xs = some as → allSz sz as = true → (k + xs.length) * sz ≤ arr.size →
    ∃ arr', Instr.fill (fun i => some (i * sz, sz)) arr (((List.range' k xs.length).zip xs).map fun q => (q.1, a.eval q.2)) = some arr' ∧ arr'.size = arr.size ∧ (∀ j, j < k * sz → arr'[j]? = arr[j]?) ∧
      ElemsR G.Z G.ι sz as (fun j => arr'[k * sz + j]?)
  | [], as, k, arr, h, _, _ => by
    simp [args?] at h; subst h
    exact ⟨arr, by simp [Instr.fill], rfl, fun _ _ => rfl, by simp, by simp, by simp, by simp⟩
  | x :: xs, as, k, arr, h, hall, hb => by
    simp only [args?] at h
    cases h1 : rdA st x with
    | none => simp [h1] at h
    | some v =>
      cases h2 : args? st xs with
      | none => simp [h1, h2] at h
      | some vs =>
        simp [h1, h2] at h
        subst h
        simp only [allSz] at hall
        cases h3 : Nat.beq v.cells.length sz with
        | false => simp [h3] at hall
        | true =>
          simp only [h3, cond_true] at hall
          have h3 := Nat.eq_of_beq_eq_true h3
          obtain ⟨hv, ht⟩ := rdA_rel H h1
          have hl2 := hv.l2 ht
          have hvs : (a.eval x).cells.size = sz := by have := hl2.1; simp at this; omega
          simp only [List.length_cons] at hb
          have hb2 : k * sz + sz ≤ arr.size := by
            have : (k + 1) * sz ≤ (k + (xs.length + 1)) * sz := Nat.mul_le_mul_right _ (by omega)
            rw [Nat.succ_mul] at this; omega
          have hfit : k * sz + (a.eval x).cells.toList.length ≤ arr.toList.length := by simp; omega
          have hsz : (blit arr.toList (k * sz) (a.eval x).cells.toList).length = arr.size := by rw [blit_length hfit]; simp
          obtain ⟨arr', r1, r2, r3, r4⟩ := fillS H sz xs vs (k + 1) (blit arr.toList (k * sz) (a.eval x).cells.toList).toArray h2 hall (by simp only [List.size_toArray, hsz]; rw [show k + 1 + xs.length = k + (xs.length + 1) by omega]; exact hb)
          refine ⟨arr', ?_, by rw [r2]; simp [hsz], fun j hj => ?_, ?_⟩
          · simp only [List.length_cons, List.range'_succ, List.zip_cons_cons, List.map_cons]
            rw [fill_cons _ arr k _ _ rfl hvs hb2]
            exact r1
          · rw [r3 j (by rw [Nat.succ_mul]; omega)]
            simp only [List.getElem?_toArray]
            rw [blit_get hfit, if_pos hj]; simp
          · have hE1 : ElemsR G.Z G.ι sz [v] (fun j => (a.eval x).cells[j]?) := by
              refine ⟨?_, ?_, ?_, ?_⟩
              · intro b hb; simp at hb; subst hb; exact h3
              · intro b hb; simp at hb; subst hb; exact vr_agg hv ht
              · intro i j b c hi hj
                cases i with
                | succ i => simp at hi
                | zero =>
                  simp at hi; subst hi
                  have hlt : j < (a.eval x).cells.size := by
                    have := (List.getElem?_eq_some_iff.1 hj).1; omega
                  exact ⟨_, by simp only [Nat.zero_mul, Nat.zero_add]; exact Array.getElem?_eq_getElem hlt, (hl2.2 j c _ hj (by rw [Array.getElem?_toList]; exact Array.getElem?_eq_getElem hlt)).1⟩
              · intro j hj
                simp at hj
                have hlt : j < (a.eval x).cells.size := by omega
                exact ⟨_, Array.getElem?_eq_getElem hlt, (hl2.2 j _ _ (List.getElem?_eq_getElem (by omega)) (by rw [Array.getElem?_toList]; exact Array.getElem?_eq_getElem hlt)).2⟩
            have := hE1.append r4 (cell := fun j => arr'[k * sz + j]?) (fun j hj => by
              simp only [List.length_singleton, Nat.one_mul] at hj
              rw [r3 _ (by rw [Nat.succ_mul]; omega)]
              simp only [List.getElem?_toArray]
              rw [blit_get hfit, if_neg (by omega), if_pos (by simp [hvs]; exact hj)]
              simp) (fun j hj => by
              simp only [List.length_singleton, Nat.add_mul, Nat.one_mul]
              congr 1
              omega)
            simpa using this

theorem zip_fst_snd {α β : Type} : ∀ l : List (α × β), (l.map (·.1)).zip (l.map (·.2)) = l
  | [] => rfl
  | _ :: l => by simp [zip_fst_snd l]

theorem ok_buildSl {t e : TypeId} {n sz : Nat} {parts : Array (Nat × Operand)} {z : List AVal} (hd : ∀ x, o.dst = some x → x < nt) (hop : o.op = .buildSlice t n parts)
    (hu : P.underlying t = some (.slice e)) (hs : sizeT P e = some sz) (hz : zeroT P e = some z) (hi : parts.toList.map (·.1) = List.range n) (hlim : n * sz ≤ 2 ^ 24) (hz0 : 0 < sz) :
    OpOK P C nt o (.buildSl sz (parts.toList.map (·.2))) := by
  intro G st a w H out c h next Q hn hp
  simp only [sem] at h
  split at h
  case h_2 => cases h
  rename_i as has
  obtain ⟨h1, h2⟩ := bif_some h
  obtain ⟨zv, hzv⟩ := zeroCells_run hz w
  have hlen : parts.toList.length = n := by have := congrArg List.length hi; simpa using this
  have hparts : parts.toList = (List.range' 0 (parts.toList.map (·.2)).length).zip (parts.toList.map (·.2)) := by
    rw [List.length_map, hlen, ← List.range_eq_range', ← hi]
    exact (zip_fst_snd parts.toList).symm
  let arr0 : Array Value := (Array.range (n * sz)).map (fun x => zv.cells[x % zv.cells.size]!)
  obtain ⟨arr', r1, r2, r3, r4⟩ := fillS H sz (parts.toList.map (·.2)) as 0 arr0 has h1 (by simp [arr0, hlen])
  have hal : as.length = n := by rw [(args_rel H has).1]; simpa using hlen
  have hmap : (parts.map fun (i, x) => (i, a.eval x)).toList = ((List.range' 0 (parts.toList.map (·.2)).length).zip (parts.toList.map (·.2))).map fun q => (q.1, a.eval q.2) := by
    rw [Array.toList_map]; rw [← hparts]
  rw [← hmap] at r1
  have hrun : (execOp a.eval o).run P w = .ok (.value (.slice (some ⟨w.heap.size, 0, none⟩) n n)) (w.alloc (.cells arr' e)) := by
    simp only [execOp, hop, Sem.run_bind, Instr.buildSlice, run_underlying hu, Result.andThen_ok, size_run hs]
    rw [if_neg (by omega)]
    by_cases hn0 : n * sz = 0
    · have h0 : arr0 = #[] := by simp only [arr0, hn0]; simp
      rw [h0] at r1
      have h00 : ∀ g : Nat → Value, Array.map g (Array.range 0) = #[] := by intro g; simp
      simp only [hn0, if_true, Sem.run_bind, Sem.run_pure, Result.andThen_ok, h00]
      rw [show Instr.fill (fun i => some (i * sz, sz)) #[] (parts.map fun x => (x.1, a.eval x.2)).toList = some arr' from r1]
      simp [newRow]
    · simp only [hn0, if_false, Sem.run_bind, hzv, Result.andThen_ok, Sem.run_pure]
      rw [show Instr.fill (fun i => some (i * sz, sz)) (Array.map (fun x => zv.cells[x % zv.cells.size]!) (Array.range (n * sz))) (parts.map fun (i, x) => (i, a.eval x)).toList = some arr' from r1]
      simp [newRow]
  obtain ⟨G', R2, F2⟩ := H.newRow (w' := w.alloc (.cells arr' e)) (cap := n) hd rfl rfl rfl rfl (l := as) (sz := sz) (by simpa using r4) (by omega) (by rw [r2]; simp [arr0])
  rw [hal] at R2
  exact wp_val hrun (hn _ G' _ _ h2 R2 (put_defers _ _ _) F2)
end
end Go.Abs
