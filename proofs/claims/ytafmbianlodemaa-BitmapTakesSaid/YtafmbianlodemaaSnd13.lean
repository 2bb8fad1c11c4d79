/- THE ENGINE, part 16: literals, makes, bytes. -/
import Derived.Test.YtafmbianlodemaaSnd12
namespace Go.Abs
set_option linter.unusedSectionVars false
set_option linter.unusedVariables false
set_option linter.unusedSimpArgs false
section
variable {P : Program} {C : CallF} {nt : Nat} {o : Oper}

theorem zipfold (off : Nat) : ∀ (us : List Value) (k : Nat) (arr : Array Value), off + k + us.length ≤ arr.size →
    (us.zipIdx k).foldl (fun (cs : Array Value) (x : Value × Nat) => cs.setIfInBounds (off + x.2) x.1) arr = (blit arr.toList (off + k) us).toArray
  | [], k, arr, _ => by simp [blit]
  | u :: us, k, arr, h => by
    simp only [List.length_cons] at h
    rw [List.zipIdx_cons, List.foldl_cons, zipfold off us (k + 1) _ (by simp; omega)]
    congr 1
    apply List.ext_getElem?
    intro j
    rw [blit_get (by simp; omega), blit_get (by simp; omega)]
    simp only [Array.toList_setIfInBounds, List.length_cons]
    by_cases h1 : j < off + k
    · rw [if_pos (by omega), if_pos h1, List.getElem?_set, if_neg (by omega)]
    · rw [if_neg h1]
      by_cases h2 : j = off + k
      · subst h2
        rw [if_pos (by omega), if_pos (by omega), List.getElem?_set]
        simp; omega
      · rw [if_neg (by omega)]
        by_cases h3 : j < off + (k + 1) + us.length
        · rw [if_pos h3, if_pos (by omega)]
          rw [show j - (off + k) = (j - (off + (k + 1))) + 1 by omega, List.getElem?_cons_succ]
        · rw [if_neg h3, if_neg (by omega), List.getElem?_set, if_neg (by omega)]

theorem fill_cons (place : Nat → Option (Nat × Nat)) (cells : Array Value) (i : Nat) (v : Value) (rest : List (Nat × Value)) {off size : Nat} (hp : place i = some (off, size)) (hs : v.cells.size = size) (hb : off + size ≤ cells.size) :
    Instr.fill place cells ((i, v) :: rest) = Instr.fill place (blit cells.toList off v.cells.toList).toArray rest := by
  have h1 : (v.cells.size ≠ size || off + v.cells.size > cells.size) = false := by simp [hs]; omega
  simp only [Instr.fill, hp]
  rw [if_neg (by simpa using h1)]
  congr 1
  have := zipfold off v.cells.toList 0 cells (by simp; omega)
  simp only [Nat.add_zero] at this
  rw [← this]
  rw [← Array.foldl_toList, Array.toList_zipIdx]

/-- The parts of a literal, laid. -/
theorem fill_rel {G : Gh} {st : St} {a : Act} {w : World} (H : Rel G nt st a.tmps w) (place : Nat → Option (Nat × Nat)) : ∀ (parts : List (Nat × Operand)) (pl : List (Nat × Nat × Operand)) (ps : List (Nat × List AVal)) (cs : List AVal) (arr : Array Value),
    pl.length = parts.length → (∀ (j : Nat) i x q, parts[j]? = some (i, x) → pl[j]? = some q → q.2.2 = x ∧ place i = some (q.1, q.2.1) ∧ q.1 + q.2.1 ≤ arr.size) → parts? st pl = some ps → L2 G.Z G.ι cs arr.toList →
    ∃ arr', Instr.fill place arr (parts.map fun (i, x) => (i, a.eval x)) = some arr' ∧ L2 G.Z G.ι (fillA cs ps) arr'.toList ∧ arr'.size = arr.size
  | [], pl, ps, cs, arr, hl, _, hp, h => by
    cases pl with
    | cons => simp at hl
    | nil => simp [parts?] at hp; subst hp; exact ⟨arr, by simp [Instr.fill], h, rfl⟩
  | (i, x) :: parts, pl, ps, cs, arr, hl, hpl, hp, h => by
    cases pl with
    | nil => simp at hl
    | cons q pl =>
      obtain ⟨off, n, y⟩ := q
      obtain ⟨hy, hplc, hbd⟩ := hpl 0 i x (off, n, y) rfl rfl
      simp only at hy hplc hbd
      subst hy
      simp only [parts?] at hp
      cases h1 : rdA st y with
      | none => simp [h1] at hp
      | some v =>
        rw [h1] at hp
        cases h2 : Nat.beq v.cells.length n with
        | false => simp [h2] at hp
        | true =>
          simp only [h2, cond_true] at hp
          have h2 := Nat.eq_of_beq_eq_true h2
          cases h3 : parts? st pl with
          | none => simp [h3] at hp
          | some ps' =>
            simp [h3] at hp
            subst hp
            obtain ⟨hv, ht⟩ := rdA_rel H h1
            have hl2 := hv.l2 ht
            have hvs : (a.eval y).cells.size = n := by have := hl2.1; simp at this; omega
            have hsz : (blit arr.toList off (a.eval y).cells.toList).length = arr.size := by rw [blit_length (by simp; omega)]; simp
            obtain ⟨arr', r1, r2, r3⟩ := fill_rel H place parts pl ps' (splice cs off v.cells) (blit arr.toList off (a.eval y).cells.toList).toArray (by simpa using hl)
              (fun j i x q e1 e2 => by
                have := hpl (j + 1) i x q (by simpa using e1) (by simpa using e2)
                simpa [hsz] using this) h3 (h.splice hl2 off)
            refine ⟨arr', ?_, by simpa [fillA] using r2, by rw [r3]; simp [hsz]⟩
            simp only [List.map_cons]
            rw [fill_cons place arr i _ _ hplc hvs (by omega)]
            exact r1

theorem places_run {fs : Array Field} (h : ∀ f ∈ fs.toList, (sizeT P f.type).isSome) (w : World) :
    ((fs.mapM fun f => do pure (f.offset, ← sizeOf f.type) : Sem (Array (Nat × Nat)))).run P w = .ok (fs.map fun f => (f.offset, (sizeT P f.type).getD 0)) w := by
  rw [Array.mapM_eq_mapM_toList]
  have : ∀ l : List Field, (∀ f ∈ l, (sizeT P f.type).isSome) → (l.mapM fun f => do pure (f.offset, ← sizeOf f.type) : Sem (List (Nat × Nat))).run P w = .ok (l.map fun f => (f.offset, (sizeT P f.type).getD 0)) w := by
    intro l
    induction l with
    | nil => intro _; simp
    | cons f l ih =>
      intro hf
      obtain ⟨n, hn⟩ := Option.isSome_iff_exists.1 (hf f (by simp))
      simp only [List.mapM_cons, Sem.run_bind, size_run hn, Result.andThen_ok, Sem.run_pure, ih (fun g hg => hf g (by simp [hg])), List.map_cons, hn, Option.getD_some]
  rw [Sem.run_map, this fs.toList h]
  simp only [Result.andThen_ok]
  congr 1
  apply Array.ext'
  simp

theorem ok_build {t : TypeId} {z : List AVal} {parts : Array (Nat × Operand)} {ps : List (Nat × Nat × Operand)} (hd : ∀ x, o.dst = some x → x < nt) (hop : o.op = .build t parts)
    (hz : zeroT P t = some z) (hps : placesT P t parts.toList = some ps) (hb : ps.all (fun q => decide (q.1 + q.2.1 ≤ z.length)) = true) : OpOK P C nt o (.build z ps) := by
  intro G st a w H out c h next Q hn hp
  simp only [sem, withParts_eq, bindL] at h
  split at h
  case h_2 => cases h
  rename_i qs hqs
  obtain ⟨zv, hzv, hzl⟩ := zeroT_run hz w
  have hz2 := hzl G.Z G.ι
  have hzs : z.length = zv.cells.size := by simpa using hz2.1
  have hmap : parts.toList.map (fun (i, x) => (i, a.eval x)) = (parts.map fun (i, x) => (i, a.eval x)).toList := by simp
  have hbd : ∀ q, q ∈ ps → q.1 + q.2.1 ≤ zv.cells.size := fun q hq => by
    have := List.all_eq_true.1 hb q hq
    simp at this; omega
  unfold placesT at hps
  split at hps
  · rename_i fs hu
    split at hps
    case isFalse => cases hps
    rename_i hall
    have hlen : ∀ (l : List (Nat × Operand)) (r : List (Nat × Nat × Operand)), (l.mapM fun (x : Nat × Operand) => match fs[x.1]? with
        | some f => (sizeT P f.type).map fun n => (f.offset, n, x.2)
        | none => none) = some r → r.length = l.length ∧ ∀ (j : Nat) i x q, l[j]? = some (i, x) → r[j]? = some q → q.2.2 = x ∧ (fs.map fun f => (f.offset, (sizeT P f.type).getD 0))[i]? = some (q.1, q.2.1) := by
      intro l
      induction l with
      | nil => intro r h; simp at h; subst h; simp
      | cons y l ih =>
        intro r h
        obtain ⟨i, x⟩ := y
        rw [List.mapM_cons] at h
        cases hf : fs[i]? with
        | none => simp [hf] at h
        | some f =>
          cases hs : sizeT P f.type with
          | none => simp [hf, hs] at h
          | some n =>
            simp only [hf, hs, Option.map_some, Option.bind_eq_bind, Option.bind_some] at h
            cases hr : (l.mapM fun (x : Nat × Operand) => match fs[x.1]? with
              | some f => (sizeT P f.type).map fun n => (f.offset, n, x.2)
              | none => none) with
            | none => rw [hr] at h; simp at h
            | some r' =>
              rw [hr] at h
              simp at h
              subst h
              obtain ⟨e1, e2⟩ := ih r' hr
              refine ⟨by simp [e1], fun j i' x' q h1 h2 => ?_⟩
              cases j with
              | zero =>
                simp at h1 h2
                obtain ⟨rfl, rfl⟩ := h1
                subst h2
                simp [hf, hs]
              | succ j => exact e2 j i' x' q (by simpa using h1) (by simpa using h2)
    obtain ⟨e1, e2⟩ := hlen _ _ hps
    obtain ⟨arr', r1, r2, r3⟩ := fill_rel H (fun i => (fs.map fun f => (f.offset, (sizeT P f.type).getD 0))[i]?) parts.toList ps qs z zv.cells e1 (fun j i x q h1 h2 => by
      obtain ⟨k1, k2⟩ := e2 j i x q h1 h2
      exact ⟨k1, k2, hbd q (List.mem_of_getElem? h2)⟩) hqs hz2
    have hpl := places_run (P := P) (fs := fs) (by simpa using hall) w
    rw [hmap] at r1
    refine opVal (P := P) H hd (v := .agg arr') ?_ (fun _ => slotV (by simpa using r2.agg)) h hn
    simp only [execOp, hop, Sem.run_bind, Instr.build, hzv, Result.andThen_ok, run_underlying hu, hpl]
    rw [r1]
    simp
  · rename_i len e hu
    split at hps
    case h_2 => cases hps
    rename_i n hs
    cases hps
    obtain ⟨arr', r1, r2, r3⟩ := fill_rel H (fun i => some (i * n, n)) parts.toList _ qs z zv.cells (by simp) (fun j i x q h1 h2 => by
      simp only [List.getElem?_map, h1, Option.map_some, Option.some.injEq] at h2
      subst h2
      exact ⟨rfl, rfl, hbd _ (List.mem_map.2 ⟨(i, x), List.mem_of_getElem? h1, rfl⟩)⟩) hqs hz2
    rw [hmap] at r1
    refine opVal (P := P) H hd (v := .agg arr') ?_ (fun _ => slotV (by simpa using r2.agg)) h hn
    simp only [execOp, hop, Sem.run_bind, Instr.build, hzv, Result.andThen_ok, run_underlying hu, size_run hs]
    rw [r1]
    simp
  · cases hps
end
end Go.Abs
