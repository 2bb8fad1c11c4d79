/- THE ENGINE, part 6: more operations that make no memory. -/
import Derived.Test.YtafmbianlodemaaSnd2
namespace Go.Abs
set_option linter.unusedSectionVars false
set_option linter.unusedVariables false
set_option linter.unusedSimpArgs false
section
variable {P : Program} {C : CallF} {nt : Nat} {o : Oper}

theorem ok_un {op : UnOp} {t : TypeId} {x : Operand} (hd : ∀ x, o.dst = some x → x < nt) (hop : o.op = .unOp op t x) : OpOK P C nt o (.un op x) := by
  intro G st a w H out c h next Q hn hp
  simp only [sem] at h
  obtain ⟨u, h1, h2⟩ := withA_some h
  have e1 := (rdA_rel H h1).1
  unfold unC at h2
  split at h2
  · have e1 := at_eq e1
    exact opAt (P := P) H hd h2 rfl (by simp [execOp, hop, e1, Op.unary]) hn
  · have e1 := at_eq e1
    exact opAt (P := P) H hd h2 rfl (by simp [execOp, hop, e1, Op.unary, Op.intArith]) hn
  · have e1 := at_eq e1
    exact opAt (P := P) H hd h2 rfl (by simp [execOp, hop, e1, Op.unary, Op.intBits, bitsI]) hn
  · cases h2

theorem ok_convI {k k0 : IntKind} {src dst : TypeId} {x : Operand} (hd : ∀ x, o.dst = some x → x < nt) (hop : o.op = .convert src dst x) (h1 : P.underlying src = some (.int k0)) (h2 : P.underlying dst = some (.int k)) :
    OpOK P C nt o (.convI k x) := by
  intro G st a w H out c h next Q hn hp
  simp only [sem] at h
  obtain ⟨kk, n, h3, h4⟩ := withN_some h
  have e1 := at_eq (rdA_rel H h3).1
  exact opAt (P := P) H hd h4 rfl (by simp [execOp, hop, e1, Go.convert, run_underlying h1, run_underlying h2, Conv.intToInt]) hn

theorem ok_convS {src dst : TypeId} {x : Operand} (hd : ∀ x, o.dst = some x → x < nt) (hop : o.op = .convert src dst x) (h1 : P.underlying src = some .string) (h2 : P.underlying dst = some .string) :
    OpOK P C nt o (.convS x) := by
  intro G st a w H out c h next Q hn hp
  simp only [sem] at h
  obtain ⟨s, h3, h4⟩ := withS_some h
  have e1 := at_eq (rdA_rel H h3).1
  exact opAt (P := P) H hd h4 rfl (by simp [execOp, hop, e1, Go.convert, run_underlying h1, run_underlying h2]) hn

theorem ok_extract {x : Operand} {i : Nat} (hd : ∀ x, o.dst = some x → x < nt) (hop : o.op = .extract x i) : OpOK P C nt o (.extract x i) := by
  intro G st a w H out c h next Q hn hp
  simp only [sem] at h
  have hr := rdO_rel H x
  split at h
  · rename_i vs f hs
    rw [hs] at hr
    obtain ⟨v, h1, h2⟩ := withA_some h
    rcases hr with hr | hr
    · cases hr
    generalize he : a.eval x = u at hr
    cases hr with
    | tup hl hh =>
      rename_i arr
      have hi : i < arr.size := by
        have := (List.getElem?_eq_some_iff.1 h1).1; omega
      exact opVal (P := P) H hd (by simp [execOp, hop, he, Instr.extract, Array.getElem?_eq_getElem hi]) (fun _ => slotV (hh i v _ h1 (Array.getElem?_eq_getElem hi))) h2 hn
  · cases h

/-- A part of an aggregate. -/
theorem part_run {Z : Fz} {ι : Iot} {cs : List AVal} {arr : Array Value} {t : TypeId} {ks : List CK} {agg : Bool} {off : Nat} {w : World}
    (hv : VR Z ι (.agg cs) (.agg arr)) (ha : isAggT P t = some agg) (hs : sizeT P t = some ks.length) :
    (agg = true → off + ks.length ≤ cs.length → ∃ u, (part t arr off).run P w = .ok u w ∧ VR Z ι (.agg ((cs.drop off).take ks.length)) u) ∧
    (agg = false → ∀ v, cs[off]? = some v → ∃ u, (part t arr off).run P w = .ok u w ∧ VR Z ι v u) := by
  cases hv with
  | agg hl hh h1 =>
    unfold isAggT at ha
    unfold sizeT at hs
    cases hi : P.info? t with
    | none => simp [hi] at hs
    | some inf =>
      simp [hi] at hs
      have hsz : (sizeOf t).run P w = .ok ks.length w := by simp [sizeOf, typeInfo, hi, hs]
      cases hu : P.underlying t with
      | none => simp [hu] at ha
      | some d =>
        have hag : (isAgg t).run P w = .ok agg w := by
          rw [hu] at ha
          simp only [isAgg, Sem.run_bind, run_underlying hu, Result.andThen_ok]
          cases d <;> simp at ha ⊢ <;> exact ha
        refine ⟨fun hb hle => ?_, fun hb v hv => ?_⟩
        · subst hb
          refine ⟨.agg (arr.extract off (off + ks.length)), by simp [part, hag, hsz], .agg ?_ ?_ ?_⟩
          · simp; omega
          · intro i a v hi1 hi2
            rw [List.getElem?_take] at hi1
            split at hi1
            · rw [List.getElem?_drop] at hi1
              rw [Array.getElem?_extract] at hi2
              split at hi2
              · exact hh _ _ _ hi1 hi2
              · cases hi2
            · cases hi1
          · intro i v hi2
            rw [Array.getElem?_extract] at hi2
            split at hi2
            · exact h1 _ _ hi2
            · cases hi2
        · subst hb
          have hlt : off < arr.size := by have := (List.getElem?_eq_some_iff.1 hv).1; omega
          exact ⟨arr[off], by simp [part, hag, Array.getElem?_eq_getElem hlt], hh off v _ hv (Array.getElem?_eq_getElem hlt)⟩

theorem withV_part {Z : Fz} {ι : Iot} {a : AVal} {u : Value} {t : TypeId} {ks : List CK} {agg : Bool} {off : Nat} {w : World} {α : Type} {out : α} {c : AVal → Option α}
    (hv : VR Z ι a u) {arr : Array Value} (hu : u = .agg arr) (ha : isAggT P t = some agg) (hs : sizeT P t = some ks.length) (h : withV ks agg a.cells off c = some out) :
    ∃ v x, (part t arr off).run P w = .ok x w ∧ VR Z ι v x ∧ c v = some out := by
  subst hu
  have : ∃ cs, a = .agg cs := by
    cases hv with
    | agg => exact ⟨_, rfl⟩
    | «at» hx => exact absurd hx (by simp [one])
  obtain ⟨cs, rfl⟩ := this
  obtain ⟨p1, p2⟩ := part_run (P := P) (w := w) (off := off) hv ha hs
  rcases withV_some h with ⟨h1, h2, h3⟩ | ⟨h1, h2, v, h3, h4⟩
  · obtain ⟨x, hx, hr⟩ := p1 h1 h2
    exact ⟨_, x, hx, hr, h3⟩
  · obtain ⟨x, hx, hr⟩ := p2 h1 v h3
    exact ⟨v, x, hx, hr, h4⟩

theorem ok_makeFunc {f : FuncId} {first cap : Array Operand} (hd : ∀ x, o.dst = some x → x < nt) (hop : o.op = .makeFunc (.func f) first cap) : OpOK P C nt o (.makeFunc f first.toList cap.toList) := by
  intro G st a w H out c h next Q hn hp
  simp only [sem] at h
  cases h1 : args? st first.toList with
  | none => rw [h1] at h; cases h
  | some as =>
    cases h2 : args? st cap.toList with
    | none => rw [h1, h2] at h; cases h
    | some bs =>
      rw [h1, h2] at h
      obtain ⟨l1, r1⟩ := args_rel H h1
      obtain ⟨l2, r2⟩ := args_rel H h2
      refine opVal (P := P) H hd (v := .func (.func f) (first.map a.eval) (cap.map a.eval)) (by simp [execOp, hop, Instr.makeFunc]) (fun _ => slotV (.clo ?_ ?_ ?_ ?_ ?_)) h hn
      · simpa using l1
      · intro i v u hv hu
        obtain ⟨x, hx, hr, _⟩ := r1 i v hv
        rw [Array.getElem?_toList] at hx
        simp [hx] at hu
        subst hu; exact hr
      · simpa using l2
      · intro i v u hv hu
        obtain ⟨x, hx, hr, _⟩ := r2 i v hv
        rw [Array.getElem?_toList] at hx
        simp [hx] at hu
        subst hu; exact hr
      · intro v hv vs
        rcases List.mem_append.1 hv with hv | hv
        · obtain ⟨i, hi⟩ := List.getElem?_of_mem hv
          obtain ⟨_, _, _, ht⟩ := r1 i v hi
          exact ht vs
        · obtain ⟨i, hi⟩ := List.getElem?_of_mem hv
          obtain ⟨_, _, _, ht⟩ := r2 i v hi
          exact ht vs
end
end Go.Abs
