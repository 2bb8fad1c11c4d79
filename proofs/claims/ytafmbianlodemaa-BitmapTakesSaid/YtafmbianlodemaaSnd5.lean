/- THE ENGINE, part 8: loads, stores, lengths, slicing. -/
import Derived.Test.YtafmbianlodemaaSnd4
namespace Go.Abs
set_option linter.unusedSectionVars false
set_option linter.unusedVariables false
set_option linter.unusedSimpArgs false
section
variable {P : Program} {C : CallF} {nt : Nat} {o : Oper}

/-- These cells lie there. -/
def RowR (G : Gh) (w : World) (cs : List AVal) (b off : Nat) : Prop :=
  ∀ (j : Nat) c, cs[j]? = some c → ∃ u, w.cell? ⟨b, off + j, none⟩ = some u ∧ VR G.Z G.ι c u ∧ one u = true

theorem isAgg_run {t : TypeId} {agg : Bool} (ha : isAggT P t = some agg) (w : World) : (isAgg t).run P w = .ok agg w := by
  unfold isAggT at ha
  cases hu : P.underlying t with
  | none => simp [hu] at ha
  | some d =>
    rw [hu] at ha
    simp only [isAgg, Sem.run_bind, run_underlying hu, Result.andThen_ok]
    cases d <;> simp at ha ⊢ <;> exact ha

theorem load_row {G : Gh} {w : World} {cs : List AVal} {b base off : Nat} {t : TypeId} {ks : List CK} {agg : Bool} {α : Type} {out : α} {c : AVal → Option α}
    (hr : RowR G w cs b base) (ha : isAggT P t = some agg) (hs : sizeT P t = some ks.length) (h : withV ks agg cs off c = some out) :
    ∃ v x, (loadVar t ⟨b, base + off, none⟩).run P w = .ok x w ∧ VR G.Z G.ι v x ∧ c v = some out := by
  rcases withV_some h with ⟨h1, h2, h3⟩ | ⟨h1, h2, v, h3, h4⟩
  · subst h1
    have hf : ∃ f : Nat → Value, ∀ j, j < ks.length → w.cell? ⟨b, base + off + j, none⟩ = some (f j) ∧ one (f j) = true ∧ ∀ cc, cs[off + j]? = some cc → VR G.Z G.ι cc (f j) := by
      refine ⟨fun j => (w.cell? ⟨b, base + off + j, none⟩).getD undef, fun j hj => ?_⟩
      obtain ⟨u, hu, hv, h1⟩ := hr (off + j) _ (List.getElem?_eq_getElem (by omega : off + j < cs.length))
      rw [← Nat.add_assoc] at hu
      refine ⟨by simp [hu], by simp [hu, h1], fun cc hcc => ?_⟩
      simp only [hu, Option.getD_some]
      rw [List.getElem?_eq_getElem (by omega)] at hcc
      cases hcc
      exact hv
    obtain ⟨f, hf⟩ := hf
    have hl := run_loadCells (P := P) w ⟨b, base + off, none⟩ ks.length f (fun j hj => by rw [add_mk]; exact (hf j hj).1)
    refine ⟨_, .agg ((List.range ks.length).map f).toArray, by simp [loadVar, isAgg_run ha, size_run hs, hl], .agg ?_ ?_ ?_, h3⟩
    · simp; omega
    · intro i a v hi hv
      simp at hv
      obtain ⟨x, hx, rfl⟩ := hv
      obtain ⟨hx1, rfl⟩ : i < ks.length ∧ x = i := by
        have := List.getElem?_eq_some_iff.1 hx
        simpa [eq_comm] using this
      rw [List.getElem?_take, if_pos hx1, List.getElem?_drop] at hi
      exact (hf x hx1).2.2 a hi
    · intro i v hv
      simp at hv
      obtain ⟨x, hx, rfl⟩ := hv
      obtain ⟨hx1, rfl⟩ : i < ks.length ∧ x = i := by
        have := List.getElem?_eq_some_iff.1 hx
        simpa [eq_comm] using this
      exact (hf x hx1).2.1
  · subst h1
    obtain ⟨u, hu, hv, h1⟩ := hr off v h3
    exact ⟨v, u, by simp [loadVar, isAgg_run ha, hu], hv, h4⟩

theorem BoxR.row {G : Gh} {w : World} {B : Box} {b : Nat} (h : BoxR G w B b) : RowR G w B.cells b 0 := by
  obtain ⟨arr, T, fr, h1, h2, h3, h4⟩ := h
  intro j c hc
  obtain ⟨u, hu, hv, h5⟩ := h4 j c hc
  exact ⟨u, by simp [World.cell?, h1, hu], hv, h5⟩

theorem withBox_some {rd : St} {root : Option Nat} {s : Slot} {α : Type} {out : α} {c : Box → Nat → Option Nat → Option α} (h : withBox rd root s c = some out) :
    (∃ r off B, root = some r ∧ s = .lp r off ∧ rd (.l r) = .bx (some B) ∧ c B off (some r) = some out) ∨
    (∃ g off f sg B, root = none ∧ s = .v (.gp g off) f ∧ rd .g = .sg sg ∧ sg[g]? = some B ∧ B.cells ≠ [] ∧ c B off none = some out) := by
  unfold withBox at h
  split at h
  · rename_i r b off
    obtain ⟨h1, h2⟩ := bif_some h
    have h1 := Nat.eq_of_beq_eq_true h1
    subst h1
    split at h2
    · rename_i B hB; exact .inl ⟨_, _, B, rfl, rfl, hB, h2⟩
    · cases h2
  · rename_i g off f
    split at h
    · rename_i sg hsg
      obtain ⟨B, hB, h⟩ := withO_some h
      cases hE : B.cells.isEmpty with
      | true => rw [hE] at h; cases h
      | false =>
        rw [hE] at h
        exact .inr ⟨g, off, f, sg, B, rfl, rfl, hsg, hB, fun e => (by rw [e] at hE; cases hE), h⟩
    · cases h
  · cases h

theorem ok_load {t : TypeId} {x : Operand} {ks : List CK} {agg : Bool} {root : Option Nat} (hd : ∀ x, o.dst = some x → x < nt) (hop : o.op = .load t x)
    (ha : isAggT P t = some agg) (hs : sizeT P t = some ks.length) : OpOK P C nt o (.load ks agg root x) := by
  intro G st a w H out c h next Q hn hp
  have hr := rdO_rel H x
  have hrun : ∀ b off u, a.eval x = .pointer (some ⟨b, off, none⟩) → (loadVar t ⟨b, off, none⟩).run P w = .ok u w → (execOp a.eval o).run P w = .ok (.value u) w := by
    intro b off u he hl
    simp [execOp, hop, he, Instr.loadAt, Instr.sureAddr, hl]
  simp only [sem] at h
  split at h
  · rename_i cs f hs'
    rw [hs'] at hr
    rcases hr with hr | hr
    · cases hr
    generalize he : a.eval x = u at hr
    cases hr with
    | ep vals hz hh =>
      rename_i b off
      have hrow : RowR G w cs b off := by
        intro j c' hc'
        have hj := (List.getElem?_eq_some_iff.1 hc').1
        obtain ⟨h1, h2, h3⟩ := H.frz _ _ (hz j hj)
        exact ⟨vals j, h1, hh j c' hc', h2⟩
      obtain ⟨v, y, hy, hv, hc⟩ := load_row (P := P) hrow ha hs h
      exact opVal (P := P) H hd (hrun _ _ _ he (by simpa using hy)) (fun _ => slotV hv) hc hn
  · rcases withBox_some h with ⟨r, off, B, h1, h2, h3, h4⟩ | ⟨g, off, f, sg, B, h1, h2, h3, h4, hne, h5⟩
    · rw [h2] at hr
      obtain ⟨blk, h6, h7, h8⟩ := hr
      obtain ⟨b, h9, h10, h11⟩ := H.lbox r B h3
      rw [h6] at h9; cases h9
      obtain ⟨v, y, hy, hv, hc⟩ := load_row (P := P) h11.row ha hs h4
      exact opVal (P := P) H hd (hrun _ _ _ h8 (by simpa using hy)) (fun _ => slotV hv) hc hn
    · rw [h2] at hr
      rcases hr with hr | hr
      · cases hr
      generalize he : a.eval x = u at hr
      cases hr with
      | gp hg =>
        obtain ⟨b, h9, h10, h11, _⟩ := H.gbox sg h3 g B h4 hne
        rw [hg] at h9; cases h9
        obtain ⟨v, y, hy, hv, hc⟩ := load_row (P := P) h11.row ha hs h5
        exact opVal (P := P) H hd (hrun _ _ _ he (by simpa using hy)) (fun _ => slotV hv) hc hn

theorem ok_lenS {x : Operand} {t : TypeId} (hd : ∀ x, o.dst = some x → x < nt) (hop : o.op = .call { callee := .builtin .len, args := #[x], argTypes := #[t] })
    (hu : P.underlying t = some .string) : OpOK P C nt o (.lenS x) := by
  intro G st a w H out c h next Q hn hp
  simp only [sem] at h
  obtain ⟨s, h1, h2⟩ := withS_some h
  have he := at_eq (rdA_rel H h1).1
  exact opAt (P := P) H hd h2 rfl (by simp [execOp, hop, resolve, invoke, builtin, he, Builtin.len_, run_underlying hu, goInt]) hn

theorem ok_lenA {x : Operand} {t : TypeId} {n : Nat} {e : TypeId} (hd : ∀ x, o.dst = some x → x < nt) (hop : o.op = .call { callee := .builtin .len, args := #[x], argTypes := #[t] })
    (hu : P.underlying t = some (.array n e)) : OpOK P C nt o (.lenA n) := by
  intro G st a w H out c h next Q hn hp
  simp only [sem] at h
  exact opAt (P := P) H hd h rfl (by simp [execOp, hop, resolve, invoke, builtin, Builtin.len_, run_underlying hu, goInt]) hn

theorem ok_lenL {x : Operand} {t : TypeId} {e : TypeId} (hd : ∀ x, o.dst = some x → x < nt) (hop : o.op = .call { callee := .builtin .len, args := #[x], argTypes := #[t] })
    (hu : P.underlying t = some (.slice e)) : OpOK P C nt o (.lenL x) := by
  intro G st a w H out c h next Q hn hp
  have hr := rdO_rel H x
  have hrun : ∀ b n cap, a.eval x = .slice b n cap → (execOp a.eval o).run P w = .ok (.value (.int .i64 n)) w := by
    intro b n cap he
    simp [execOp, hop, resolve, invoke, builtin, he, Builtin.len_, run_underlying hu, goInt]
  simp only [sem] at h
  split at h
  · rename_i l f hs
    rw [hs] at hr
    rcases hr with hr | hr
    · cases hr
    generalize he : a.eval x = u at hr
    cases hr with
    | nil => exact opAt (P := P) H hd h rfl (hrun _ _ _ he) hn
    | sl vals hn' => subst hn'; exact opAt (P := P) H hd h rfl (hrun _ _ _ he) hn
  · rename_i hs
    rw [hs] at hr
    rcases hr with hr | hr
    · cases hr
    generalize he : a.eval x = u at hr
    cases hr with
    | gs hg hc => exact opAt (P := P) H hd h rfl (hrun _ _ _ he) hn
  · rename_i hs
    rw [hs] at hr
    obtain ⟨blk, cap, h1, h2, h3, h4⟩ := hr
    exact opAt (P := P) H hd h rfl (hrun _ _ _ h3) hn
  · cases h

theorem max2_run (k : IntKind) (x y : Int) : Builtin.max2 (.int k x) (.int k y) = (pure (.int k (max2 x y)) : Sem Value) := by simp [Builtin.max2, max2]
theorem min2_run (k : IntKind) (x y : Int) : Builtin.min2 (.int k x) (.int k y) = (pure (.int k (min2 x y)) : Sem Value) := by simp [Builtin.min2, min2]

theorem minmax_run {Z : Fz} {ι : Iot} (mx : Bool) (k : IntKind) : ∀ {l : List AVal} {x r : Int} {vs : List Value}, minmaxI mx k x l = some r → l.length = vs.length →
    (∀ (i : Nat) a v, l[i]? = some a → vs[i]? = some v → VR Z ι a v) →
    List.foldlM (if mx then Builtin.max2 else Builtin.min2) (.int k x) vs = (pure (.int k r) : Sem Value)
  | [], x, r, vs, h, hl, hv => by
    simp [minmaxI] at h; subst h
    cases vs with
    | nil => rfl
    | cons => simp at hl
  | a :: l, x, r, vs, h, hl, hv => by
    cases vs with
    | nil => simp at hl
    | cons v vs =>
      unfold minmaxI at h
      split at h
      · rename_i heq; cases heq
      · rename_i k' y l' heq
        cases heq
        obtain ⟨h1, h2⟩ := bif_some h
        rw [kEq_iff] at h1; subst h1
        have hv0 := at_eq (hv 0 _ v rfl rfl)
        subst hv0
        have ih := minmax_run (Z := Z) (ι := ι) mx k h2 (vs := vs) (by simpa using hl) (fun i a v h1 h2 => hv (i + 1) a v (by simpa using h1) (by simpa using h2))
        cases mx
        · simp only [List.foldlM, Bool.false_eq_true, if_false] at ih ⊢
          rw [min2_run]; simpa using ih
        · simp only [List.foldlM, if_true] at ih ⊢
          rw [max2_run]; simpa using ih
      · cases h

theorem ok_minmax {mx : Bool} {xs : Array Operand} {tys : Array TypeId} (hd : ∀ x, o.dst = some x → x < nt) (hop : o.op = .call { callee := .builtin (if mx then .max else .min), args := xs, argTypes := tys }) :
    OpOK P C nt o (.minmax mx xs.toList) := by
  intro G st a w H out c h next Q hn hp
  simp only [sem] at h
  split at h
  · rename_i k x l hs
    split at h
    · rename_i r hr
      obtain ⟨hl, hv⟩ := args_rel H hs
      refine opAt (P := P) H hd h rfl ?_ hn
      cases hx : xs.toList with
      | nil => rw [hx] at hl; simp at hl
      | cons x0 xs' =>
        rw [hx] at hl hv
        have h0 : a.eval x0 = .int k x := by
          obtain ⟨y, hy, hv, _⟩ := hv 0 _ rfl
          simp at hy; subst hy
          exact at_eq hv
        have hfold := minmax_run (Z := G.Z) (ι := G.ι) mx k hr (vs := xs'.map a.eval) (by simpa using hl) (fun i aa v h1 h2 => by
          obtain ⟨y, hy, hv, _⟩ := hv (i + 1) aa (by simpa using h1)
          simp at hy
          simp [hy] at h2
          subst h2; exact hv)
        have hxs : (xs.map a.eval).toList = a.eval x0 :: xs'.map a.eval := by simp [hx]
        cases mx
        · simp only [Bool.false_eq_true, if_false] at hop hfold
          have hm : Builtin.min_ tys o.type (xs.map a.eval) = (pure (.int k r) : Sem Value) := by unfold Builtin.min_; rw [hxs]; simpa [h0] using hfold
          simp [execOp, hop, resolve, invoke, builtin, hm]
        · simp only [if_true] at hop hfold
          have hm : Builtin.max_ tys o.type (xs.map a.eval) = (pure (.int k r) : Sem Value) := by unfold Builtin.max_; rw [hxs]; simpa [h0] using hfold
          simp [execOp, hop, resolve, invoke, builtin, hm]
    · cases h
  · cases h
end
end Go.Abs
