/- THE ENGINE, part 30: the row. The arguments of a call that is claimed, read as data, give abstract values; a law that evaluates to true keeps its promise. -/
import Derived.Test.YtafmbianlodemaaSnd22
import Derived.ProofKit
import Derived.Deep.Slices
namespace Go.Abs
set_option linter.unusedSectionVars false
set_option linter.unusedVariables false
set_option linter.unusedSimpArgs false
open Go.ChangeShapes Go.WideShapes Go.ChangeAt Go.RowKit

/-- What can be read of a world: its plain cells. -/
def zOf (w : World) : Fz := fun a => match w.cell? a with
  | some v => bif one v then some v else none
  | none => none
theorem zOf_some {w : World} {a : Addr} {v : Value} (h : zOf w a = some v) : w.cell? a = some v ∧ one v = true := by
  unfold zOf at h
  split at h
  · rename_i u hu
    cases h1 : one u with
    | true => rw [h1] at h; simp at h; subst h; exact ⟨hu, h1⟩
    | false => rw [h1] at h; simp at h
  · cases h
theorem zOf_mk {w : World} {a : Addr} {v : Value} (h : w.cell? a = some v) (h1 : one v = true) : zOf w a = some v := by
  simp [zOf, h, h1]
def ghOf (w : World) : Gh := ⟨zOf w, fun _ => none, fun _ => none, fun _ => none⟩
theorem gRel_of (w : World) : GRel (ghOf w) [] w :=
  ⟨fun g B h hne => (by simp at h), fun _ _ => rfl, fun a v h => ⟨(zOf_some h).1, (zOf_some h).2, rfl⟩, fun b o h => (by cases h), fun b o h => (by cases h)⟩

/-- A plain cell of a kind. -/
inductive FlatV : CK → Value → Prop
  | int {k : IntKind} {n : Int} (h1 : k.min ≤ n) (h2 : n ≤ k.max) : FlatV (.int k) (.int k n)
  | bool {b : Bool} : FlatV .bool (.bool b)
  | str {s : ByteArray} (h : s.size ≤ maxLen) : FlatV .str (.string s)
theorem FlatV.one {k : CK} {v : Value} (h : FlatV k v) : Go.Abs.one v = true := by cases h <;> rfl
def Flats : List CK → List Value → Prop
  | [], [] => True
  | k :: ks, v :: vs => FlatV k v ∧ Flats ks vs
  | _, _ => False
theorem Flats.append : ∀ {k1 : List CK} {c1 : List Value} {k2 : List CK} {c2 : List Value}, Flats k1 c1 → Flats k2 c2 → Flats (k1 ++ k2) (c1 ++ c2)
  | [], [], _, _, _, h => h
  | _ :: _, _ :: _, _, _, h1, h => ⟨h1.1, Flats.append h1.2 h⟩
  | [], _ :: _, _, _, h, _ => h.elim
  | _ :: _, [], _, _, h, _ => h.elim
theorem Flats.len : ∀ {ks : List CK} {cs : List Value}, Flats ks cs → ks.length = cs.length
  | [], [], _ => rfl
  | _ :: _, _ :: _, h => by simp [Flats.len h.2]
  | [], _ :: _, h => h.elim
  | _ :: _, [], h => h.elim
theorem Flats.one : ∀ {ks : List CK} {cs : List Value}, Flats ks cs → ∀ v ∈ cs, Go.Abs.one v = true
  | [], [], _, _, hv => by cases hv
  | _ :: _, _ :: _, h, v, hv => by
    rcases List.mem_cons.1 hv with rfl | hv
    · exact h.1.one
    · exact Flats.one h.2 v hv
  | [], _ :: _, h, _, _ => h.elim
  | _ :: _, [], h, _, _ => h.elim
theorem Flats.ints {k : IntKind} : ∀ {n : Nat} {cs : List Value}, Flats (List.replicate n (.int k)) cs → ∃ l : List Int, l.length = n ∧ cs = l.map (.int k) ∧ ∀ x ∈ l, k.min ≤ x ∧ x ≤ k.max
  | 0, [], _ => ⟨[], rfl, rfl, by simp⟩
  | 0, _ :: _, h => h.elim
  | n + 1, [], h => h.elim
  | n + 1, v :: vs, h => by
    obtain ⟨h1, h2⟩ := h
    obtain ⟨l, e1, e2, e3⟩ := Flats.ints h2
    cases h1 with
    | int a b => rename_i x; exact ⟨x :: l, by simp [e1], by simp [e2], by simpa using ⟨⟨a, b⟩, e3⟩⟩

section
variable {P : Program} {H : Type} {enc : TypeId × Value → H} {w : World} {base : Nat} {sp : Nat → Bool} {hd : Bool}

theorem mapM_all {α β : Type} {g : α → Option β} : ∀ {l : List α} {xs : List β}, l.mapM g = some xs → ∀ i ∈ l, ∃ y, g i = some y
  | [], _, _, _, hi => by cases hi
  | a :: l, xs, h, i, hi => by
    rw [List.mapM_cons] at h
    simp only [bind, Option.bind_eq_some_iff, pure] at h
    obtain ⟨y, h1, ys, h2, _⟩ := h
    rcases List.mem_cons.1 hi with rfl | hi
    · exact ⟨y, h1⟩
    · exact mapM_all h2 i hi

theorem flat_fields {m : Nat} {cs : List Value} (IH : ∀ t ks, eqK P m t = some ks → ∀ (c : List Value), ks.length = P.cellsOf t → (∃ n x, DataW.trod enc P w base sp hd n t c = some x) → Flats ks c) :
    ∀ (fs : List Field) (off : Nat) (ks : List CK), fieldsK (eqK P m) P fs off = some ks → off + ks.length = cs.length →
    (∀ f ∈ fs, ∃ n x, DataW.trod enc P w base sp hd n f.type ((cs.drop f.offset).take (P.cellsOf f.type)) = some x) → Flats ks (cs.drop off)
  | [], off, ks, hk, hl, _ => by
    simp only [fieldsK, Option.some.injEq] at hk
    subst hk
    simp at hl
    rw [hl, List.drop_length]
    trivial
  | f :: fs, off, ks, hk, hl, h => by
    simp only [fieldsK] at hk
    split at hk
    case isFalse => cases hk
    rename_i hn
    split at hk
    case h_2 => cases hk
    rename_i k1 hk1
    split at hk
    case isFalse => cases hk
    rename_i hl1
    split at hk
    case h_2 => cases hk
    rename_i k2 hk2
    cases hk
    obtain ⟨hn, rfl⟩ := hn
    have a1 := IH _ _ hk1 _ hl1 (h f (by simp))
    have a2 := flat_fields IH fs _ k2 hk2 (by simpa [Nat.add_assoc] using hl) (fun g hg => h g (by simp [hg]))
    have := a1.append a2
    rw [hl1, ← List.drop_drop, List.take_append_drop] at this
    exact this

theorem flat_items {m : Nat} {e : TypeId} {ks : List CK} {cs : List Value} (IH : ∀ (c : List Value), ks.length = P.cellsOf e → (∃ n x, DataW.trod enc P w base sp hd n e c = some x) → Flats ks c) (hl : ks.length = P.cellsOf e) :
    ∀ (n i : Nat), i * P.cellsOf e + (List.replicate n ks).flatten.length = cs.length →
    (∀ j, i ≤ j → j < i + n → ∃ n x, DataW.trod enc P w base sp hd n e ((cs.drop (j * P.cellsOf e)).take (P.cellsOf e)) = some x) → Flats (List.replicate n ks).flatten (cs.drop (i * P.cellsOf e))
  | 0, i, hlen, _ => by
    simp at hlen
    rw [hlen, List.drop_length]
    trivial
  | n + 1, i, hlen, h => by
    simp only [List.replicate_succ, List.flatten_cons] at hlen ⊢
    have a1 := IH _ hl (h i (Nat.le_refl _) (by omega))
    have a2 := flat_items (m := m) IH hl n (i + 1) (by rw [Nat.add_mul, Nat.one_mul, ← hl]; simp at hlen ⊢; rw [← hl] at hlen; omega) (fun j h1 h2 => h j (by omega) (by omega))
    have := a1.append a2
    rw [show (i + 1) * P.cellsOf e = i * P.cellsOf e + P.cellsOf e by rw [Nat.add_mul, Nat.one_mul], ← List.drop_drop, List.take_append_drop] at this
    exact this

theorem flat_trod : ∀ (m : Nat) (t : TypeId) (ks : List CK), eqK P m t = some ks → ∀ (cs : List Value), ks.length = P.cellsOf t → (∃ n x, DataW.trod enc P w base sp hd n t cs = some x) → Flats ks cs
  | 0, _, _, h, _, _, _ => by simp [eqK] at h
  | m + 1, t, ks, hk, cs, hl, ⟨n, x, h⟩ => by
    cases n with
    | zero => simp [DataW.trod] at h
    | succ n =>
      unfold eqK at hk
      unfold DataW.trod at h
      cases hu : P.underlying t with
      | none => simp [hu] at hk
      | some kd =>
        cases kd
        case bool =>
          simp only [hu, Option.some.injEq] at hk h; subst hk
          split at h <;> first | cases h | skip
          all_goals (first | (simp_all; done) | skip)
          all_goals (rename_i h1; cases h1; exact ⟨.bool, trivial⟩)
        case int q =>
          simp only [hu, Option.some.injEq] at hk h; subst hk
          split at h <;> (try (rename_i h1; cases h1)) <;> (try (cases h; done))
          split at h
          · rename_i hw
            obtain ⟨rfl, hw⟩ := hw
            simp only [Lit.wf, Bool.and_eq_true, decide_eq_true_eq] at hw
            exact ⟨.int hw.1 hw.2, trivial⟩
          · cases h
        case string =>
          simp only [hu, Option.some.injEq] at hk h; subst hk
          split at h <;> (try (rename_i h1; cases h1)) <;> (try (cases h; done))
          split at h
          · rename_i hw; exact ⟨.str hw, trivial⟩
          · cases h
        case array len e =>
          simp only [hu] at hk h
          split at hk
          case h_2 => cases hk
          rename_i k1 hk1
          split at hk
          case isFalse => cases hk
          rename_i hl1
          cases hk
          split at h
          case isFalse => cases h
          rename_i hc
          simp only [Option.map_eq_some_iff] at h
          obtain ⟨xs, h, _⟩ := h
          have := flat_items (m := m) (cs := cs) (flat_trod m e k1 hk1) hl1 len 0 (by rw [Nat.zero_mul, Nat.zero_add, hl, hc]) (fun j _ hj => by
            obtain ⟨y, hy⟩ := mapM_all h j (by simpa using hj)
            exact ⟨n, y, hy⟩)
          simpa using this
        case struct fs =>
          simp only [hu] at hk h
          split at hk
          case isTrue => cases hk
          split at h
          case isFalse => cases h
          rename_i hc
          simp only [Option.map_eq_some_iff] at h
          obtain ⟨xs, h, _⟩ := h
          have := flat_fields (cs := cs) (fun t ks hk => flat_trod m t ks hk) fs.toList 0 ks hk (by rw [Nat.zero_add, hl, hc]) (fun f hf => by
            obtain ⟨y, hy⟩ := mapM_all h f hf
            exact ⟨n, y, hy⟩)
          simpa using this
        all_goals (simp [hu] at hk; done)

theorem vr_flat {ks : List CK} {cs : List Value} (h : Flats ks cs) (Z : Fz) (ι : Iot) : VR Z ι (.agg (cs.map .at)) (.agg cs.toArray) := by
  refine .agg (by simp) (fun i a v h1 h2 => ?_) (fun i v h1 => ?_)
  · simp only [List.getElem?_map, Option.map_eq_some_iff] at h1
    obtain ⟨u, h1, rfl⟩ := h1
    simp at h2
    rw [h1] at h2; cases h2
    exact .at (h.one _ (List.mem_of_getElem? h1))
  · simp at h1
    exact h.one _ (List.mem_of_getElem? h1)

/-- An argument that is a struct or an array of plain cells. -/
theorem arg_flat {t : TypeId} {ks : List CK} {v : Value} {d : DataW H} {p : List MemPlace} {r : Reach} (hk : eqK P 20 t = some ks) (hl : ks.length = P.cellsOf t) (hT : isAggT P t = some true)
    (hval : Value.okWide P w r base t v) (h : DataW.Trod enc P w 0 sp hd t v d p) : ∃ cs, Flats ks cs ∧ v = .agg cs.toArray ∧ VR (zOf w) (fun _ => none) (.agg (cs.map .at)) v := by
  obtain ⟨n, h⟩ := h
  have hv : ∃ arr, v = .agg arr := by
    unfold isAggT at hT
    unfold Value.okWide at hval
    split at hT
    · rename_i hu; rw [hu] at hval; obtain ⟨cs, h, _⟩ := hval; exact ⟨cs, h⟩
    · rename_i hu; rw [hu] at hval; obtain ⟨cs, h, _⟩ := hval; exact ⟨cs, h⟩
    · cases hT
    · cases hT
  obtain ⟨arr, rfl⟩ := hv
  have hf := flat_trod 20 t ks hk _ hl ⟨n, _, h⟩
  simp only [Value.cells] at hf
  exact ⟨arr.toList, hf, by simp, by simpa using vr_flat hf (zOf w) (fun _ => none)⟩

/-- An element of a slice. -/
def elA (agg : Bool) (cs : List Value) : AVal := bif agg then .agg (cs.map .at) else .at (cs.headD undef)
theorem elA_cells {agg : Bool} {cs : List Value} (h : agg = false → cs.length = 1) : (elA agg cs).cells = cs.map .at := by
  cases agg with
  | true => rfl
  | false =>
    obtain ⟨x, hx⟩ := List.length_eq_one_iff.1 (h rfl)
    subst hx; rfl

/-- An argument that is a slice of such. -/
theorem arg_slice {t e : TypeId} {ks : List CK} {agg : Bool} {v : Value} {d : DataW H} {p : List MemPlace} {r : Reach} (ht : P.underlying t = some (.slice e)) (hk : eqK P 20 e = some ks) (hl : ks.length = P.cellsOf e) (hg : agg = false → ks.length = 1)
    (hval : Value.okWide P w r base t v) (h : DataW.Trod enc P w 0 sp hd t v d p) :
    ∃ nn L, (nn = true → L = []) ∧ L.length ≤ maxLen ∧ (∀ cs ∈ L, Flats ks cs) ∧ VR (zOf w) (fun _ => none) (.sl nn (P.cellsOf e) (L.map (elA agg))) v := by
  obtain ⟨n, h⟩ := h
  obtain ⟨a0, len0, cap0, rfl⟩ := okWide_slice ht hval
  rcases Go.Deep.open_slice ht h with ⟨h0, _⟩ | ⟨a, len, cap, m, q, D, Pl, h0, hb, hlc, hcm, hm, _, hx⟩
  · simp only [Value.cells] at h0
    cases h0
    exact ⟨true, [], fun _ => rfl, by simp, by simp, .nil⟩
  · simp only [Value.cells, List.cons.injEq, and_true, Value.slice.injEq] at h0
    obtain ⟨e1, e2, e3⟩ := h0
    have e2 := e2.symm
    have e3 := e3.symm
    subst e1 e2 e3
    have hspot : a.spot = none := by
      simp only [Value.okWide, ht, Cell.okWide, Cell.ok] at hval
      exact hval.2.2.2.1
    obtain ⟨b, off, spot⟩ := a
    simp only at hspot
    subst hspot
    have hlm : len ≤ m := by rw [hm]; split <;> omega
    have hx' : ∀ i, i < len → ∃ cs, w.cells? 0 ((⟨b, off, none⟩ : Addr).add (i * P.cellsOf e)) (P.cellsOf e) = some cs ∧ Flats ks cs := fun i hi => by
      obtain ⟨cs, h1, h2⟩ := hx i (by omega)
      exact ⟨cs, h1, flat_trod 20 e ks hk cs hl ⟨q, _, h2⟩⟩
    obtain ⟨F, hF⟩ := Go.Deep.choose_lt (α := List Value) (p := fun i cs => w.cells? 0 ((⟨b, off, none⟩ : Addr).add (i * P.cellsOf e)) (P.cellsOf e) = some cs ∧ Flats ks cs) hx'
    have hadd : ∀ i j : Nat, (((⟨b, off, none⟩ : Addr).add i).add j) = ⟨b, off + (i + j), none⟩ := by
      intro i j
      unfold Addr.add
      split <;> split <;> simp_all <;> omega
    have hcell : ∀ i j, i < len → j < P.cellsOf e → w.cell? ⟨b, off + (i * P.cellsOf e + j), none⟩ = (F i)[j]? := fun i j hi hj => by
      obtain ⟨_, hlen, h3⟩ := World.cells?_some (hF i hi).1
      rw [← hadd]; exact h3 j hj
    have hFl : ∀ i, i < len → (F i).length = P.cellsOf e := fun i hi => by rw [← (hF i hi).2.len, hl]
    have hel : ∀ i, i < len → (elA agg (F i)).cells = (F i).map .at := fun i hi => elA_cells fun hh => by rw [hFl i hi, ← hl]; exact hg hh
    refine ⟨false, (List.range len).map F, fun h => (by cases h), by simpa using Nat.le_trans hlc hcm, ?_, ?_⟩
    · intro cs hcs
      obtain ⟨i, hi, rfl⟩ := List.mem_map.1 hcs
      exact (hF i (by simpa using hi)).2
    · refine .sl (fun j => (w.cell? ⟨b, off + j, none⟩).getD undef) (by simp) hlc ?_ ?_ ?_ ?_
      · intro x hx
        simp only [List.map_map, List.mem_map, List.mem_range, Function.comp] at hx
        obtain ⟨i, hi, rfl⟩ := hx
        rw [hel i hi]; simp [hFl i hi]
      · intro j hj
        have hpos : 0 < P.cellsOf e := by
          rcases Nat.eq_zero_or_pos (P.cellsOf e) with h0 | h0
          · rw [h0] at hj; omega
          · exact h0
        have hi : j / P.cellsOf e < len := (Nat.div_lt_iff_lt_mul hpos).2 hj
        have hjm := Nat.mod_lt j hpos
        have e1 := hcell (j / P.cellsOf e) (j % P.cellsOf e) hi hjm
        rw [show j / P.cellsOf e * P.cellsOf e + j % P.cellsOf e = j by rw [Nat.mul_comm]; exact Nat.div_add_mod j _] at e1
        rw [e1, List.getElem?_eq_getElem (by rw [hFl _ hi]; exact hjm)]
        rw [List.getElem?_eq_getElem (by rw [hFl _ hi]; exact hjm)] at e1
        exact zOf_mk e1 ((hF _ hi).2.one _ (List.getElem_mem _))
      · intro i j x c h1 h2
        simp only [List.map_map, List.getElem?_map, Option.map_eq_some_iff, Function.comp] at h1
        obtain ⟨i', hi', rfl⟩ := h1
        obtain ⟨hi2, rfl⟩ := List.getElem?_eq_some_iff.1 hi'
        simp only [List.getElem_range] at h2
        have hi3 : i < len := by simpa using hi2
        rw [hel i hi3] at h2
        simp only [List.getElem?_map, Option.map_eq_some_iff] at h2
        obtain ⟨u, h2, rfl⟩ := h2
        have hj : j < P.cellsOf e := by rw [← hFl i hi3]; exact (List.getElem?_eq_some_iff.1 h2).1
        rw [hcell i j hi3 hj, h2]
        exact .at ((hF i hi3).2.one _ (List.mem_of_getElem? h2))
      · intro x hx
        simp only [List.map_map, List.mem_map, List.mem_range, Function.comp] at hx
        obtain ⟨i, hi, rfl⟩ := hx
        cases agg with
        | true => exact .inl ⟨_, rfl⟩
        | false => exact .inr ⟨rfl, fun vs h => by cases h⟩

theorem trodAll_stays {W W' : World} {sp : Nat → Bool} (hlo : laidOutB P = true) (hb : Below W.heap.size W W') : ∀ {ts : List TypeId} {vs : List Value} {ds : List (DataW H)} {pa : List MemPlace},
    DataW.TrodAll enc P W 0 (fun _ => true) true ts vs ds pa → (∀ p ∈ pa, p.block < W.heap.size) → (∀ t ∈ ts, P.readableRec t = true ∧ t < P.types.size) → (∀ p ∈ pa, sp p.block = true) →
    DataW.TrodAll enc P W' 0 sp true ts vs ds pa
  | [], vs, ds, pa, hA, _, _, _ => by cases vs <;> cases ds <;> simp [DataW.TrodAll] at hA ⊢; exact hA
  | t :: ts, vs, ds, pa, hA, hlt, hp, hsp => by
    obtain ⟨v, vs', d, ds', p, q, rfl, rfl, rfl, h1, h2⟩ := trodAll_cons hA
    obtain ⟨r1, r2⟩ := hp t (by simp)
    exact ⟨p, q, WideElems.Trod_stays hlo r1 r2 h1 (fun x hx => hb.same (hlt x (by simp [hx]))) (fun x hx => hsp x (by simp [hx])),
      trodAll_stays hlo hb h2 (fun x hx => hlt x (by simp [hx])) (fun t ht => hp t (by simp [ht])) (fun x hx => hsp x (by simp [hx])), rfl⟩

/-- WHAT A LAW THAT GIVES true KEEPS: its row's promise. -/
theorem post_true {f : Func} {s : ChangeSpec} {apart fresh handsOn again : Bool} {W W' : World} {args : Array Value} {ds gs : List (DataW H)} {before : List MemPlace} {tb : TypeId}
    (hlo : laidOutB P = true) (hW : DataW.Whole enc P f.params.toList s.vars apart W args.toList ds gs before) (hv : s.vars = [])
    (hs : s.fn H ds = { results := [.lit (.bool true)], args := ds, vars := [] }) (hb : Below W.heap.size W W') (hr : f.resultTypes = #[tb]) (ht : P.underlying tb = some .bool)
    (hp : ∀ t ∈ f.params.toList, P.readableRec t = true ∧ t < P.types.size) : s.post enc P f apart fresh handsOn again W args (.bool true) W' := by
  have hlt : ∀ p ∈ before, p.block < W.heap.size := fun p hp => hW.lt p hp
  have hW0 := hW
  obtain ⟨pa, pv, hA, hV, rfl, hz, hn⟩ := hW
  have hgs : gs = [] ∧ pv = [] := by rw [hv] at hV; exact trodVars_none hV
  obtain ⟨rfl, rfl⟩ := hgs
  simp only [List.append_nil] at hW0 hlt hz hn ⊢
  have hargs : ∀ sp : Nat → Bool, (∀ p ∈ pa, sp p.block = true) → DataW.TrodAll enc P W' 0 sp true f.params.toList args.toList ds pa := by
    intro sp hsp
    exact trodAll_stays hlo hb hA hlt hp hsp
  have hres : ∀ (b : Nat) (sp : Nat → Bool) (hd : Bool), DataW.TrodAll enc P W' b sp hd f.resultTypes.toList ((Value.bool true).resultList f.resultTypes.size) [.lit (.bool true)] [] := by
    intro b sp hd
    rw [hr]
    exact trodAll_mk1 (shut_bool ht true)
  have hold : ∀ p ∈ pa, (fun b => decide (b < W.heap.size)) p.block = true := fun p hp => by simpa using hlt p hp
  have hok := ok_one (P := P) (W' := W') (v := .bool true) hr rfl (okWide_bool_mk ht true)
  have e1 : s.fn H (ds ++ []) = { results := [.lit (.bool true)], args := ds, vars := [] } := by rw [List.append_nil]; exact hs
  refine ⟨ds, [], pa, [], pa, [], hW0, by rw [e1]; exact hres _ _ _, by rw [e1]; exact hargs _ hold, by rw [e1, hv]; rfl, World.keptBut_mono (fun p hp => ⟨hp, by simp [hp]⟩) (hb.frame (· ∈ pa)), fun _ => ?_⟩
  refine ⟨hok, [.lit (.bool true)] ++ ds, [], ([] ++ pa) ++ [], ⟨[] ++ pa, [], trodAll_append (hargs _ (fun _ _ => rfl)) (hres _ _ _), by rw [hv]; rfl, rfl, ?_, ?_⟩, ?_⟩
  · intro b off hp
    have hin : MemPlace.cell b off ∈ pa := by simpa using hp
    rw [hb.frozen (hlt _ hin)]
    exact hz b off hin
  · intro ha
    simpa using hn ha
  · intro p hp _
    simpa using hp

/-- THE ROW, BY AN EVALUATION: the arguments' abstract values, what they come to. -/
theorem row_true {f : FuncId} {fn : Func} {s : ChangeSpec} {apart fresh handsOn again : Bool} {W : World} {args : Array Value} {ds gs : List (DataW H)} {before : List MemPlace} {tb : TypeId}
    (hlo : laidOutB P = true) (hW : DataW.Whole enc P fn.params.toList s.vars apart W args.toList ds gs before) (hv : s.vars = [])
    (hs : s.fn H ds = { results := [.lit (.bool true)], args := ds, vars := [] }) (hr : fn.resultTypes = #[tb]) (ht : P.underlying tb = some .bool)
    (hp : ∀ t ∈ fn.params.toList, P.readableRec t = true ∧ t < P.types.size)
    {as : List AVal} {sg : Sg} (hc : CallOK P f as [] (.ret (.at (.bool true)) sg)) (hlen : as.length = args.size)
    (ha : ∀ (i : Nat) a v, as[i]? = some a → args[i]? = some v → VR (zOf W) (fun _ => none) a v ∧ ∀ vs, a ≠ .tup vs) :
    Calls P f args W fun e W' => ∃ v, e = .returned v ∧ s.post enc P fn apart fresh handsOn again W args v W' := by
  refine (hc (ghOf W) W args (gRel_of W) hlen ha).mono fun e W' h => ?_
  obtain ⟨G', hF, u, rfl, hu, _⟩ := h
  cases at_eq hu
  exact ⟨_, rfl, post_true hlo hW hv hs ⟨hF.os, hF.tape, hF.output, hF.size, fun k hk => (hF.rest k hk rfl).1⟩ hr ht hp⟩
end
end Go.Abs
