/- THE ENGINE, part 27: equality of scalars, structs and arrays. -/
import Derived.Test.YtafmbianlodemaaSnd20
import Derived.DeepKeys
namespace Go.Abs
set_option linter.unusedSectionVars false
set_option linter.unusedVariables false
set_option linter.unusedSimpArgs false
section
variable {P : Program} {C : CallF} {nt : Nat} {o : Oper}

def vScal : CK → Value → Value → Option Bool
  | .int k, .int k1 a, .int k2 b => bif kEq k1 k && kEq k2 k then some (a == b) else none
  | .bool, .bool a, .bool b => some (a == b)
  | .str, .string a, .string b => some (a.toList == b.toList)
  | _, _, _ => none
def vEq : List CK → List Value → List Value → Option Bool
  | [], [], [] => some true
  | k :: ks, a :: as, b :: bs => match vScal k a b with
    | some e => match vEq ks as bs with
      | some r => some (e && r)
      | none => none
    | none => none
  | _, _, _ => none

theorem vEq_len : ∀ {ks : List CK} {xs ys : List Value} {r : Bool}, vEq ks xs ys = some r → xs.length = ks.length ∧ ys.length = ks.length
  | [], [], [], _, _ => ⟨rfl, rfl⟩
  | k :: ks, a :: as, b :: bs, r, h => by
    simp only [vEq] at h
    split at h
    · split at h
      · rename_i h2
        obtain ⟨e1, e2⟩ := vEq_len h2
        simp [e1, e2]
      · cases h
    · cases h
  | [], _ :: _, _, _, h => by simp [vEq] at h
  | [], [], _ :: _, _, h => by simp [vEq] at h
  | _ :: _, [], _, _, h => by simp [vEq] at h
  | _ :: _, _ :: _, [], _, h => by simp [vEq] at h

theorem vEq_append : ∀ {k1 k2 : List CK} {xs ys : List Value} {r : Bool}, vEq (k1 ++ k2) xs ys = some r →
    ∃ r1 r2, vEq k1 (xs.take k1.length) (ys.take k1.length) = some r1 ∧ vEq k2 (xs.drop k1.length) (ys.drop k1.length) = some r2 ∧ r = (r1 && r2)
  | [], k2, xs, ys, r, h => ⟨true, r, by simp [vEq], by simpa using h, by simp⟩
  | k :: k1, k2, a :: as, b :: bs, r, h => by
    simp only [List.cons_append, vEq] at h
    split at h
    · rename_i e he
      split at h
      · rename_i q hq
        cases h
        obtain ⟨r1, r2, h1, h2, rfl⟩ := vEq_append hq
        exact ⟨e && r1, r2, by simp [vEq, he, h1], by simpa using h2, by rw [Bool.and_assoc]⟩
      · cases h
    · cases h
  | _ :: _, _, [], _, _, h => by simp [vEq] at h
  | _ :: _, _, _ :: _, [], _, h => by simp [vEq] at h

/-- A value has the form of its type. -/
def FormA (P : Program) (t : TypeId) (v : Value) : Prop := match P.underlying t with
  | some (.struct _) | some (.array _ _) => ∃ arr, v = .agg arr
  | _ => v.cells = #[v]

def EqAs (P : Program) (dd : Nat) (t : TypeId) (ks : List CK) : Prop :=
  ∀ (w : World) (x y : Value) (r : Bool), FormA P t x → FormA P t y → vEq ks x.cells.toList y.cells.toList = some r → (Op.equalIn dd t x y).run P w = .ok r w

theorem kEq_eq {a b : IntKind} (h : kEq a b = true) : a = b := by
  cases a <;> cases b <;> first | rfl | cases h

theorem vScal_cells {k : CK} {a b : Value} {r : Bool} (h : vScal k a b = some r) : a.cells = #[a] ∧ b.cells = #[b] := by
  cases k <;> cases a <;> cases b <;> first | (simp [vScal] at h; done) | exact ⟨rfl, rfl⟩

theorem part_step {dd m : Nat} {t : TypeId} {ks : List CK} (IH : EqAs P dd t ks) (hk : eqK P m t = some ks) (hl : ks.length = P.cellsOf t) {xs ys : Array Value} {off : Nat} {r : Bool} (w : World)
    (h : vEq ks ((xs.toList.drop off).take ks.length) ((ys.toList.drop off).take ks.length) = some r) :
    ∃ a b, (part t xs off).run P w = .ok a w ∧ (part t ys off).run P w = .ok b w ∧ (Op.equalIn dd t a b).run P w = .ok r w := by
  cases m with
  | zero => simp [eqK] at hk
  | succ m =>
    cases hu : P.underlying t with
    | none => simp [eqK, hu] at hk
    | some kd =>
      have plain : P.plainKey t = true → (∃ k, ks = [k]) → ∃ a b, (part t xs off).run P w = .ok a w ∧ (part t ys off).run P w = .ok b w ∧ (Op.equalIn dd t a b).run P w = .ok r w := by
        rintro hp ⟨k, rfl⟩
        obtain ⟨l1, l2⟩ := vEq_len h
        obtain ⟨a, ha⟩ := List.length_eq_one_iff.1 l1
        obtain ⟨b, hb⟩ := List.length_eq_one_iff.1 l2
        rw [ha, hb] at h
        have hs : ∃ e, vScal k a b = some e := by
          simp only [vEq] at h
          split at h
          · rename_i e he; exact ⟨e, he⟩
          · cases h
        obtain ⟨e, he⟩ := hs
        obtain ⟨c1, c2⟩ := vScal_cells he
        have F : ∀ v : Value, v.cells = #[v] → FormA P t v := by
          intro v hv
          unfold FormA
          unfold Program.plainKey at hp
          cases kd <;> simp [hu] at hp ⊢ <;> exact hv
        refine ⟨a, b, run_part_plain w hp (getElem?_of_chunk ha), run_part_plain w hp (getElem?_of_chunk hb), IH w a b r (F a c1) (F b c2) ?_⟩
        rw [c1, c2]; exact h
      have agg : (∃ n e', kd = .array n e') ∨ (∃ fs, kd = .struct fs) → ∃ a b, (part t xs off).run P w = .ok a w ∧ (part t ys off).run P w = .ok b w ∧ (Op.equalIn dd t a b).run P w = .ok r w := by
        intro hkd
        obtain ⟨i, hi⟩ := info_of_underlying hu
        have hex : ∀ zs : Array Value, (zs.extract off (off + P.cellsOf t)).toList = (zs.toList.drop off).take ks.length := by
          intro zs
          rw [Array.toList_extract, hl]
          simp [List.extract]
        have hpt : ∀ zs : Array Value, (part t zs off).run P w = .ok (.agg (zs.extract off (off + P.cellsOf t))) w := by
          intro zs
          rcases hkd with ⟨n, e', rfl⟩ | ⟨fs, rfl⟩ <;> simp [part, isAgg, run_underlying hu, run_sizeOf w hi]
        have F : ∀ arr, FormA P t (.agg arr) := by
          intro arr
          rcases hkd with ⟨n, e', rfl⟩ | ⟨fs, rfl⟩ <;> simp [FormA, hu]
        refine ⟨_, _, hpt xs, hpt ys, IH w _ _ r (F _) (F _) ?_⟩
        simp only [Value.cells]
        rw [hex, hex]; exact h
      cases kd
      case bool => exact plain (by simp [Program.plainKey, hu]) ⟨_, by simp [eqK, hu] at hk; exact hk.symm⟩
      case int q => exact plain (by simp [Program.plainKey, hu]) ⟨_, by simp [eqK, hu] at hk; exact hk.symm⟩
      case string => exact plain (by simp [Program.plainKey, hu]) ⟨_, by simp [eqK, hu] at hk; exact hk.symm⟩
      case array n e' => exact agg (Or.inl ⟨n, e', rfl⟩)
      case struct fs => exact agg (Or.inr ⟨fs, rfl⟩)
      all_goals (simp [eqK, hu] at hk; done)

theorem fields_ok {dd m : Nat} (w : World) (xs ys : Array Value) (IH : ∀ t ks, eqK P m t = some ks → EqAs P dd t ks) : ∀ (fs : List Field) (off : Nat) (ks : List CK) (r : Bool), fieldsK (eqK P m) P fs off = some ks →
    vEq ks (xs.toList.drop off) (ys.toList.drop off) = some r → (Op.eqFields dd xs ys fs).run P w = .ok r w
  | [], off, ks, r, hk, h => by
    simp only [fieldsK, Option.some.injEq] at hk
    subst hk
    obtain ⟨l1, l2⟩ := vEq_len h
    rw [List.length_eq_zero_iff.1 l1, List.length_eq_zero_iff.1 l2] at h
    simp only [vEq, Option.some.injEq] at h
    subst h
    simp [Op.eqFields]
  | f :: fs, off, ks, r, hk, h => by
    simp only [fieldsK] at hk
    split at hk
    case isFalse => cases hk
    rename_i hn
    split at hk
    case h_2 => cases hk
    rename_i k1 hk1
    split at hk
    case isFalse => cases hk
    rename_i hl
    split at hk
    case h_2 => cases hk
    rename_i k2 hk2
    cases hk
    obtain ⟨r1, r2, h1, h2, rfl⟩ := vEq_append h
    obtain ⟨hn, rfl⟩ := hn
    obtain ⟨a, b, p1, p2, p3⟩ := part_step (IH _ _ hk1) hk1 hl w h1
    have h2' := fields_ok w xs ys IH fs _ k2 r2 hk2 (by simpa [List.drop_drop] using h2)
    simp only [Op.eqFields, hn, ne_eq, not_false_eq_true, if_true, Sem.run_bind, p1, p2, p3, Result.andThen_ok]
    cases r1
    · simp
    · simpa using h2'

theorem items_ok {dd m : Nat} (w : World) (xs ys : Array Value) {e : TypeId} {ks : List CK} (IH : EqAs P dd e ks) (hk : eqK P m e = some ks) (hl : ks.length = P.cellsOf e) : ∀ (n i : Nat) (r : Bool),
    vEq ((List.replicate n ks).flatten) (xs.toList.drop (i * P.cellsOf e)) (ys.toList.drop (i * P.cellsOf e)) = some r → (Op.eqItems dd e (P.cellsOf e) xs ys (List.range' i n)).run P w = .ok r w
  | 0, i, r, h => by
    simp only [List.replicate_zero, List.flatten_nil] at h
    obtain ⟨l1, l2⟩ := vEq_len h
    rw [List.length_eq_zero_iff.1 l1, List.length_eq_zero_iff.1 l2] at h
    simp only [vEq, Option.some.injEq] at h
    subst h
    simp [Op.eqItems]
  | n + 1, i, r, h => by
    simp only [List.replicate_succ, List.flatten_cons] at h
    obtain ⟨r1, r2, h1, h2, rfl⟩ := vEq_append h
    obtain ⟨a, b, p1, p2, p3⟩ := part_step IH hk hl w h1
    have h2' := items_ok w xs ys IH hk hl n (i + 1) r2 (by simpa [List.drop_drop, hl, Nat.add_mul] using h2)
    simp only [List.range'_succ, Op.eqItems, Sem.run_bind, p1, p2, p3, Result.andThen_ok]
    cases r1
    · simp
    · simpa using h2'

theorem eqAs_ok (d : Nat) : ∀ (m : Nat) (t : TypeId) (ks : List CK), eqK P m t = some ks → EqAs P (d + m) t ks
  | 0, _, _, h => by simp [eqK] at h
  | m + 1, t, ks, hk => by
    intro w x y r fx fy h
    unfold eqK at hk
    cases hu : P.underlying t with
    | none => simp [hu] at hk
    | some kd =>
      cases kd
      case bool =>
        simp [hu] at hk; subst hk
        simp only [FormA, hu] at fx fy
        rw [fx, fy] at h
        simp only [vEq] at h
        cases x <;> cases y <;> simp [vScal] at h
        subst h
        exact run_equalIn_bool w (d + m) t _ _ hu
      case int q =>
        simp [hu] at hk; subst hk
        simp only [FormA, hu] at fx fy
        rw [fx, fy] at h
        simp only [vEq] at h
        cases x <;> cases y <;> simp [vScal] at h
        rename_i k1 a k2 b
        split at h
        · rename_i e he
          have he := bif_some he
          obtain ⟨h1, h2⟩ := he
          simp only [Bool.and_eq_true] at h1
          obtain ⟨q1, q2⟩ := h1
          have q1 := kEq_eq q1
          have q2 := kEq_eq q2
          subst q1; subst q2
          simp at h2 h
          subst h2; subst h
          exact run_equalIn_int w (d + m) t _ _ _ _ hu
        · cases h
      case string =>
        simp [hu] at hk; subst hk
        simp only [FormA, hu] at fx fy
        rw [fx, fy] at h
        simp only [vEq] at h
        cases x <;> cases y <;> simp [vScal] at h
        subst h
        exact run_equalIn_string w (d + m) t _ _ hu
      case array n e =>
        simp only [hu] at hk
        split at hk
        case h_2 => cases hk
        rename_i k1 hk1
        split at hk
        case isFalse => cases hk
        rename_i hl
        cases hk
        simp only [FormA, hu] at fx fy
        obtain ⟨xs, rfl⟩ := fx
        obtain ⟨ys, rfl⟩ := fy
        have hpe : ∃ i, P.info? e = some i := by
          cases m with
          | zero => simp [eqK] at hk1
          | succ m' =>
            unfold eqK at hk1
            cases hue : P.underlying e with
            | none => simp [hue] at hk1
            | some _ => exact info_of_underlying hue
        obtain ⟨i, hi⟩ := hpe
        rw [show d + (m + 1) = (d + m) + 1 from rfl, run_equalIn_array w (d + m) xs ys hu hi, List.range_eq_range']
        exact items_ok w xs ys (eqAs_ok d m e k1 hk1) hk1 hl n 0 r (by simpa [Value.cells] using h)
      case struct fs =>
        simp only [hu] at hk
        split at hk
        case isTrue => cases hk
        rename_i hs
        simp only [FormA, hu] at fx fy
        obtain ⟨xs, rfl⟩ := fx
        obtain ⟨ys, rfl⟩ := fy
        have hfs : P.fieldsOf t = fs := by simp [Program.fieldsOf, hu]
        rw [show d + (m + 1) = (d + m) + 1 from rfl, run_equalIn_struct w (d + m) t xs ys (by rw [hfs]; exact hu) (by simpa using hs), hfs]
        exact fields_ok w xs ys (fun t ks hk => eqAs_ok d m t ks hk) fs.toList 0 ks r hk (by simpa [Value.cells] using h)
      all_goals (simp [hu] at hk; done)

theorem scal_v {Z : Fz} {ι : Iot} {k : CK} {a b : AVal} {u v : Value} {r : Bool} (h1 : VR Z ι a u) (h2 : VR Z ι b v) (h : scalEq k a b = some r) : vScal k u v = some r ∧ u.cells = #[u] ∧ v.cells = #[v] ∧ (∀ l, u ≠ .agg l) ∧ ∀ l, v ≠ .agg l := by
  unfold scalEq at h
  split at h
  · cases at_eq h1; cases at_eq h2; exact ⟨h, rfl, rfl, by simp, by simp⟩
  · cases at_eq h1; cases at_eq h2; exact ⟨h, rfl, rfl, by simp, by simp⟩
  · cases at_eq h1; cases at_eq h2; exact ⟨h, rfl, rfl, by simp, by simp⟩
  · cases h

theorem cells_v {Z : Fz} {ι : Iot} : ∀ {ks : List CK} {as bs : List AVal} {us vs : List Value} {r : Bool}, as.length = us.length → bs.length = vs.length →
    (∀ (i : Nat) a v, as[i]? = some a → us[i]? = some v → VR Z ι a v) → (∀ (i : Nat) a v, bs[i]? = some a → vs[i]? = some v → VR Z ι a v) → cellsEq ks as bs = some r → vEq ks us vs = some r
  | [], [], [], us, vs, r, l1, l2, h1, h2, h => by
    rw [List.length_eq_zero_iff.1 l1.symm, List.length_eq_zero_iff.1 l2.symm]
    simpa [cellsEq, vEq] using h
  | k :: ks, a :: as, b :: bs, u :: us, v :: vs, r, l1, l2, h1, h2, h => by
    simp only [cellsEq] at h
    split at h
    case h_2 => cases h
    rename_i e he
    split at h
    case h_2 => cases h
    rename_i q hq
    cases h
    have e1 := (scal_v (h1 0 a u rfl rfl) (h2 0 b v rfl rfl) he).1
    have e2 := cells_v (by simpa using l1) (by simpa using l2) (fun i x y p q => h1 (i + 1) x y (by simpa using p) (by simpa using q)) (fun i x y p q => h2 (i + 1) x y (by simpa using p) (by simpa using q)) hq
    simp [vEq, e1, e2]
  | [], _ :: _, _, _, _, _, _, _, _, _, h => by simp [cellsEq] at h
  | [], [], _ :: _, _, _, _, _, _, _, _, h => by simp [cellsEq] at h
  | _ :: _, [], _, _, _, _, _, _, _, _, h => by simp [cellsEq] at h
  | _ :: _, _ :: _, [], _, _, _, _, _, _, _, h => by simp [cellsEq] at h
  | _ :: _, _ :: _, _ :: _, [], _, _, l1, _, _, _, _ => by simp at l1
  | _ :: _, _ :: _, _ :: _, _ :: _, [], _, _, l2, _, _, _ => by simp at l2

theorem ok_eqA {neg : Bool} {ks : List CK} {t : TypeId} {x y : Operand} {ty : TypeId} (hd : ∀ x, o.dst = some x → x < nt) (hop : o.op = .binOp (if neg then .neq else .eql) t x y ty) (hk : eqK P 20 t = some ks)
    (hT : P.underlying t = some .bool ∨ (((∃ fs, P.underlying t = some (.struct fs)) ∨ ∃ n e, P.underlying t = some (.array n e)) ∧ P.eqGuardType P.depth t = false ∧ ks.length ≠ 1)) :
    OpOK P C nt o (.eqA neg ks t x y) := by
  intro G st a w H out c h next Q hn hp
  simp only [sem] at h
  obtain ⟨u, h1, h2⟩ := withA_some h
  obtain ⟨v, h3, h4⟩ := withA_some h2
  have e1 := (rdA_rel H h1).1
  have e2 := (rdA_rel H h3).1
  unfold withO at h4
  split at h4
  case h_2 => cases h4
  rename_i r hr
  have heq := eqAs_ok (P := P) 9980 20 t ks hk
  rcases hT with hT | ⟨hT, hg, hl⟩
  · have hks : ks = [.bool] := by simpa [eqK, hT] using hk.symm
    subst hks
    have hr : scalEq .bool u v = some r := hr
    obtain ⟨q1, q2, q3, q4, q5⟩ := scal_v e1 e2 hr
    have := heq w (a.eval x) (a.eval y) r (by simpa [FormA, hT] using q2) (by simpa [FormA, hT] using q3) (by rw [q2, q3]; simp [vEq, q1])
    have hb : ∃ p q, a.eval x = .bool p ∧ a.eval y = .bool q := by
      cases hx : a.eval x <;> cases hy : a.eval y <;> rw [hx, hy] at q1 <;> simp [vScal] at q1
      exact ⟨_, _, rfl, rfl⟩
    obtain ⟨p, q, hp1, hp2⟩ := hb
    rw [hp1, hp2] at this
    refine opAt (P := P) H hd h4 rfl ?_ hn
    cases neg
    · simp only [Bool.false_eq_true, if_false] at hop
      simp [execOp, hop, hp1, hp2, eqGuard, Go.binOp, Op.equal, Op.maxDepth, this]
    · simp only [if_true] at hop
      simp [execOp, hop, hp1, hp2, eqGuard, Go.binOp, Op.equal, Op.maxDepth, this]
  · have hag : ∃ as bs, u = .agg as ∧ v = .agg bs ∧ cellsEq ks as bs = some r := by
      unfold eqAV at hr
      split at hr
      · simp at hl
      · exact ⟨_, _, rfl, rfl, hr⟩
      · cases hr
    obtain ⟨as, bs, rfl, rfl, hr2⟩ := hag
    generalize hx : a.eval x = X at e1
    generalize hy : a.eval y = Y at e2
    cases e1 with
    | agg l1 k1 o1 =>
      cases e2 with
      | agg l2 k2 o2 =>
        rename_i xs ys
        have hv := cells_v (us := xs.toList) (vs := ys.toList) (by simpa using l1) (by simpa using l2) (fun i a v p q => k1 i a v p (by simpa using q)) (fun i a v p q => k2 i a v p (by simpa using q)) hr2
        have F : ∀ arr, FormA P t (.agg arr) := by
          intro arr
          rcases hT with ⟨fs, hT⟩ | ⟨n, e, hT⟩ <;> simp [FormA, hT]
        have := heq w (.agg xs) (.agg ys) r (F _) (F _) (by simpa [Value.cells] using hv)
        refine opAt (P := P) H hd h4 rfl ?_ hn
        cases neg
        · simp only [Bool.false_eq_true, if_false] at hop
          simp [execOp, hop, hx, hy, eqGuard, hg, Go.binOp, Op.equal, Op.maxDepth, this]
        · simp only [if_true] at hop
          simp [execOp, hop, hx, hy, eqGuard, hg, Go.binOp, Op.equal, Op.maxDepth, this]
end
end Go.Abs
