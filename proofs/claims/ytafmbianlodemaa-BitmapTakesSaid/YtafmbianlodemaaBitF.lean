/- THE BITMAP: what the functions that take and give come to. -/
import Derived.Test.YtafmbianlodemaaBitL
import Derived.Test.YtafmbianlodemaaRsBk
namespace Go.Abs
set_option linter.unusedSectionVars false
set_option linter.unusedSimpArgs false
set_option linter.unusedVariables false

abbrev il (l : List Int) : List AVal := l.map fun n => I n
theorem il_len (l : List Int) : (il l).length = l.length := List.length_map ..
theorem il_get {l : List Int} {i : Nat} (h : i < l.length) : (il l)[i]? = some (I l[i]) := by
  rw [List.getElem?_map, List.getElem?_eq_getElem h]; rfl
theorem il_app (l : List Int) (x : Int) : il l ++ [I x] = il (l ++ [x]) := by simp
theorem withA_at {α : Type} (k : IntKind) (n : Int) (c : AVal → Option α) : withA (some (.at (.int k n))) c = c (.at (.int k n)) := rfl
theorem withL_sl {α : Type} (sz : Nat) (nn : Bool) (l : List AVal) (c : Bool → List AVal → Option α) (h : ∀ a ∈ l, True) : withL sz (some (.sl nn sz l)) c = c nn l := by
  simp [withL]
theorem withL1 {α : Type} (nn : Bool) (l : List AVal) (c : Bool → List AVal → Option α) : withL 1 (some (.sl nn 1 l)) c = c nn l := rfl
theorem noGs_il : ∀ l : List Int, noGs (il l) = true
  | [] => rfl
  | n :: l => by
    have := noGs_il l
    simp only [il, List.map_cons, noGs, noG, Bool.true_and] at this ⊢
    exact this

def wiS (s : ByteArray) (a b : Int) : Bool := decide (s.size = 480 ∧ 0 ≤ a ∧ a ≤ b ∧ b ≤ 3840)
variable {C : CallF} {N : Nat}
theorem within_ev (K : SmallC C) (s : ByteArray) (a b : Int) (sg : Sg) : evalF C N bitmap_within.a [S s, I a, I b] sg = some (.ret (B (wiS s a b)) sg) := by
  rw [bitmap_within.main, K.is, withOut_ret, withB_at]
  by_cases h1 : s.size = 480
  · rw [if_pos (by simp [h1])]
    by_cases h2 : a ≥ 0
    · rw [if_pos (by simpa using h2)]
      by_cases h3 : a ≤ b
      · rw [if_pos (by simpa using h3)]
        have : wiS s a b = decide (b ≤ 3840) := by simp [wiS, h1, h2, h3]
        rw [this]
      · rw [if_neg (by simpa using h3)]
        have : wiS s a b = false := by simp [wiS, h3]
        rw [this]
    · rw [if_neg (by simpa using h2)]
      have : wiS s a b = false := by simp [wiS]; omega
      rw [this]
  · rw [if_neg (by simp [h1])]
    have : wiS s a b = false := by simp [wiS, h1]
    rw [this]
theorem rwithin_ev (s : ByteArray) (a b : Int) (sg : Sg) : evalF C N ref10_Within.a [S s, I a, I b] sg = some (.ret (B (wiS s a b)) sg) := by
  rw [ref10_Within.main]
  by_cases h1 : s.size = 480
  · rw [if_pos (by simp [h1])]
    by_cases h2 : a ≥ 0
    · rw [if_pos (by simpa using h2)]
      by_cases h3 : a ≤ b
      · rw [if_pos (by simpa using h3)]
        have : wiS s a b = decide (b ≤ 3840) := by simp [wiS, h1, h2, h3]
        rw [this]
      · rw [if_neg (by simpa using h3)]
        have : wiS s a b = false := by simp [wiS, h3]
        rw [this]
    · rw [if_neg (by simpa using h2)]
      have : wiS s a b = false := by simp [wiS]; omega
      rw [this]
  · rw [if_neg (by simp; omega)]
    have : wiS s a b = false := by simp [wiS, h1]
    rw [this]

theorem free_loop (hu : ∀ s i sg, C 19 [S s, I i] sg = some (.ret (B (usedS s i)) sg)) {s : ByteArray} {t k : Int} (ht : t ≤ 3840) (sg : Sg) : ∀ (n M i : Nat) (l : List Int), (i : Int) + n = t → n < M → l.length ≤ i →
    iter (bitmap_free.R0 C N) M (mkS [0, 2, 3, 9, 10] [Slot.v (S s) false, Slot.v (I t) false, Slot.v (I k) false, Slot.v (.sl l.isEmpty 1 (il l)) true, Slot.v (I i) false] [none, none, none, none, none] (RVal.sg sg)) (bitmap_free.K0 C N) =
      some (.ret (.sl (l ++ (freeS s n i).take (k - l.length).toNat).isEmpty 1 (il (l ++ (freeS s n i).take (k - l.length).toNat))) sg)
  | n, 0, i, l, _, h, _ => by omega
  | 0, M + 1, i, l, hi, _, _ => by
    rw [iter_succ, bitmap_free.r0, if_neg (by simp; omega), thenK_e, bitmap_free.k0_1]
    simp [freeS]
  | n + 1, M + 1, i, l, hi, h, hl => by
    rw [iter_succ, bitmap_free.r0, if_pos (by simp; omega), il_len]
    by_cases hk : (l.length : Int) < k
    · have w1 : IntKind.i64.wrap ((i : Int) + 1) = ((i + 1 : Nat) : Int) := by rw [i64_id (by omega)]; omega
      rw [if_pos (by simpa using hk), hu, withOut_ret, withB_at, w1]
      cases hus : usedS s (i : Int) with
      | true =>
        rw [if_neg (by simp), thenK_n, free_loop hu ht sg n M (i + 1) l (by omega) (by omega) (by omega)]
        simp [freeS, hus]
      | false =>
        rw [if_pos (by simp), if_pos (by omega), thenK_n]
        have e1 : (AVal.sl false 1 (il l ++ [I (i : Int)])) = .sl (l ++ [(i : Int)]).isEmpty 1 (il (l ++ [(i : Int)])) := by simp
        rw [e1, free_loop hu ht sg n M (i + 1) (l ++ [(i : Int)]) (by omega) (by omega) (by simp; omega)]
        have e2 : (k - (l.length : Int)).toNat = (k - ((l ++ [(i : Int)]).length : Nat)).toNat + 1 := by simp; omega
        have e3 : l ++ (freeS s (n + 1) i).take (k - (l.length : Int)).toNat = (l ++ [(i : Int)]) ++ (freeS s n (i + 1)).take (k - ((l ++ [(i : Int)]).length : Nat)).toNat := by
          rw [e2]; simp [freeS, hus]
        rw [e3]
    · rw [if_neg (by simpa using hk), thenK_e, bitmap_free.k0_1]
      have : (k - (l.length : Int)).toNat = 0 := by omega
      simp [this]
def takeS (s : ByteArray) (a b k : Int) : List Int := (freeS s (b - a).toNat a.toNat).take k.toNat
theorem free_ev (hu : ∀ s i sg, C 19 [S s, I i] sg = some (.ret (B (usedS s i)) sg)) {s : ByteArray} {a b : Int} (k : Int) (h : 0 ≤ a ∧ a ≤ b ∧ b ≤ 3840) (hN : 4000 < N) (sg : Sg) :
    evalF C N bitmap_free.a [S s, I a, I b, I k] sg = some (.ret (.sl (takeS s a b k).isEmpty 1 (il (takeS s a b k))) sg) := by
  obtain ⟨m, rfl⟩ := Int.eq_ofNat_of_zero_le h.1
  obtain ⟨n, hn⟩ := Int.eq_ofNat_of_zero_le (show 0 ≤ b - m by omega)
  rw [bitmap_free.main]
  have := free_loop (N := N) hu (s := s) (t := b) (k := k) (by omega) sg n N m [] (by omega) (by omega) (by simp)
  refine this.trans ?_
  simp only [takeS, hn, Int.toNat_natCast, List.nil_append, List.length_nil, Int.natCast_zero, Int.sub_zero]
theorem rfree_loop (hu : ∀ s i sg, C 20 [S s, I i] sg = some (.ret (B (usedS s i)) sg)) {s : ByteArray} {t : Int} (ht : t ≤ 3840) (sg : Sg) : ∀ (n M i : Nat) (l : List Int), (i : Int) + n = t → n < M → l.length ≤ i →
    iter (ref10_Free.R0 C N) M (mkS [0, 2, 7, 8] [Slot.v (S s) false, Slot.v (I t) false, Slot.v (.sl false 1 (il l)) true, Slot.v (I i) false] [none, none, none, none] (RVal.sg sg)) (ref10_Free.K0 C N) =
      some (.ret (.sl false 1 (il (l ++ freeS s n i))) sg)
  | n, 0, i, l, _, h, _ => by omega
  | 0, M + 1, i, l, hi, _, _ => by
    rw [iter_succ, ref10_Free.r0, if_neg (by simp; omega), thenK_e, ref10_Free.k0_1]
    simp [freeS]
  | n + 1, M + 1, i, l, hi, h, hl => by
    have w1 : IntKind.i64.wrap ((i : Int) + 1) = ((i + 1 : Nat) : Int) := by rw [i64_id (by omega)]; omega
    rw [iter_succ, ref10_Free.r0, if_pos (by simp; omega), il_len, hu, withOut_ret, withB_at, w1]
    cases hus : usedS s (i : Int) with
    | true =>
      rw [if_neg (by simp), thenK_n, rfree_loop hu ht sg n M (i + 1) l (by omega) (by omega) (by omega)]
      simp [freeS, hus]
    | false =>
      rw [if_pos (by simp), if_pos (by omega), thenK_n, il_app, rfree_loop hu ht sg n M (i + 1) (l ++ [(i : Int)]) (by omega) (by omega) (by simp; omega)]
      simp [freeS, hus]
theorem rfree_ev (hu : ∀ s i sg, C 20 [S s, I i] sg = some (.ret (B (usedS s i)) sg)) {s : ByteArray} {a b : Int} (h : 0 ≤ a ∧ a ≤ b ∧ b ≤ 3840) (hN : 4000 < N) (sg : Sg) :
    evalF C N ref10_Free.a [S s, I a, I b] sg = some (.ret (.sl false 1 (il (freeS s (b - a).toNat a.toNat))) sg) := by
  obtain ⟨m, rfl⟩ := Int.eq_ofNat_of_zero_le h.1
  obtain ⟨n, hn⟩ := Int.eq_ofNat_of_zero_le (show 0 ≤ b - m by omega)
  rw [ref10_Free.main]
  have := rfree_loop (N := N) hu (s := s) (t := b) (by omega) sg n N m [] (by omega) (by omega) (by simp)
  refine this.trans ?_
  simp only [hn, Int.toNat_natCast, List.nil_append]

/-- The lowest ones: the list, and the code. -/
def lowS (s : ByteArray) (a b k : Int) : List Int := if wiS s a b = true ∧ 0 ≤ k ∧ k ≤ (freeS s (b - a).toNat a.toNat).length then takeS s a b k else []
def lowC (s : ByteArray) (a b k : Int) : Int := if wiS s a b = true ∧ 0 ≤ k then (if k ≤ (freeS s (b - a).toNat a.toNat).length then 0 else 13) else 18
structure LowC (C : CallF) : Prop where
  within : ∀ s a b sg, C 40 [S s, I a, I b] sg = some (.ret (B (wiS s a b)) sg)
  free : ∀ (s : ByteArray) (a b k : Int), (0 ≤ a ∧ a ≤ b ∧ b ≤ 3840) → ∀ sg, C 41 [S s, I a, I b, I k] sg = some (.ret (.sl (takeS s a b k).isEmpty 1 (il (takeS s a b k))) sg)
theorem wiS_ge {s : ByteArray} {a b : Int} (h : wiS s a b = true) : s.size = 480 ∧ 0 ≤ a ∧ a ≤ b ∧ b ≤ 3840 := of_decide_eq_true h
theorem low_ev (K : LowC C) (s : ByteArray) (a b k : Int) (sg : Sg) : evalF C N bitmap_Lowest.a [S s, I a, I b, I k] sg = some (.ret (.tup [.sl (lowS s a b k).isEmpty 1 (il (lowS s a b k)), I (lowC s a b k)]) sg) := by
  rw [bitmap_Lowest.main, K.within, withOut_ret, withB_at]
  cases hw : wiS s a b with
  | false => rw [if_neg (by simp)]; simp [lowS, lowC, hw]
  | true =>
    rw [if_pos (by simp)]
    by_cases hk : k < 0
    · rw [if_pos (by simpa using hk)]
      have e1 : lowS s a b k = [] := by rw [lowS, if_neg (by omega)]
      have e2 : lowC s a b k = 18 := by rw [lowC, if_neg (by omega)]
      rw [e1, e2]; rfl
    · have hl : (takeS s a b k).length = min k.toNat (freeS s (b - a).toNat a.toNat).length := by rw [takeS, List.length_take]
      rw [if_neg (by simpa using hk), K.free _ _ _ _ (wiS_ge hw).2, withOut_ret, withL1, il_len]
      by_cases hf : k ≤ (freeS s (b - a).toNat a.toNat).length
      · rw [if_neg (by simp; omega)]
        have e1 : lowS s a b k = takeS s a b k := by rw [lowS, if_pos ⟨hw, by omega, hf⟩]
        have e2 : lowC s a b k = 0 := by rw [lowC, if_pos ⟨hw, by omega⟩, if_pos hf]
        rw [e1, e2]
      · rw [if_pos (by simp; omega)]
        have e1 : lowS s a b k = [] := by rw [lowS, if_neg (by omega)]
        have e2 : lowC s a b k = 13 := by rw [lowC, if_pos ⟨hw, by omega⟩, if_neg hf]
        rw [e1, e2]; rfl
theorem rlow_ev (hw : ∀ s a b sg, C 42 [S s, I a, I b] sg = some (.ret (B (wiS s a b)) sg))
    (hf : ∀ (s : ByteArray) (a b : Int), (0 ≤ a ∧ a ≤ b ∧ b ≤ 3840) → ∀ sg, C 43 [S s, I a, I b] sg = some (.ret (.sl false 1 (il (freeS s (b - a).toNat a.toNat))) sg)) (s : ByteArray) (a b k : Int) (sg : Sg) :
    ∃ nn, evalF C N ref10_Lowest.a [S s, I a, I b, I k] sg = some (.ret (.tup [.sl nn 1 (il (lowS s a b k)), I (lowC s a b k)]) sg) := by
  rw [ref10_Lowest.main, hw, withOut_ret, withB_at]
  cases hwi : wiS s a b with
  | false => exact ⟨true, by rw [if_neg (by simp)]; simp [lowS, lowC, hwi]⟩
  | true =>
    rw [if_pos (by simp)]
    by_cases hk : k < 0
    · rw [if_pos (by simpa using hk)]
      have e1 : lowS s a b k = [] := by rw [lowS, if_neg (by omega)]
      have e2 : lowC s a b k = 18 := by rw [lowC, if_neg (by omega)]
      rw [e1, e2]; exact ⟨true, rfl⟩
    · rw [if_neg (by simpa using hk), hf _ _ _ (wiS_ge hwi).2, withOut_ret, withL1, il_len]
      by_cases hff : k ≤ (freeS s (b - a).toNat a.toNat).length
      · rw [if_neg (by simp; omega), if_pos ⟨by omega, by omega, hff⟩]
        have e1 : lowS s a b k = takeS s a b k := by rw [lowS, if_pos ⟨hwi, by omega, hff⟩]
        have e2 : lowC s a b k = 0 := by rw [lowC, if_pos ⟨hwi, by omega⟩, if_pos hff]
        rw [e1, e2]
        refine ⟨false, ?_⟩
        have : Int.toNat 0 = 0 := rfl
        simp only [this, List.drop_zero, Nat.sub_zero, takeS, il, List.map_take]
      · rw [if_pos (by simp; omega)]
        have e1 : lowS s a b k = [] := by rw [lowS, if_neg (by omega)]
        have e2 : lowC s a b k = 13 := by rw [lowC, if_pos ⟨hwi, by omega⟩, if_neg hff]
        rw [e1, e2]; exact ⟨true, rfl⟩

/-! ### Made used, or free -/
abbrev bx2 (s : ByteArray) (on : Bool) : Sg := [⟨[S s]⟩, ⟨[B on]⟩]
structure TurnC (C : CallF) : Prop extends SmallC C where
  used : ∀ s i sg, C 19 [S s, I i] sg = some (.ret (B (usedS s i)) sg)
  set : ∀ s i on sg, C 17 [S s, I i, B on] sg = some (.ret (.tup [S (setS s i on), I (codeS s i)]) sg)
  other : ∀ s i on, C 46 [I i, .gp 0 0, .gp 1 0] (bx2 s on) = some (.ret (B (if 0 ≤ i ∧ i < 3840 then usedS s i == on else true)) (bx2 s on))
theorem other_ev (K : SmallC C) (hu : ∀ s i sg, C 19 [S s, I i] sg = some (.ret (B (usedS s i)) sg)) (s : ByteArray) (i : Int) (on : Bool) :
    evalF C N bitmap_turn_1.a [I i, .gp 0 0, .gp 1 0] (bx2 s on) = some (.ret (B (if 0 ≤ i ∧ i < 3840 then usedS s i == on else true)) (bx2 s on)) := by
  rw [bitmap_turn_1.main, K.page, withOut_ret, withB_at]
  by_cases h : 0 ≤ i ∧ i < 3840
  · rw [if_pos (by simp [h]), hu, withOut_ret, withB_at, if_pos h]
    cases usedS s i <;> cases on <;> rfl
  · rw [if_neg (by simp [h]), if_neg h]
theorem turn_loop (K : TurnC C) (l : List Int) (hl : l.length < 1000000) (nn : Bool) (on : Bool) : ∀ (n M i : Nat) (s : ByteArray), i + n = l.length → n < M →
    ∃ sg', iter (bitmap_turn.R0 C N) M (mkS [3, 5, 8, 13, 14, 15] [Slot.v (.gp 0 0) false, Slot.v (.gp 1 0) false, Slot.v (.clo 46 [] [.gp 0 0, .gp 1 0]) false, Slot.v (.sl nn 1 (il l)) false, Slot.v (I l.length) false, Slot.v (I i) false] [none, none, none, none, none, none] (RVal.sg (bx2 s on))) (bitmap_turn.K0 C N) =
      some (.ret (.tup [S (turnS s (l.drop i) on).1, I (turnS s (l.drop i) on).2]) sg')
  | n, 0, i, s, _, h => by omega
  | 0, M + 1, i, s, hi, _ => by
    have e : l.drop i = [] := List.drop_of_length_le (by omega)
    rw [iter_succ, bitmap_turn.r0, if_neg (by simp; omega), thenK_e, bitmap_turn.k0_2, K.is, withOut_ret, withB_at, e]
    by_cases h : s.size = 480
    · rw [if_neg (by simp [h])]; simp only [turnS, if_pos h]; exact ⟨_, rfl⟩
    · rw [if_pos (by simp [h])]; simp only [turnS, if_neg h]; exact ⟨_, rfl⟩
  | n + 1, M + 1, i, s, hi, h => by
    have hil : i < l.length := by omega
    have w1 : IntKind.i64.wrap ((i : Int) + 1) = ((i + 1 : Nat) : Int) := by rw [i64_id (by omega)]; omega
    have ed : l.drop i = l[i] :: l.drop (i + 1) := List.drop_eq_getElem_cons hil
    have one : Nat.beq [I l[i]].length 1 = true := rfl
    rw [iter_succ, bitmap_turn.r0, if_pos (by simp; omega), if_pos (by omega), Int.toNat_natCast, il_get hil, withA_at]
    simp only [one, cond_true, List.getElem?_cons_zero, withI_at]
    rw [K.other, withOut_ret, withB_at, ed]
    by_cases hp : 0 ≤ l[i] ∧ l[i] < 3840
    · rw [if_pos hp]
      by_cases hu : usedS s l[i] = on
      · rw [if_pos (by simp [hu]), thenK_r, bitmap_turn.k0_1]
        simp only [turnS, if_neg (fun h : okI s l[i] = true ∧ usedS s l[i] ≠ on => h.2 hu)]
        exact ⟨_, rfl⟩
      · rw [if_neg (by simp [hu])]
        have g0 : (bx2 s on)[0]? = some ⟨[S s]⟩ := rfl
        have g1 : (bx2 s on)[1]? = some ⟨[B on]⟩ := rfl
        have e0 : List.isEmpty [S s] = false := rfl
        have e1 : List.isEmpty [B on] = false := rfl
        have e2 : Nat.beq [S (setS s l[i] on), I (codeS s l[i])].length 2 = true := rfl
        have e3 : Nat.ble 1 [S s].length = true := rfl
        simp only [g0, g1, withO_at, e0, e1, cond_false, List.getElem?_cons_zero, withS_at, withB_at, K.set, withOut_ret, withT_at, e2, cond_true, List.getElem?_cons_succ, withI_at, e3, bindL_eq]
        by_cases hs : okI s l[i] = true
        · have c0 : codeS s l[i] = 0 := by simp [codeS, hs]
          rw [c0, if_neg (by simp), thenK_n, w1]
          have e4 : (List.set (bx2 s on) 0 ⟨splice [S s] 0 [S (setS s l[i] on)]⟩) = bx2 (setS s l[i] on) on := rfl
          rw [e4]
          obtain ⟨sg', h'⟩ := turn_loop K l hl nn on n M (i + 1) (setS s l[i] on) (by omega) (by omega)
          refine ⟨sg', h'.trans ?_⟩
          simp only [turnS, if_pos (show okI s l[i] = true ∧ usedS s l[i] ≠ on from ⟨hs, hu⟩)]
        · have c0 : codeS s l[i] = 18 := by simp [codeS, hs]
          rw [c0, if_pos (by simp), thenK_r, bitmap_turn.k0_1]
          simp only [turnS, if_neg (fun h : okI s l[i] = true ∧ usedS s l[i] ≠ on => hs h.1)]
          exact ⟨_, rfl⟩
    · rw [if_neg hp, if_pos rfl, thenK_r, bitmap_turn.k0_1]
      have : ¬ (okI s l[i] = true ∧ usedS s l[i] ≠ on) := fun h => hp ((okI_nat (okI_size h.1) _).1 h.1)
      simp only [turnS, if_neg this]
      exact ⟨_, rfl⟩
theorem turn_ev (K : TurnC C) (s : ByteArray) (l : List Int) (hl : l.length < 1000000) (hN : 1000000 < N) (nn : Bool) (on : Bool) :
    ∃ sg', evalF C N bitmap_turn.a [S s, .sl nn 1 (il l), B on] [] = some (.ret (.tup [S (turnS s l on).1, I (turnS s l on).2]) sg') := by
  rw [bitmap_turn.main, il_len]
  exact turn_loop K l hl nn on l.length N 0 s (by omega) (by omega)
def TurnOK (C : CallF) : Prop := ∀ (s : ByteArray) (l : List Int), l.length < 1000000 → ∀ (nn on : Bool), ∃ sg', C 44 [S s, .sl nn 1 (il l), B on] [] = some (.ret (.tup [S (turnS s l on).1, I (turnS s l on).2]) sg')
theorem give_ev (K : TurnOK C) (s : ByteArray) (l : List Int) (hl : l.length < 1000000) (nn : Bool) (sg : Sg) :
    evalF C N bitmap_Give.a [S s, .sl nn 1 (il l)] sg = some (.ret (.tup [S (turnS s l false).1, I (turnS s l false).2]) sg) := by
  obtain ⟨sg', h⟩ := K s l hl nn false
  have e2 : Nat.beq [S (turnS s l false).1, I (turnS s l false).2].length 2 = true := rfl
  have e3 : noGs [S s, AVal.sl nn 1 (il l), B false] = true := by
    have := noGs_il l
    simp only [noGs, noG, this, Bool.and_self]
  rw [bitmap_Give.main, h, e3]
  simp only [withOut_ret, withT_at, e2, cond_true, List.getElem?_cons_zero, List.getElem?_cons_succ, withS_at, withI_at]

/-! What is taken. -/
def takeB (s : ByteArray) (a b k : Int) : ByteArray := if lowC s a b k = 0 then allS s (lowS s a b k) true else ⟨#[]⟩
theorem low_ok {s : ByteArray} {a b k : Int} (h : lowC s a b k = 0) : wiS s a b = true ∧ 0 ≤ k ∧ k ≤ (freeS s (b - a).toNat a.toNat).length ∧ lowS s a b k = takeS s a b k := by
  unfold lowC at h
  split at h
  · rename_i h1
    split at h
    · rename_i h2; exact ⟨h1.1, h1.2, h2, by rw [lowS, if_pos ⟨h1.1, h1.2, h2⟩]⟩
    · cases h
  · cases h
theorem mem_low {s : ByteArray} {a b k : Int} (h : lowC s a b k = 0) {x : Int} (hx : x ∈ lowS s a b k) : a ≤ x ∧ x < b ∧ (0 ≤ x ∧ x < 3840) ∧ usedS s x = false := by
  obtain ⟨h1, h2, h3, h4⟩ := low_ok h
  obtain ⟨s1, s2, s3, s4⟩ := wiS_ge h1
  rw [h4, takeS] at hx
  obtain ⟨j, rfl, j1, j2, j3⟩ := mem_free.1 (List.mem_of_mem_take hx)
  exact ⟨by omega, by omega, by omega, j3⟩
theorem low_sorted (s : ByteArray) (a b k : Int) : (lowS s a b k).Pairwise (· < ·) := by
  unfold lowS
  split
  · exact (free_sorted s _ _).take
  · exact .nil
theorem low_turn {s : ByteArray} {a b k : Int} (h : lowC s a b k = 0) : turnS s (lowS s a b k) true = (takeB s a b k, 0) := by
  rw [takeB, if_pos h]
  refine (turn_eq _ _ _).1 ⟨(wiS_ge (low_ok h).1).1, fun x hx => ?_, nodup_of_sorted (low_sorted s a b k)⟩
  obtain ⟨_, _, h3, h4⟩ := mem_low h hx
  exact ⟨h3, by simp [h4]⟩
theorem low_bad {s : ByteArray} {a b k : Int} (h : lowC s a b k ≠ 0) : lowS s a b k = [] := by
  rw [lowS, if_neg]
  rintro ⟨h1, h2, h3⟩
  exact h (by rw [lowC, if_pos ⟨h1, h2⟩, if_pos h3])
theorem low_length {s : ByteArray} {a b k : Int} : (lowS s a b k).length ≤ 3840 := by
  by_cases h : lowC s a b k = 0
  · obtain ⟨h1, h2, h3, h4⟩ := low_ok h
    obtain ⟨s1, s2, s3, s4⟩ := wiS_ge h1
    have := free_len s (b - a).toNat a.toNat
    rw [h4, takeS, List.length_take]; omega
  · rw [low_bad h]; simp
theorem take_ev (hL : ∀ s a b k sg, C 23 [S s, I a, I b, I k] sg = some (.ret (.tup [.sl (lowS s a b k).isEmpty 1 (il (lowS s a b k)), I (lowC s a b k)]) sg)) (K : TurnOK C) (s : ByteArray) (a b k : Int) (sg : Sg) :
    evalF C N bitmap_Take.a [S s, I a, I b, I k] sg = some (.ret (.tup [.sl (lowS s a b k).isEmpty 1 (il (lowS s a b k)), S (takeB s a b k), I (lowC s a b k)]) sg) := by
  have e0 : Nat.beq [AVal.sl (lowS s a b k).isEmpty 1 (il (lowS s a b k)), I (lowC s a b k)].length 2 = true := rfl
  rw [bitmap_Take.main, hL, withOut_ret, withT_at, e0]
  simp only [cond_true, List.getElem?_cons_zero, List.getElem?_cons_succ, withL1, withI_at]
  by_cases h : lowC s a b k = 0
  · rw [if_neg (by simp [h])]
    obtain ⟨sg', hT⟩ := K s (lowS s a b k) (by have := @low_length s a b k; omega) (lowS s a b k).isEmpty true
    have e3 : noGs [S s, AVal.sl (lowS s a b k).isEmpty 1 (il (lowS s a b k)), B true] = true := by
      have := noGs_il (lowS s a b k)
      simp only [noGs, noG, this, Bool.and_self]
    have e2 : ∀ x y : AVal, Nat.beq [x, y].length 2 = true := fun _ _ => rfl
    rw [e3, hT, low_turn h]
    simp only [withOut_ret, withT_at, e2, cond_true, List.getElem?_cons_zero, List.getElem?_cons_succ, withS_at, withI_at, h]
  · rw [if_pos (by simpa using h), low_bad h, takeB, if_neg h]; rfl
end Go.Abs
