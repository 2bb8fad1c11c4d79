/- THE BITMAP: the reference's Give, All, Same; BitmapTakes. -/
import Derived.Test.YtafmbianlodemaaBitS
namespace Go.Abs
set_option linter.unusedSectionVars false
set_option linter.unusedSimpArgs false
set_option linter.unusedVariables false
variable {C : CallF} {N : Nat}

theorem rall_loop (hs : ∀ s i on sg, C 18 [S s, I i, B on] sg = some (.ret (.tup [S (setS s i on), I (codeS s i)]) sg)) (l : List Int) (hl : l.length < 1000000) (nn on : Bool) (sg : Sg) : ∀ (n M i : Nat) (s : ByteArray), i + n = l.length → n < M →
    iter (ref10_All.R0 C N) M (mkS [0, 1, 2, 7] [Slot.v (S s) false, Slot.v (.sl nn 1 (il l)) false, Slot.v (B on) false, Slot.v (I i) false] [none, none, none, none] (RVal.sg sg)) (ref10_All.K0 C N) =
      some (.ret (S (allS s (l.drop i) on)) sg)
  | n, 0, i, s, _, h => by omega
  | 0, M + 1, i, s, hi, _ => by
    have e : l.drop i = [] := List.drop_of_length_le (by omega)
    rw [iter_succ, ref10_All.r0, il_len, if_neg (by simp; omega), thenK_e, ref10_All.k0_1, e]; rfl
  | n + 1, M + 1, i, s, hi, h => by
    have hil : i < l.length := by omega
    have w1 : IntKind.i64.wrap ((i : Int) + 1) = ((i + 1 : Nat) : Int) := by rw [i64_id (by omega)]; omega
    have ed : l.drop i = l[i] :: l.drop (i + 1) := List.drop_eq_getElem_cons hil
    have one : Nat.beq [I l[i]].length 1 = true := rfl
    have e2 : ∀ x y : AVal, Nat.beq [x, y].length 2 = true := fun _ _ => rfl
    rw [iter_succ, ref10_All.r0, il_len, if_pos (by simp; omega), if_pos (by omega), Int.toNat_natCast, il_get hil, withA_at]
    simp only [one, cond_true, List.getElem?_cons_zero, List.getElem?_cons_succ, withI_at, hs, withOut_ret, withT_at, e2, withS_at]
    rw [thenK_n, w1, rall_loop hs l hl nn on sg n M (i + 1) _ (by omega) (by omega), ed]; rfl
theorem rall_ev (hs : ∀ s i on sg, C 18 [S s, I i, B on] sg = some (.ret (.tup [S (setS s i on), I (codeS s i)]) sg)) (hN : 1000000 < N) (s : ByteArray) (l : List Int) (hl : l.length < 1000000) (nn on : Bool) (sg : Sg) :
    evalF C N ref10_All.a [S s, .sl nn 1 (il l), B on] sg = some (.ret (S (allS s l on)) sg) := by
  rw [ref10_All.main]
  exact rall_loop hs l hl nn on sg l.length N 0 s (by omega) (by omega)

theorem same_loop (l : List Int) (hl : l.length < 1000000) (n1 n2 : Bool) (sg : Sg) : ∀ (n M i : Nat), i + n = l.length → n < M →
    iter (ref10_Same.R0 C N) M (mkS [0, 1, 5] [Slot.v (.sl n1 1 (il l)) false, Slot.v (.sl n2 1 (il l)) false, Slot.v (I i) false] [none, none, none] (RVal.sg sg)) (ref10_Same.K0 C N) = some (.ret (B true) sg)
  | n, 0, i, _, h => by omega
  | 0, M + 1, i, hi, _ => by
    rw [iter_succ, ref10_Same.r0, il_len, if_neg (by simp; omega), thenK_e, ref10_Same.k0_2]
  | n + 1, M + 1, i, hi, h => by
    have hil : i < l.length := by omega
    have w1 : IntKind.i64.wrap ((i : Int) + 1) = ((i + 1 : Nat) : Int) := by rw [i64_id (by omega)]; omega
    have one : Nat.beq [I l[i]].length 1 = true := rfl
    rw [iter_succ, ref10_Same.r0, il_len, if_pos (by simp; omega), if_pos (by omega), Int.toNat_natCast, il_get hil, withA_at]
    simp only [one, cond_true, List.getElem?_cons_zero, withI_at]
    rw [if_pos (by omega), withA_at]
    simp only [one, cond_true, List.getElem?_cons_zero, withI_at]
    rw [if_neg (by simp), thenK_n, w1, same_loop l hl n1 n2 sg n M (i + 1) (by omega) (by omega)]
theorem same_ev (hN : 1000000 < N) (l : List Int) (hl : l.length < 1000000) (n1 n2 : Bool) (sg : Sg) : evalF C N ref10_Same.a [.sl n1 1 (il l), .sl n2 1 (il l)] sg = some (.ret (B true) sg) := by
  rw [ref10_Same.main, if_neg (by simp)]
  exact same_loop l hl n1 n2 sg l.length N 0 (by omega) (by omega)

/-! The reference's Give. -/
abbrev gOut (sg : Sg) : St := mkS [4, 5] [Slot.v (S ⟨#[]⟩) false, Slot.v (I 18) false] [none, none] (RVal.sg sg)
theorem rgive_in (l : List Int) (hl : l.length < 1000000) (s : ByteArray) (nn : Bool) (sg : Sg) (i : Nat) (hi : i < l.length) (k : Ex → St → R) : ∀ (n M q : Nat), q + n = i → n < M →
    ((∀ j, q ≤ j → (hj : j < i) → l[j] ≠ l[i]) → iter (ref10_Give.R1 C N) M (mkS [0, 1, 6, 7] [Slot.v (S s) false, Slot.v (.sl nn 1 (il l)) false, Slot.v (I i) false, Slot.v (I q) false] [none, none, none, none] (RVal.sg sg)) k =
      k (.exit 2) (mkS [0, 1, 6] [Slot.v (S s) false, Slot.v (.sl nn 1 (il l)) false, Slot.v (I i) false] [none, none, none] (RVal.sg sg))) ∧
    (¬ (∀ j, q ≤ j → (hj : j < i) → l[j] ≠ l[i]) → iter (ref10_Give.R1 C N) M (mkS [0, 1, 6, 7] [Slot.v (S s) false, Slot.v (.sl nn 1 (il l)) false, Slot.v (I i) false, Slot.v (I q) false] [none, none, none, none] (RVal.sg sg)) k =
      k .ret (gOut sg))
  | n, 0, q, _, h => by omega
  | 0, M + 1, q, hq, _ => by
    refine ⟨fun _ => ?_, fun h => absurd (fun j h1 h2 => by omega) h⟩
    rw [iter_succ, ref10_Give.r1, if_neg (by simp; omega), thenK_e]
  | n + 1, M + 1, q, hq, h => by
    have hql : q < l.length := by omega
    have w1 : IntKind.i64.wrap ((q : Int) + 1) = ((q + 1 : Nat) : Int) := by rw [i64_id (by omega)]; omega
    have one : ∀ x, Nat.beq [I x].length 1 = true := fun _ => rfl
    obtain ⟨ih1, ih2⟩ := rgive_in l hl s nn sg i hi k n M (q + 1) (by omega) (by omega)
    rw [iter_succ, ref10_Give.r1, if_pos (by simp; omega), if_pos (by omega), Int.toNat_natCast, il_get hql, withA_at]
    simp only [one, cond_true, List.getElem?_cons_zero, withI_at]
    rw [if_pos (by omega), Int.toNat_natCast, il_get hi, withA_at]
    simp only [one, cond_true, List.getElem?_cons_zero, withI_at]
    by_cases he : l[q] = l[i]
    · rw [if_pos (by simp [he]), thenK_r]
      exact ⟨fun h => absurd he (h q (by omega) (by omega)), fun _ => rfl⟩
    · rw [if_neg (by simpa using he), thenK_n, w1]
      refine ⟨fun h => ih1 fun j h1 h2 => h j (by omega) h2, fun h => ih2 fun h' => h fun j h1 h2 => ?_⟩
      by_cases e : j = q
      · subst e; exact he
      · exact h' j (by omega) h2
structure RgiveC (C : CallF) : Prop where
  used : ∀ s i sg, C 20 [S s, I i] sg = some (.ret (B (usedS s i)) sg)
  all : ∀ (s : ByteArray) (l : List Int), l.length < 1000000 → ∀ nn on sg, C 28 [S s, .sl nn 1 (il l), B on] sg = some (.ret (S (allS s l on)) sg)
theorem rgive_loop (K : RgiveC C) (hN : 1000000 < N) (l : List Int) (hl : l.length < 1000000) {s : ByteArray} (hs : s.size = 480) (nn : Bool) (sg : Sg) : ∀ (n M i : Nat), i + n = l.length → n < M → (∀ x ∈ l.take i, usedS s x = true) → (l.take i).Nodup →
    iter (ref10_Give.R0 C N) M (mkS [0, 1, 6] [Slot.v (S s) false, Slot.v (.sl nn 1 (il l)) false, Slot.v (I i) false] [none, none, none] (RVal.sg sg)) (ref10_Give.K0 C N) =
      some (.ret (.tup [S (turnS s l false).1, I (turnS s l false).2]) sg)
  | n, 0, i, _, h, _, _ => by omega
  | 0, M + 1, i, hi, _, h1, h2 => by
    have e : l.take i = l := List.take_of_length_le (by omega)
    rw [e] at h1 h2
    have ht : turnable s l false := ⟨hs, fun x hx => by
      have := h1 x hx
      refine ⟨?_, by simp [this]⟩
      simp only [usedS, Bool.and_eq_true] at this
      exact (okI_nat hs x).1 this.1, h2⟩
    rw [iter_succ, ref10_Give.r0, il_len, if_neg (by simp; omega), thenK_e, ref10_Give.k0_2, K.all _ _ hl, withOut_ret, withS_at, (turn_eq l s false).1 ht]
  | n + 1, M + 1, i, hi, h, h1, h2 => by
    have hil : i < l.length := by omega
    have w1 : IntKind.i64.wrap ((i : Int) + 1) = ((i + 1 : Nat) : Int) := by rw [i64_id (by omega)]; omega
    have one : Nat.beq [I l[i]].length 1 = true := rfl
    rw [iter_succ, ref10_Give.r0, il_len, if_pos (by simp; omega), if_pos (by omega), Int.toNat_natCast, il_get hil, withA_at]
    simp only [one, cond_true, List.getElem?_cons_zero, withI_at, K.used, withOut_ret, withB_at]
    cases hu : usedS s l[i] with
    | false =>
      rw [if_pos (by simp), thenK_r, ref10_Give.k0_1, (turn_eq l s false).2]
      exact fun ht => (ht.2.1 l[i] (List.getElem_mem hil)).2 hu
    | true =>
      obtain ⟨a1, a2⟩ := rgive_in (C := C) (N := N) l hl s nn sg i hil (ref10_Give.K1 C N (thenK (fun st => iter (ref10_Give.R0 C N) M st (ref10_Give.K0 C N)) (ref10_Give.K0 C N))) i N 0 (by omega) (by omega)
      rw [if_neg (by simp)]
      by_cases hd : ∀ j, 0 ≤ j → (hj : j < i) → l[j] ≠ l[i]
      · have a1 := a1 hd
        rw [show ((0 : Nat) : Int) = 0 from rfl] at a1
        rw [a1, ref10_Give.k1_2, thenK_n, w1]
        have et : l.take (i + 1) = l.take i ++ [l[i]] := by rw [List.take_add_one, List.getElem?_eq_getElem hil]; rfl
        refine rgive_loop K hN l hl hs nn sg n M (i + 1) (by omega) (by omega) ?_ ?_
        · rw [et]
          intro x hx
          rcases List.mem_append.1 hx with hx | hx
          · exact h1 x hx
          · simp at hx; subst hx; exact hu
        · rw [et, List.nodup_append]
          refine ⟨h2, by simp, fun x hx y hy => ?_⟩
          simp at hy
          subst hy
          obtain ⟨j, hj, rfl⟩ := List.mem_take_iff_getElem.1 hx
          exact hd j (by omega) (by omega)
      · have a2 := a2 hd
        rw [show ((0 : Nat) : Int) = 0 from rfl] at a2
        rw [a2, ref10_Give.k1_1, thenK_r, ref10_Give.k0_1, (turn_eq l s false).2]
        intro ht
        apply hd
        intro j _ hj
        exact List.pairwise_iff_getElem.1 ht.2.2 j i (by omega) hil hj
theorem rgive_ev (K : RgiveC C) (hN : 1000000 < N) (s : ByteArray) (l : List Int) (hl : l.length < 1000000) (nn : Bool) (sg : Sg) :
    evalF C N ref10_Give.a [S s, .sl nn 1 (il l)] sg = some (.ret (.tup [S (turnS s l false).1, I (turnS s l false).2]) sg) := by
  rw [ref10_Give.main]
  by_cases hs : s.size = 480
  · rw [if_neg (by simp [hs])]
    exact rgive_loop K hN l hl hs nn sg l.length N 0 (by omega) (by omega) (by simp) (by simp)
  · rw [if_pos (by simp; omega), (turn_eq l s false).2 fun h => hs h.1]

/-! ### The law -/
structure TakesC (C : CallF) : Prop where
  lives : ∃ sg, C 16 [] [] = some (.ret (B true) sg)
  low : ∀ s a b k sg, C 23 [S s, I a, I b, I k] sg = some (.ret (.tup [.sl (lowS s a b k).isEmpty 1 (il (lowS s a b k)), I (lowC s a b k)]) sg)
  rlow : ∀ s a b k sg, ∃ nn, C 24 [S s, I a, I b, I k] sg = some (.ret (.tup [.sl nn 1 (il (lowS s a b k)), I (lowC s a b k)]) sg)
  take : ∀ s a b k sg, C 25 [S s, I a, I b, I k] sg = some (.ret (.tup [.sl (lowS s a b k).isEmpty 1 (il (lowS s a b k)), S (takeB s a b k), I (lowC s a b k)]) sg)
  give : ∀ (s : ByteArray) (l : List Int), l.length < 1000000 → ∀ nn sg, C 26 [S s, .sl nn 1 (il l)] sg = some (.ret (.tup [S (turnS s l false).1, I (turnS s l false).2]) sg)
  rgive : ∀ (s : ByteArray) (l : List Int), l.length < 1000000 → ∀ nn sg, C 27 [S s, .sl nn 1 (il l)] sg = some (.ret (.tup [S (turnS s l false).1, I (turnS s l false).2]) sg)
  all : ∀ (s : ByteArray) (l : List Int), l.length < 1000000 → ∀ nn on sg, C 28 [S s, .sl nn 1 (il l), B on] sg = some (.ret (S (allS s l on)) sg)
  same : ∀ (l : List Int), l.length < 1000000 → ∀ n1 n2 sg, C 29 [.sl n1 1 (il l), .sl n2 1 (il l)] sg = some (.ret (B true) sg)
  spans : ∀ (s : ByteArray) (a b : Int), ∃ v sg', C 30 [S s, I a, I b] [] = some (.ret v sg') ∧ ∃ nn, thaw 8 sg' v = some (.sl nn 2 (pl (if wiS s a b = true then runs (freeS s (b - a).toNat a.toNat) else [])))
  rspans : ∀ (s : ByteArray) (a b : Int) (sg : Sg), C 31 [S s, I a, I b] sg = some (.ret (.sl false 2 (pl (if wiS s a b = true then runs (freeS s (b - a).toNat a.toNat) else []))) sg)
theorem pl_get {l : List (Int × Int)} {i : Nat} (h : i < l.length) : (pl l)[i]? = some (.agg [I l[i].1, I l[i].2]) := by
  unfold pl
  rw [List.getElem?_map, List.getElem?_eq_getElem h]; rfl
theorem takes_loop (hv : ∃ sg, C 16 [] [] = some (.ret (B true) sg)) (l : List (Int × Int)) (hl : l.length < 1000000) (n1 n2 : Bool) (sg : Sg) : ∀ (n M i : Nat), i + n = l.length → n < M →
    iter (law10_BitmapTakes.R0 C N) M (mkS [23, 24, 126, 127] [Slot.v (.sl n1 2 (pl l)) false, Slot.v (.sl n2 2 (pl l)) false, Slot.v (I l.length) false, Slot.v (I i) false] [none, none, none, none] (RVal.sg sg)) (law10_BitmapTakes.K0 C N) = some (.ret (B true) sg)
  | n, 0, i, _, h => by omega
  | 0, M + 1, i, hi, _ => by
    obtain ⟨sgl, hv⟩ := hv
    rw [iter_succ, law10_BitmapTakes.r0, if_neg (by simp; omega), thenK_e, law10_BitmapTakes.k0_2, hv, withOut_ret, withB_at]
  | n + 1, M + 1, i, hi, h => by
    have hil : i < l.length := by omega
    have w1 : IntKind.i64.wrap ((i : Int) + 1) = ((i + 1 : Nat) : Int) := by rw [i64_id (by omega)]; omega
    have two : Nat.beq [I l[i].1, I l[i].2].length 2 = true := rfl
    have le2 : Nat.ble 2 [I l[i].1, I l[i].2].length = true := rfl
    have tk : List.take 2 (List.drop 0 [I l[i].1, I l[i].2]) = [I l[i].1, I l[i].2] := rfl
    have ce : cellsEq [CK.int IntKind.i64, CK.int IntKind.i64] [I l[i].1, I l[i].2] [I l[i].1, I l[i].2] = some true := by
      simp [cellsEq, scalEq, kEq]
    have wa : ∀ {α : Type} (cs : List AVal) (c : AVal → Option α), withA (some (.agg cs)) c = c (.agg cs) := fun _ _ => rfl
    rw [iter_succ, law10_BitmapTakes.r0, if_pos (by simp; omega), if_pos (by omega), Int.toNat_natCast, pl_get hil, wa]
    simp only [two, le2, cond_true, tk, bindL_eq]
    rw [if_pos (by omega), wa]
    simp only [two, le2, cond_true, tk, bindL_eq, ce, withO_at]
    rw [if_neg (by simp), thenK_n, w1, takes_loop hv l hl n1 n2 sg n M (i + 1) (by omega) (by omega)]
theorem takes_ev (K : TakesC C) (hN : 1000000 < N) (s : ByteArray) (a b k : Int) (nn : Bool) (l : List Int) (sg : Sg) : evalF C N law10_BitmapTakes.a [S s, I a, I b, I k, .sl nn 1 (il l)] sg = some (.ret (B true) sg) := by
  obtain ⟨sgl, hv⟩ := K.lives
  rw [law10_BitmapTakes.main, il_len]
  by_cases h1 : (s.size : Int) > 4096
  · rw [if_neg (by simpa using h1), hv, withOut_ret, withB_at]
  rw [if_pos (by simpa using h1)]
  by_cases h2 : (l.length : Int) > 100
  · rw [if_pos (by simpa using h2), hv, withOut_ret, withB_at]
  rw [if_neg (by simpa using h2)]
  have e3 : ∀ x y z : AVal, Nat.beq [x, y, z].length 3 = true := fun _ _ _ => rfl
  have e2 : ∀ x y : AVal, Nat.beq [x, y].length 2 = true := fun _ _ => rfl
  have g2 : ∀ (n : Bool) (l : List Int) (x : Int), noG (.tup [.sl n 1 (il l), I x]) = true := fun n l x => by simp only [noG, noGs, noGs_il, Bool.and_self]
  have g3 : ∀ (n : Bool) (l : List Int) (t : ByteArray) (x : Int), noG (.tup [.sl n 1 (il l), S t, I x]) = true := fun n l t x => by simp only [noG, noGs, noGs_il, Bool.and_self]
  have g4 : ∀ (n : Bool) (l : List Int), noGs [S s, .sl n 1 (il l)] = true := fun n l => by simp only [noG, noGs, noGs_il, Bool.and_self]
  have g5 : ∀ (n : Bool) (l : List Int) (o : Bool), noGs [S s, .sl n 1 (il l), B o] = true := fun n l o => by simp only [noG, noGs, noGs_il, Bool.and_self]
  have g6 : ∀ (n : Bool) (l : List Int) (n' : Bool) (l' : List Int), noGs [.sl n 1 (il l), .sl n' 1 (il l')] = true := fun n l n' l' => by simp only [noG, noGs, noGs_il, Bool.and_self]
  have g7 : ∀ (n : Bool) (l : List (Int × Int)), noG (.sl n 2 (pl l)) = true := fun n l => by simp only [noG, noGs_pl]
  have wL2 : ∀ {α : Type} (nn : Bool) (l : List AVal) (c : Bool → List AVal → Option α), withL 2 (some (.sl nn 2 l)) c = c nn l := fun _ _ _ => rfl
  obtain ⟨nn2, hr⟩ := K.rlow s a b k []
  obtain ⟨v, sg', hsp, nn3, hth⟩ := K.spans s a b
  have hlow : (lowS s a b k).length < 1000000 := by have := @low_length s a b k; omega
  have hruns : (if wiS s a b = true then runs (freeS s (b - a).toNat a.toNat) else []).length < 1000000 := by
    split
    · rename_i hw
      obtain ⟨c1, c2, c3, c4⟩ := wiS_ge hw
      have c5 := runs_len (freeS s (b - a).toNat a.toNat)
      have c6 := free_len s (b - a).toNat a.toNat
      omega
    · simp
  rw [K.low, withOut_ret, withT_at]
  simp only [e2, cond_true, List.getElem?_cons_zero, List.getElem?_cons_succ, withL1, withI_at, g2]
  rw [hr, withOut_ret, withT_at]
  simp only [e2, cond_true, List.getElem?_cons_zero, List.getElem?_cons_succ, withL1, withI_at, g2]
  rw [K.take, withOut_ret, withT_at]
  simp only [e3, cond_true, List.getElem?_cons_zero, List.getElem?_cons_succ, withL1, withS_at, withI_at, g3, g4]
  rw [K.give _ _ (by omega), withOut_ret, withT_at]
  simp only [e2, cond_true, List.getElem?_cons_zero, List.getElem?_cons_succ, withS_at, withI_at, g4]
  rw [K.rgive _ _ (by omega), withOut_ret, withT_at]
  simp only [e2, cond_true, List.getElem?_cons_zero, List.getElem?_cons_succ, withS_at, withI_at]
  have hloop : ∀ n1 : Bool, iter (law10_BitmapTakes.R0 C N) N (mkS [23, 24, 126, 127] [Slot.v (.sl n1 2 (pl (if wiS s a b = true then runs (freeS s (b - a).toNat a.toNat) else []))) false, Slot.v (.sl false 2 (pl (if wiS s a b = true then runs (freeS s (b - a).toNat a.toNat) else []))) false, Slot.v (I (if wiS s a b = true then runs (freeS s (b - a).toNat a.toNat) else []).length) false, Slot.v (I 0) false] [none, none, none, none] (RVal.sg sg)) (law10_BitmapTakes.K0 C N) = some (.ret (B true) sg) := fun n1 =>
    takes_loop (N := N) K.lives _ hruns n1 false sg _ N 0 (Nat.zero_add _) (by omega)
  by_cases h : lowC s a b k = 0
  · have hB : takeB s a b k = allS s (lowS s a b k) true := by rw [takeB, if_pos h]
    rw [if_pos (by simp [h]), g5, cond_true, K.all _ _ hlow, withOut_ret, withS_at, g6, cond_true, K.same _ hlow, withOut_ret, withB_at]
    simp only [hB, Bool.not_true, if_true, bne_self_eq_false, g6, cond_true, K.same _ hlow, withOut_ret, withB_at, beq_self_eq_true, Bool.false_eq_true, if_false]
    rw [hsp, withOut_ret, hth, withO_at, wL2, g7, cond_true, K.rspans, withOut_ret, wL2, g7, cond_true, pl_len, if_neg (by simp)]
    exact hloop nn3
  · have hB : takeB s a b k = ⟨#[]⟩ := by rw [takeB, if_neg h]
    rw [if_neg (by simpa using h), g6, cond_true, K.same _ hlow, withOut_ret, withB_at]
    simp only [hB, Bool.not_true, if_true, bne_self_eq_false, g6, cond_true, K.same _ hlow, withOut_ret, withB_at, beq_self_eq_true, Bool.false_eq_true, if_false]
    rw [hsp, withOut_ret, hth, withO_at, wL2, g7, cond_true, K.rspans, withOut_ret, wL2, g7, cond_true, pl_len, if_neg (by simp)]
    exact hloop nn3

/-! ### The table's -/
theorem t42 (d : Nat) (s : ByteArray) (a b : Int) (sg : Sg) : tab (d + 1) 42 [S s, I a, I b] sg = some (.ret (B (wiS s a b)) sg) := by
  rw [tab_at (af := ref10_Within.a) rfl]; exact rwithin_ev s a b sg
theorem t43 (d : Nat) (s : ByteArray) (a b : Int) (h : 0 ≤ a ∧ a ≤ b ∧ b ≤ 3840) (sg : Sg) : tab (d + 2) 43 [S s, I a, I b] sg = some (.ret (.sl false 1 (il (freeS s (b - a).toNat a.toNat))) sg) := by
  rw [tab_at (af := ref10_Free.a) rfl]; exact rfree_ev (t20 d) h (by have := NN_big; omega) sg
theorem t24 (d : Nat) (s : ByteArray) (a b k : Int) (sg : Sg) : ∃ nn, tab (d + 3) 24 [S s, I a, I b, I k] sg = some (.ret (.tup [.sl nn 1 (il (lowS s a b k)), I (lowC s a b k)]) sg) := by
  rw [tab_at (af := ref10_Lowest.a) rfl]; exact rlow_ev (t42 (d + 1)) (t43 d) s a b k sg
theorem t28 (d : Nat) (s : ByteArray) (l : List Int) (hl : l.length < 1000000) (nn on : Bool) (sg : Sg) : tab (d + 3) 28 [S s, .sl nn 1 (il l), B on] sg = some (.ret (S (allS s l on)) sg) := by
  rw [tab_at (af := ref10_All.a) rfl]; exact rall_ev (t18 d) NN_big s l hl nn on sg
theorem t27 (d : Nat) (s : ByteArray) (l : List Int) (hl : l.length < 1000000) (nn : Bool) (sg : Sg) : tab (d + 4) 27 [S s, .sl nn 1 (il l)] sg = some (.ret (.tup [S (turnS s l false).1, I (turnS s l false).2]) sg) := by
  rw [tab_at (af := ref10_Give.a) rfl]; exact rgive_ev ⟨t20 (d + 2), t28 d⟩ NN_big s l hl nn sg
theorem t29 (d : Nat) (l : List Int) (hl : l.length < 1000000) (n1 n2 : Bool) (sg : Sg) : tab (d + 1) 29 [.sl n1 1 (il l), .sl n2 1 (il l)] sg = some (.ret (B true) sg) := by
  rw [tab_at (af := ref10_Same.a) rfl]; exact same_ev NN_big l hl n1 n2 sg
theorem t45 (d : Nat) (g n : Nat) (sg : Sg) : tab (d + 1) 45 [.gs g 2 0 n] sg = some (.ret (.gs g 2 0 n) sg) := by
  rw [tab_at (af := slices_Clip_2int_2int.a) rfl]; exact clip_gs g n sg
theorem t45n (d : Nat) (sg : Sg) : tab (d + 1) 45 [.sl true 2 []] sg = some (.ret (.sl true 2 []) sg) := by
  rw [tab_at (af := slices_Clip_2int_2int.a) rfl]; exact clip_sl sg
theorem t30 (d : Nat) (s : ByteArray) (a b : Int) : ∃ v sg', tab (d + 4) 30 [S s, I a, I b] [] = some (.ret v sg') ∧ ∃ nn, thaw 8 sg' v = some (.sl nn 2 (pl (if wiS s a b = true then runs (freeS s (b - a).toNat a.toNat) else []))) := by
  rw [tab_at (af := bitmap_Spans.a) rfl]; exact spans_ev ⟨⟨t40 (d + 1), t41 d⟩, t45 (d + 2), t45n (d + 2)⟩ (by have := NN_big; omega) s a b
theorem t31 (d : Nat) (s : ByteArray) (a b : Int) (sg : Sg) : tab (d + 2) 31 [S s, I a, I b] sg = some (.ret (.sl false 2 (pl (if wiS s a b = true then runs (freeS s (b - a).toNat a.toNat) else []))) sg) := by
  rw [tab_at (af := ref10_Spans.a) rfl]; exact rspans_ev (t42 d) (t20 d) (by have := NN_big; omega) s a b sg
theorem t7 (s : ByteArray) (a b k : Int) (nn : Bool) (l : List Int) (sg : Sg) : tab 9 7 [S s, I a, I b, I k, .sl nn 1 (il l)] sg = some (.ret (B true) sg) := by
  rw [tab_at (af := law10_BitmapTakes.a) rfl]
  exact takes_ev ⟨lives10, t23 4, t24 5, t25 3, t26 3, t27 4, t28 5, t29 7, t30 4, t31 6⟩ NN_big s a b k nn l sg
end Go.Abs
