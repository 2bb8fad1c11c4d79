/- THE BITMAP: BitmapBack: there and back. -/
import Derived.Test.YtafmbianlodemaaBitF
import Derived.Test.YtafmbianlodemaaBitT
namespace Go.Abs
set_option linter.unusedSectionVars false
set_option linter.unusedSimpArgs false
set_option linter.unusedVariables false

theorem t40 (d : Nat) (s : ByteArray) (a b : Int) (sg : Sg) : tab (d + 2) 40 [S s, I a, I b] sg = some (.ret (B (wiS s a b)) sg) := by
  rw [tab_at (af := bitmap_within.a) rfl]; exact within_ev (smallC d) s a b sg
theorem t41 (d : Nat) (s : ByteArray) (a b k : Int) (h : 0 ≤ a ∧ a ≤ b ∧ b ≤ 3840) (sg : Sg) : tab (d + 3) 41 [S s, I a, I b, I k] sg = some (.ret (.sl (takeS s a b k).isEmpty 1 (il (takeS s a b k))) sg) := by
  rw [tab_at (af := bitmap_free.a) rfl]; exact free_ev (t19 d) k h (by have := NN_big; omega) sg
theorem t23 (d : Nat) (s : ByteArray) (a b k : Int) (sg : Sg) : tab (d + 4) 23 [S s, I a, I b, I k] sg = some (.ret (.tup [.sl (lowS s a b k).isEmpty 1 (il (lowS s a b k)), I (lowC s a b k)]) sg) := by
  rw [tab_at (af := bitmap_Lowest.a) rfl]; exact low_ev ⟨t40 (d + 1), t41 d⟩ s a b k sg
theorem t46 (d : Nat) (s : ByteArray) (i : Int) (on : Bool) : tab (d + 3) 46 [I i, .gp 0 0, .gp 1 0] (bx2 s on) = some (.ret (B (if 0 ≤ i ∧ i < 3840 then usedS s i == on else true)) (bx2 s on)) := by
  rw [tab_at (af := bitmap_turn_1.a) rfl]; exact other_ev (smallC (d + 1)) (t19 d) s i on
theorem t44 (d : Nat) : TurnOK (tab (d + 4)) := fun s l hl nn on => by
  rw [tab_at (af := bitmap_turn.a) rfl]
  exact turn_ev ⟨smallC (d + 2), t19 (d + 1), t17 (d + 1), t46 d⟩ s l hl (by have := NN_big; omega) nn on
theorem t26 (d : Nat) (s : ByteArray) (l : List Int) (hl : l.length < 1000000) (nn : Bool) (sg : Sg) : tab (d + 5) 26 [S s, .sl nn 1 (il l)] sg = some (.ret (.tup [S (turnS s l false).1, I (turnS s l false).2]) sg) := by
  rw [tab_at (af := bitmap_Give.a) rfl]; exact give_ev (t44 d) s l hl nn sg
theorem t25 (d : Nat) (s : ByteArray) (a b k : Int) (sg : Sg) : tab (d + 5) 25 [S s, I a, I b, I k] sg = some (.ret (.tup [.sl (lowS s a b k).isEmpty 1 (il (lowS s a b k)), S (takeB s a b k), I (lowC s a b k)]) sg) := by
  rw [tab_at (af := bitmap_Take.a) rfl]; exact take_ev (t23 d) (t44 d) s a b k sg

/-! ### There and back, plainly -/
structure Back (s : ByteArray) (a b k : Int) (l : List Int) (t : ByteArray) : Prop where
  size : s.size = 480
  range : 0 ≤ a ∧ a ≤ b ∧ b ≤ 3840
  len : (l.length : Int) = k
  tsize : t.size = 480
  mem : ∀ x ∈ l, a ≤ x ∧ x < b ∧ usedS s x = false
  sorted : l.Pairwise (· < ·)
  used : ∀ j, usedS t j = if j ∈ l then true else usedS s j
  many : manyS t 0 3840 = manyS s 0 3840 + l.length
  full : ∀ p, l.getLast? = some p → manyS t a (p + 1) = (p + 1 - a).toNat
theorem back_of {s : ByteArray} {a b k : Int} (h : lowC s a b k = 0) : Back s a b k (lowS s a b k) (takeB s a b k) := by
  obtain ⟨h1, h2, h3, h4⟩ := low_ok h
  obtain ⟨s1, s2, s3, s4⟩ := wiS_ge h1
  have hm := fun x hx => mem_low h (x := x) hx
  have hlen : ((lowS s a b k).length : Int) = k := by rw [h4, takeS, List.length_take]; omega
  have hB : takeB s a b k = allS s (lowS s a b k) true := by rw [takeB, if_pos h]
  obtain ⟨b1, b2⟩ := ok_all s1 (l := lowS s a b k) (fun i hi => (hm i hi).2.2.1) true
  rw [← hB] at b1 b2
  refine ⟨s1, ⟨s2, s3, s4⟩, hlen, b1, fun x hx => ⟨(hm x hx).1, (hm x hx).2.1, (hm x hx).2.2.2⟩, low_sorted s a b k, b2, ?_, fun p hp => ?_⟩
  · have e : (min (3840 : Int) 3840 - max 0 0).toNat = 3840 := rfl
    have e2 : (max (0 : Int) 0).toNat = 0 := rfl
    simp only [manyS, e, e2]
    rw [hB]
    exact cnt_all s1 (fun x hx => ⟨(hm x hx).2.2.1, by simp [(hm x hx).2.2.2], by have := (hm x hx).2.2.1; omega, by have := (hm x hx).2.2.1; omega⟩) (nodup_of_sorted (low_sorted s a b k))
  · have hpm := hm p (List.mem_of_getLast? hp)
    obtain ⟨m, rfl⟩ := Int.eq_ofNat_of_zero_le s2
    obtain ⟨q, rfl⟩ := Int.eq_ofNat_of_zero_le hpm.2.2.1.1
    have e : (min ((q : Int) + 1) 3840 - max (m : Int) 0).toNat = q + 1 - m := by omega
    have e2 : (max (m : Int) 0).toNat = m := by omega
    simp only [manyS, e, e2]
    rw [cnt_full (fun j j1 j2 => ?_)]
    · omega
    · rw [b2]
      have hk : k.toNat ≠ 0 := by
        intro e0
        rw [h4, takeS, e0] at hp
        simp at hp
      obtain ⟨k', hk'⟩ := Nat.exists_eq_succ_of_ne_zero hk
      rw [h4, takeS, hk', Int.toNat_natCast] at hp ⊢
      rcases take_all hp j j1 (by omega) with h5 | h5
      · split
        · rfl
        · exact h5
      · rw [if_pos h5]
theorem Back.give {s : ByteArray} {a b k : Int} {l : List Int} {t : ByteArray} (H : Back s a b k l t) : turnS t l false = (s, 0) := by
  have ht : turnable t l false := ⟨H.tsize, fun i hi => ⟨⟨by have := (H.mem i hi).1; have := H.range; omega, by have := (H.mem i hi).2.1; have := H.range; omega⟩, by rw [H.used, if_pos hi]; simp⟩, nodup_of_sorted H.sorted⟩
  rw [(turn_eq l t false).1 ht]
  obtain ⟨c1, c2⟩ := ok_all H.tsize (l := l) (fun i hi => (ht.2.1 i hi).1) false
  have : allS t l false = s := ext480 c1 H.size fun j => by
    rw [c2, H.used]
    split
    · rename_i hj; exact (H.mem j hj).2.2.symm
    · rfl
  rw [this]
theorem Back.twice {s : ByteArray} {a b k : Int} {l : List Int} {t : ByteArray} (H : Back s a b k l t) : (turnS t (l ++ l) false).2 = if k > 0 then 18 else 0 := by
  have hl := H.len
  cases l with
  | nil =>
    have : ¬ k > 0 := by simp at hl; omega
    rw [if_neg this]
    simp [turnS, H.tsize]
  | cons x l =>
    have : k > 0 := by simp at hl; omega
    rw [if_pos this, (turn_eq _ t false).2]
    rintro ⟨_, _, h⟩
    rw [List.nodup_append] at h
    exact h.2.2 x (by simp) x (by simp) rfl

/-! ### The law -/
theorem many_le (s : ByteArray) : manyS s 0 3840 ≤ 3840 := cnt_le s 3840 0
structure BackC (C : CallF) : Prop where
  lives : ∃ sg, C 16 [] [] = some (.ret (B true) sg)
  take : ∀ s a b k sg, C 25 [S s, I a, I b, I k] sg = some (.ret (.tup [.sl (lowS s a b k).isEmpty 1 (il (lowS s a b k)), S (takeB s a b k), I (lowC s a b k)]) sg)
  many : ∀ s a b, a ≤ 9223372036854775807 → ∀ sg, C 21 [S s, I a, I b] sg = some (.ret (I (manyS s a b : Nat)) sg)
  used : ∀ s i sg, C 19 [S s, I i] sg = some (.ret (B (usedS s i)) sg)
  give : ∀ (s : ByteArray) (l : List Int), l.length < 1000000 → ∀ nn sg, C 26 [S s, .sl nn 1 (il l)] sg = some (.ret (.tup [S (turnS s l false).1, I (turnS s l false).2]) sg)
variable {C : CallF} {N : Nat}
theorem back_loop (K : BackC C) {s t : ByteArray} {a b k : Int} {l : List Int} (H : Back s a b k l t) (nn : Bool) (sg : Sg) : ∀ (n M i : Nat), i + n = l.length → n < M →
    iter (law10_BitmapBack.R0 C N) M (mkS [0, 1, 2, 3, 9, 10, 71, 72, 73] [Slot.v (S s) false, Slot.v (I a) false, Slot.v (I b) false, Slot.v (I k) false, Slot.v (.sl nn 1 (il l)) false, Slot.v (S t) false, Slot.v (.sl nn 1 (il l)) false, Slot.v (I l.length) false, Slot.v (I i) false] [none, none, none, none, none, none, none, none, none] (RVal.sg sg)) (law10_BitmapBack.K0 C N) =
      law10_BitmapBack.K0 C N (.exit 0) (mkS [0, 1, 3, 9, 10] [Slot.v (S s) false, Slot.v (I a) false, Slot.v (I k) false, Slot.v (.sl nn 1 (il l)) false, Slot.v (S t) false] [none, none, none, none, none] (RVal.sg sg))
  | n, 0, i, _, h => by omega
  | 0, M + 1, i, hi, _ => by
    rw [iter_succ, law10_BitmapBack.r0, if_neg (by simp; omega), thenK_e]
  | n + 1, M + 1, i, hi, h => by
    have hil : i < l.length := by omega
    have hlen : l.length ≤ 3840 := by
      have h1 := H.mem; have h2 := H.range
      have := H.len
      have h3 : (manyS t 0 3840 : Int) ≤ 3840 := by have := many_le t; omega
      have := H.many
      omega
    have w1 : IntKind.i64.wrap ((i : Int) + 1) = ((i + 1 : Nat) : Int) := by rw [i64_id (by omega)]; omega
    have one : ∀ n : Int, Nat.beq [I n].length 1 = true := fun _ => rfl
    obtain ⟨m1, m2, m3⟩ := H.mem l[i] (List.getElem_mem hil)
    rw [iter_succ, law10_BitmapBack.r0, if_pos (by simp; omega), if_pos (by omega), Int.toNat_natCast, il_get hil, withA_at]
    simp only [one, cond_true, List.getElem?_cons_zero, withI_at]
    rw [if_pos (by simp; omega), if_pos (by simp; omega), K.used, withOut_ret, withB_at, m3, if_pos rfl, K.used, withOut_ret, withB_at, H.used, if_pos (List.getElem_mem hil), if_pos (by simp), w1]
    by_cases h0 : i = 0
    · subst h0
      rw [if_neg (by simp), thenK_n]
      exact back_loop K H nn sg n M 1 (by omega) (by omega)
    · have w2 : IntKind.i64.wrap ((i : Int) - 1) = ((i - 1 : Nat) : Int) := by rw [i64_id (by omega)]; omega
      have hlt : l[i - 1] < l[i] := List.pairwise_iff_getElem.1 H.sorted (i - 1) i (by omega) hil (by omega)
      rw [if_pos (by simp; omega), w2, if_pos (by omega), Int.toNat_natCast, il_get (by omega), withA_at]
      simp only [one, cond_true, List.getElem?_cons_zero, withI_at]
      rw [if_neg (by simp; omega), thenK_n]
      exact back_loop K H nn sg n M (i + 1) (by omega) (by omega)
theorem back_ev (K : BackC C) (hN : 1000000 < N) (s : ByteArray) {a b k : Int} (ha : -9223372036854775808 ≤ a ∧ a ≤ 9223372036854775807) (hk : -9223372036854775808 ≤ k ∧ k ≤ 9223372036854775807) (sg : Sg) :
    evalF C N law10_BitmapBack.a [S s, I a, I b, I k] sg = some (.ret (B true) sg) := by
  obtain ⟨sgl, hl⟩ := K.lives
  have e3 : ∀ x y z : AVal, Nat.beq [x, y, z].length 3 = true := fun _ _ _ => rfl
  have e2 : ∀ x y : AVal, Nat.beq [x, y].length 2 = true := fun _ _ => rfl
  have one : ∀ n : Int, Nat.beq [I n].length 1 = true := fun _ => rfl
  have hng : ∀ (nn : Bool) (l : List Int) (t : ByteArray) (n : Int), noG (AVal.tup [.sl nn 1 (il l), S t, I n]) = true := fun nn l t n => by
    have := noGs_il l
    simp only [noG, noGs, this, Bool.and_self]
  rw [law10_BitmapBack.main, hl, withOut_ret, withB_at, if_neg (by simp), K.take, withOut_ret, withT_at]
  simp only [e3, cond_true, List.getElem?_cons_zero, List.getElem?_cons_succ, withL1, withS_at, withI_at, hng, il_len]
  by_cases h : lowC s a b k = 0
  · have H := back_of h
    have hlen := H.len
    generalize lowS s a b k = l at H hlen ⊢
    generalize takeB s a b k = t at H ⊢
    have h3840 : l.length ≤ 3840 := by
      have h3 : (manyS t 0 3840 : Int) ≤ 3840 := by have := many_le t; omega
      have := H.many
      omega
    have hmany := H.many
    have hms : (manyS s 0 3840 : Int) ≤ 3840 := by have := many_le s; omega
    rw [if_neg (by simp [h]), if_pos (by simp [hlen]), K.many _ _ _ (by omega), withOut_ret, withI_at, K.many _ _ _ (by omega), withOut_ret, withI_at, i64_id (by omega), if_neg (by simp; omega)]
    have hloop := back_loop (N := N) K H l.isEmpty sg l.length N 0 (by omega) (by omega)
    rw [show ((0 : Nat) : Int) = 0 from rfl] at hloop
    rw [hloop, law10_BitmapBack.k0_2]
    have tail : ∀ nn : Bool, (bif noGs [S t, .sl nn 1 (il l)] then
        withOut (C 26 [S t, .sl nn 1 (il l)] []) (fun (v : AVal) (x : Sg) => withT v fun (vs : List AVal) => bif vs.length.beq 2 then withS vs[0]? fun (s_1 : ByteArray) => withI .i64 vs[1]? fun (n : Int) =>
          if (0 + (il l).length) * 8 ≤ 35184372088832 then if ((il l).length + (il l).length) * 8 ≤ 35184372088832 then
            bif noGs [S t, .sl (bothNil (il l) (bothNil (il l) false)) 1 (il l ++ il l)] then
              withOut (C 26 [S t, .sl (bothNil (il l) (bothNil (il l) false)) 1 (il l ++ il l)] []) (fun (v : AVal) (x : Sg) => withT v fun (vs : List AVal) => bif vs.length.beq 2 then withS vs[0]? fun (s_2 : ByteArray) => withI .i64 vs[1]? fun (n_1 : Int) =>
                if (n == 0) = true then if (s_1.toList == s.toList) = true then some (Out.ret (B (false ^^ (n_1 == 18) == decide (k > 0))) sg) else some (Out.ret (B false) sg) else some (Out.ret (B false) sg) else none) fun x x_1 => none
            else none else none else none else none) fun x x_1 => none
        else none) = some (Out.ret (B true) sg) := by
      intro nn
      have g1 : noGs [S t, AVal.sl nn 1 (il l)] = true := by
        have := noGs_il l
        simp only [noG, noGs, this, Bool.and_self]
      have g2 : ∀ nn, noGs [S t, AVal.sl nn 1 (il l ++ il l)] = true := fun nn => by
        have := noGs_il (l ++ l)
        rw [il, List.map_append] at this
        simp only [noG, noGs, this, Bool.and_self]
      rw [g1, cond_true, K.give _ _ (by omega), withOut_ret, withT_at, H.give]
      simp only [e2, cond_true, List.getElem?_cons_zero, List.getElem?_cons_succ, withS_at, withI_at, il_len]
      rw [if_pos (by omega), if_pos (by omega), g2, cond_true, ← List.map_append, K.give _ _ (by rw [List.length_append]; omega), withOut_ret, withT_at]
      simp only [e2, cond_true, List.getElem?_cons_zero, List.getElem?_cons_succ, withS_at, withI_at, H.twice]
      by_cases hk0 : k > 0
      · simp [hk0]
      · simp [hk0]
    by_cases hk0 : k > 0
    · have w1 : IntKind.i64.wrap (k - 1) = ((l.length - 1 : Nat) : Int) := by rw [i64_id (by omega)]; omega
      have hi : l.length - 1 < l.length := by omega
      have hlast : l.getLast? = some (l[l.length - 1]) := by
        rw [List.getLast?_eq_getElem?, List.getElem?_eq_getElem hi]
      obtain ⟨m1, m2, m3⟩ := H.mem _ (List.getElem_mem hi)
      have hr := H.range
      have w2 : IntKind.i64.wrap (l[l.length - 1] + 1) = l[l.length - 1] + 1 := i64_id (by omega)
      have w3 : IntKind.i64.wrap (l[l.length - 1] + 1 - a) = l[l.length - 1] + 1 - a := i64_id (by omega)
      rw [if_pos (by simpa using hk0), w1, if_pos (by omega), Int.toNat_natCast, il_get hi, withA_at]
      simp only [one, cond_true, List.getElem?_cons_zero, withI_at, w2]
      rw [K.many _ _ _ (by omega), withOut_ret, withI_at, if_pos (by omega), withA_at]
      simp only [one, cond_true, List.getElem?_cons_zero, withI_at, w2, w3]
      rw [if_neg (by rw [H.full _ hlast]; simp; omega)]
      exact tail _
    · rw [if_neg (by simpa using hk0)]
      exact tail _
  · have hb : lowS s a b k = [] := low_bad h
    have hB : takeB s a b k = ⟨#[]⟩ := by rw [takeB, if_neg h]
    rw [if_pos (by simpa using h), hb, hB, if_pos (by simp), if_pos (by simp)]
    by_cases hw : wiS s a b = true ∧ 0 ≤ k
    · have hc : lowC s a b k = 13 := by
        unfold lowC at h ⊢
        rw [if_pos hw] at h ⊢
        split
        · rename_i hh; rw [if_pos hh] at h; exact absurd rfl h
        · rfl
      obtain ⟨s1, s2, s3, s4⟩ := wiS_ge hw.1
      have hf : ¬ k ≤ (freeS s (b - a).toNat a.toNat).length := by
        intro hh
        rw [lowC, if_pos hw, if_pos hh] at hc
        cases hc
      have hfl := free_len s (b - a).toNat a.toNat
      have hm : manyS s a b = cnt s (b - a).toNat a.toNat := by
        have x1 : min b 3840 = b := by omega
        have x2 : max a 0 = a := by omega
        simp only [manyS, x1, x2]
      rw [hc, if_pos (by simp), if_pos (by simp), K.many _ _ _ ha.2, withOut_ret, withI_at, i64_id (n := b - a) (by omega), i64_id (by rw [hm]; omega)]
      have : decide (b - a - (manyS s a b : Int) < k) = true := by rw [hm]; simp; omega
      rw [this]
    · have hc : lowC s a b k = 18 := by rw [lowC, if_neg hw]
      rw [hc, if_neg (by simp)]
theorem t8 (s : ByteArray) {a b k : Int} (ha : -9223372036854775808 ≤ a ∧ a ≤ 9223372036854775807) (hk : -9223372036854775808 ≤ k ∧ k ≤ 9223372036854775807) (sg : Sg) : tab 9 8 [S s, I a, I b, I k] sg = some (.ret (B true) sg) := by
  rw [tab_at (af := law10_BitmapBack.a) rfl]
  exact back_ev ⟨lives10, t25 3, t21 5, t19 6, t26 3⟩ (by have := NN_big; omega) s ha hk sg
end Go.Abs
