/- THE BITMAP: the free ranges; BitmapTakes. -/
import Derived.Test.YtafmbianlodemaaBitG
import Derived.Test.YtafmbianlodemaaRsTk
namespace Go.Abs
set_option linter.unusedSectionVars false
set_option linter.unusedSimpArgs false
set_option linter.unusedVariables false

/-! ### Plainly -/
def go : Int × Int → List Int → List (Int × Int)
  | r, [] => [r]
  | r, i :: l => if r.2 = i then go (r.1, i + 1) l else r :: go (i, i + 1) l
def runs : List Int → List (Int × Int)
  | [] => []
  | i :: l => go (i, i + 1) l
/-- The list that is being made, and what is still to come. -/
def runsOn (acc : List (Int × Int)) (l : List Int) : List (Int × Int) := match acc.getLast? with
  | none => acc ++ runs l
  | some r => acc.dropLast ++ go r l
theorem go_ne (r : Int × Int) : ∀ l, go r l ≠ []
  | [] => by simp [go]
  | i :: l => by
    simp only [go]
    split
    · exact go_ne _ l
    · simp
theorem go_len (r : Int × Int) : ∀ l, (go r l).length ≤ l.length + 1
  | [] => by simp [go]
  | i :: l => by
    simp only [go]
    split
    · have := go_len (r.1, i + 1) l; simp; omega
    · have := go_len (i, i + 1) l; simp; omega
theorem runs_len : ∀ l, (runs l).length ≤ l.length
  | [] => by simp [runs]
  | i :: l => by simp only [runs]; exact go_len _ l

def pl (l : List (Int × Int)) : List AVal := l.map fun p => .agg [I p.1, I p.2]
def fl2 : List (Int × Int) → List AVal
  | [] => []
  | p :: l => I p.1 :: I p.2 :: fl2 l
theorem fl2_len : ∀ l, (fl2 l).length = l.length * 2
  | [] => rfl
  | p :: l => by simp [fl2, fl2_len l]; omega
theorem fl2_app : ∀ (l m : List (Int × Int)), fl2 (l ++ m) = fl2 l ++ fl2 m
  | [], m => rfl
  | p :: l, m => by simp [fl2, fl2_app l m]
theorem pl_len (l : List (Int × Int)) : (pl l).length = l.length := List.length_map ..
theorem noGs_pl : ∀ l, noGs (pl l) = true
  | [] => rfl
  | p :: l => by
    have := noGs_pl l
    simp only [pl, List.map_cons, noGs, noG, Bool.and_self, Bool.true_and] at this ⊢
    exact this
theorem chunks_fl2 : ∀ l, chunks 2 l.length (fl2 l) = pl l
  | [] => rfl
  | p :: l => by
    have := chunks_fl2 l
    simp only [List.length_cons, chunks, fl2]
    have e : Nat.beq 2 1 = false := rfl
    rw [e]
    simp only [cond_false, List.take_succ_cons, List.take_zero, List.drop_succ_cons, List.drop_zero, this]
    rfl
theorem thawL_fl2 (n : Nat) (sg : Sg) : ∀ l, thawL (thaw (n + 1) sg) (fl2 l) = some (fl2 l)
  | [] => rfl
  | p :: l => by
    have h : ∀ x : Int, thaw (n + 1) sg (I x) = some (I x) := fun _ => rfl
    simp only [fl2, thawL, h, thawL_fl2 n sg l]
theorem thaw_spans {sg : Sg} {g : Nat} {l : List (Int × Int)} (h : sg[g]? = some ⟨fl2 l⟩) : thaw 8 sg (.gs g 2 0 l.length) = some (.sl false 2 (pl l)) := by
  unfold thaw
  have e1 : noG (.gs g 2 0 l.length) = false := rfl
  rw [e1]
  simp only [cond_false, h]
  have e2 : Nat.ble (0 + l.length * 2) (fl2 l).length = true := by rw [fl2_len]; exact ble_t (by omega)
  have e3 : Nat.blt 0 2 = true := rfl
  rw [e2, e3]
  simp only [Bool.and_self, cond_true, List.drop_zero]
  rw [List.take_of_length_le (by rw [fl2_len]; omega), thawL_fl2, Option.map_some, chunks_fl2]

/-! ### The program's -/
variable {C : CallF} {N : Nat}
theorem clip_gs (g n : Nat) (sg : Sg) : evalF C N slices_Clip_2int_2int.a [.gs g 2 0 n] sg = some (.ret (.gs g 2 0 n) sg) := by
  have h : evalF C N slices_Clip_2int_2int.a [.gs g 2 0 n] sg = if (0 : Int) ≤ 0 ∧ (0 : Int) ≤ (n : Int) ∧ (n : Int) ≤ (n : Int) then
      (if (((n : Int).toNat : Nat) : Int) ≤ (n : Int) ∧ (n : Int) ≤ (n : Int) then some (Out.ret (.gs g 2 (if (n : Int).toNat = Int.toNat 0 then 0 else 0 + Int.toNat 0 * 2) ((n : Int).toNat - Int.toNat 0)) sg) else none) else none := by kernel_rfl
  rw [h, if_pos ⟨by omega, by omega, by omega⟩, if_pos ⟨by omega, by omega⟩]
  have : Int.toNat 0 = 0 := rfl
  simp [this]
theorem clip_sl (sg : Sg) : evalF C N slices_Clip_2int_2int.a [.sl true 2 []] sg = some (.ret (.sl true 2 []) sg) := by
  rw [slices_Clip_2int_2int.main]; rfl
structure SpanC (C : CallF) : Prop extends LowC C where
  clipG : ∀ g n sg, C 45 [.gs g 2 0 n] sg = some (.ret (.gs g 2 0 n) sg)
  clipN : ∀ sg, C 45 [.sl true 2 []] sg = some (.ret (.sl true 2 []) sg)

theorem splice_last (l : List (Int × Int)) (a b c : Int) : splice (fl2 (l ++ [(a, b)])) (l.length * 2 + 1) [I c] = fl2 (l ++ [(a, c)]) := by
  unfold splice
  rw [fl2_app, fl2_app]
  have e : (fl2 l).length = l.length * 2 := fl2_len l
  rw [List.take_append, List.drop_append, e, List.take_of_length_le (by omega), List.drop_of_length_le (by simp; omega)]
  have e1 : l.length * 2 + 1 - l.length * 2 = 1 := by omega
  have e2 : l.length * 2 + 1 + [I c].length - l.length * 2 = 2 := by simp; omega
  rw [e1, e2]
  simp [fl2]
/-- The loop, once there is a list. -/
theorem spans_loop (K : SpanC C) (l : List Int) (hl : l.length ≤ 4000) (hb : ∀ x ∈ l, -10000 ≤ x ∧ x ≤ 10000) (nn : Bool) : ∀ (n M i : Nat) (acc : List (Int × Int)) (a b : Int) (sg : Sg) (g : Nat), i + n = l.length → n < M → acc.length ≤ i → sg[g]? = some ⟨fl2 (acc ++ [(a, b)])⟩ → sg.length = g + 1 →
    ∃ g' sg', sg'[g']? = some ⟨fl2 (acc ++ go (a, b) (l.drop i))⟩ ∧ iter (bitmap_Spans.R0 C N) M (mkS [7, 22, 23, 24] [Slot.v (.gs g 2 0 (acc.length + 1)) false, Slot.v (.sl nn 1 (il l)) false, Slot.v (I l.length) false, Slot.v (I i) false] [none, none, none, none] (RVal.sg sg)) (bitmap_Spans.K0 C N) =
      some (.ret (.gs g' 2 0 (acc ++ go (a, b) (l.drop i)).length) sg')
  | n, 0, i, acc, a, b, sg, g, _, h, _, _, _ => by omega
  | 0, M + 1, i, acc, a, b, sg, g, hi, _, _, hg, hsl => by
    have e : l.drop i = [] := List.drop_of_length_le (by omega)
    refine ⟨g, sg, ?_, ?_⟩
    · rw [e]; exact hg
    · rw [iter_succ, bitmap_Spans.r0_2, if_neg (by simp; omega), thenK_e, bitmap_Spans.k0_2, K.clipG, withOut_ret, e]
      simp [withA, go]
  | n + 1, M + 1, i, acc, a, b, sg, g, hi, h, hacc, hg, hsl => by
    have hil : i < l.length := by omega
    have w1 : IntKind.i64.wrap ((i : Int) + 1) = ((i + 1 : Nat) : Int) := by rw [i64_id (by omega)]; omega
    have w2 : IntKind.i64.wrap (((acc.length + 1 : Nat) : Int) - 1) = (acc.length : Int) := by rw [i64_id (by omega)]; omega
    have hx := hb l[i] (List.getElem_mem hil)
    have w3 : IntKind.i64.wrap (l[i] + 1) = l[i] + 1 := i64_id (by omega)
    have ed : l.drop i = l[i] :: l.drop (i + 1) := List.drop_eq_getElem_cons hil
    have one : Nat.beq [I l[i]].length 1 = true := rfl
    have flen : (fl2 (acc ++ [(a, b)])).length = (acc.length + 1) * 2 := by rw [fl2_len]; simp
    have he : (fl2 (acc ++ [(a, b)])).isEmpty = false := by
      cases hh : fl2 (acc ++ [(a, b)]) with
      | nil => rw [hh] at flen; simp at flen
      | cons => rfl
    have hget : (fl2 (acc ++ [(a, b)]))[0 + acc.length * 2 + Int.toNat 1 * 1]? = some (I b) := by
      have : 0 + acc.length * 2 + Int.toNat 1 * 1 = acc.length * 2 + 1 := by simp
      rw [this, fl2_app, List.getElem?_append_right (by rw [fl2_len]; omega), fl2_len]
      have : acc.length * 2 + 1 - acc.length * 2 = 1 := by omega
      rw [this]; rfl
    rw [ed]
    rw [iter_succ, bitmap_Spans.r0_2, if_pos (by simp; omega), if_pos (by omega), Int.toNat_natCast, il_get hil, withA_at]
    simp only [one, cond_true, List.getElem?_cons_zero, withI_at]
    rw [if_pos (by simp), w2, if_pos ⟨by omega, by omega⟩, if_pos ⟨by omega, by omega⟩, hg]
    simp only [withO_at, he, cond_false, Int.toNat_natCast, hget, withI_at, w1, w3]
    by_cases hbi : b = l[i]
    · rw [if_pos (by simp [hbi]), if_pos ⟨by omega, by omega⟩, if_pos ⟨by omega, by omega⟩]
      have e1 : 0 + acc.length * 2 + Int.toNat 1 * 1 = acc.length * 2 + 1 := by simp
      have e2 : Nat.ble (0 + acc.length * 2 + Int.toNat 1 * 1 + 1) (fl2 (acc ++ [(a, b)])).length = true := by rw [flen]; exact ble_t (by simp; omega)
      rw [e2, cond_true, bindL_eq, e1, splice_last, thenK_n]
      have hgo : go (a, b) (l[i] :: l.drop (i + 1)) = go (a, l[i] + 1) (l.drop (i + 1)) := by simp [go, hbi]
      rw [hgo]
      exact spans_loop K l hl hb nn n M (i + 1) acc a (l[i] + 1) (sg.set g ⟨fl2 (acc ++ [(a, l[i] + 1)])⟩) g (by omega) (by omega) (by omega) (by rw [List.getElem?_set_self (by omega)]) (by simp [hsl])
    · rw [if_neg (by simpa using hbi)]
      have e2 : Nat.beq (fl2 (acc ++ [(a, b)])).length ((acc.length + 1) * 2) = true := by rw [flen]; exact Nat.beq_refl _
      have e3 : Nat.blt 0 (fl2 (acc ++ [(a, b)])).length = true := by rw [flen]; simp
      rw [e2, e3, Bool.and_self, cond_true, if_pos (by omega), thenK_n]
      have hgo : acc ++ go (a, b) (l[i] :: l.drop (i + 1)) = (acc ++ [(a, b)]) ++ go (l[i], l[i] + 1) (l.drop (i + 1)) := by simp [go, hbi]
      have ef : fl2 (acc ++ [(a, b)]) ++ [I l[i], I (l[i] + 1)] = fl2 ((acc ++ [(a, b)]) ++ [(l[i], l[i] + 1)]) := by rw [fl2_app (acc ++ [(a, b)])]; rfl
      rw [hgo, ef]
      have := spans_loop K l hl hb nn n M (i + 1) (acc ++ [(a, b)]) l[i] (l[i] + 1) (sg.set g ⟨[]⟩ ++ [⟨fl2 ((acc ++ [(a, b)]) ++ [(l[i], l[i] + 1)])⟩]) sg.length (by omega) (by omega) (by simp; omega)
        (by rw [List.getElem?_append_right (by simp)]; simp) (by simp)
      simpa using this
theorem spans_ev (K : SpanC C) (hN : 10000 < N) (s : ByteArray) (a b : Int) :
    ∃ v sg', evalF C N bitmap_Spans.a [S s, I a, I b] [] = some (.ret v sg') ∧ ∃ nn, thaw 8 sg' v = some (.sl nn 2 (pl (if wiS s a b = true then runs (freeS s (b - a).toNat a.toNat) else []))) := by
  rw [bitmap_Spans.main, K.within, withOut_ret, withB_at]
  cases hw : wiS s a b with
  | false => rw [if_pos (by simp)]; exact ⟨_, _, rfl, true, rfl⟩
  | true =>
    obtain ⟨h1, h2, h3, h4⟩ := wiS_ge hw
    have w0 : IntKind.i64.wrap (b - a) = b - a := i64_id (by omega)
    rw [if_neg (by simp), w0, K.free _ _ _ _ ⟨h2, h3, h4⟩, withOut_ret, withL1, il_len]
    have ht : takeS s a b (b - a) = freeS s (b - a).toNat a.toNat := by
      have := free_len s (b - a).toNat a.toNat
      rw [takeS, List.take_of_length_le (by omega)]
    rw [ht]
    simp only [if_true]
    have hlen := free_len s (b - a).toNat a.toNat
    have hb : ∀ x ∈ freeS s (b - a).toNat a.toNat, -10000 ≤ x ∧ x ≤ 10000 := fun x hx => by
      obtain ⟨j, rfl, j1, j2, _⟩ := mem_free.1 hx
      omega
    generalize freeS s (b - a).toNat a.toNat = l at hlen hb ⊢
    generalize l.isEmpty = nn
    obtain ⟨M, rfl⟩ : ∃ M, N = M + 1 := ⟨N - 1, by omega⟩
    cases l with
    | nil =>
      rw [iter_succ, bitmap_Spans.r0, if_neg (by simp), thenK_e, bitmap_Spans.k0_1, K.clipN, withOut_ret]
      exact ⟨_, _, rfl, true, rfl⟩
    | cons x l =>
      have hx := hb x (by simp)
      have w3 : IntKind.i64.wrap (x + 1) = x + 1 := i64_id (by omega)
      have one : Nat.beq [I x].length 1 = true := rfl
      have g0 : (il (x :: l))[0]? = some (I x) := rfl
      have z : Int.toNat 0 = 0 := rfl
      rw [iter_succ, bitmap_Spans.r0, if_pos (by simp), if_pos (by omega), z, g0, withA_at]
      simp only [one, cond_true, List.getElem?_cons_zero, withI_at]
      rw [if_neg (by simp), if_pos (by omega), thenK_n, w3]
      obtain ⟨g', sg', h5, h6⟩ := spans_loop (N := M + 1) K (x :: l) (by omega) hb nn l.length M 1 [] x (x + 1) ([] ++ [⟨[I x, I (x + 1)]⟩]) 0 (by simp; omega) (by simp at hlen; omega) (by simp) rfl rfl
      have ei : IntKind.i64.wrap (0 + 1) = ((1 : Nat) : Int) := rfl
      rw [ei]
      refine ⟨_, _, h6, false, ?_⟩
      exact thaw_spans h5

/-! ### The reference's -/
theorem free_gt {s : ByteArray} {n i : Nat} {x : Int} (h : x ∈ freeS s n i) : (i : Int) ≤ x := by
  obtain ⟨j, rfl, h1, _, _⟩ := mem_free.1 h; omega
/-- Where the run that begins before i ends, and what comes then. -/
theorem run_end (s : ByteArray) (a : Int) : ∀ (n i : Nat), ∃ r, r ≤ n ∧ (∀ q, q < r → usedS s ((i + q : Nat) : Int) = false) ∧ (r < n → usedS s ((i + r : Nat) : Int) = true) ∧
    go (a, (i : Int)) (freeS s n i) = (a, ((i + r : Nat) : Int)) :: runs (freeS s (n - r - 1) (i + r + 1))
  | 0, i => ⟨0, by omega, by omega, by omega, rfl⟩
  | n + 1, i => by
    cases hu : usedS s (i : Int) with
    | true =>
      refine ⟨0, by omega, by omega, fun _ => hu, ?_⟩
      simp only [freeS, hu, if_true, Nat.add_zero, Nat.sub_zero, Nat.add_sub_cancel]
      cases hf : freeS s n (i + 1) with
      | nil => rfl
      | cons x l =>
        have := free_gt (s := s) (n := n) (i := i + 1) (x := x) (by rw [hf]; simp)
        simp only [go, runs]
        rw [if_neg (by omega)]
    | false =>
      obtain ⟨r, h1, h2, h3, h4⟩ := run_end s a n (i + 1)
      refine ⟨r + 1, by omega, fun q hq => ?_, fun hr => ?_, ?_⟩
      · cases q with
        | zero => exact hu
        | succ q => have := h2 q (by omega); rw [show i + (q + 1) = i + 1 + q by omega]; exact this
      · rw [show i + (r + 1) = i + 1 + r by omega]; exact h3 (by omega)
      · have e1 : freeS s (n + 1) i = (i : Int) :: freeS s n (i + 1) := by simp [freeS, hu]
        rw [e1]
        simp only [go, if_true]
        rw [show (i : Int) + 1 = ((i + 1 : Nat) : Int) by omega, h4]
        rw [show i + 1 + r = i + (r + 1) by omega, show n - r - 1 = n + 1 - (r + 1) - 1 by omega]
theorem rspans_in (hu : ∀ s i sg, C 20 [S s, I i] sg = some (.ret (B (usedS s i)) sg)) {s : ByteArray} {t : Int} (ht : t ≤ 3840) (acc : List AVal) (x : Int) (sg : Sg) (k : Ex → St → R) : ∀ (r M e : Nat), r < M → (e : Int) + r ≤ t → (∀ q, q < r → usedS s ((e + q : Nat) : Int) = false) → ((e : Int) + r < t → usedS s ((e + r : Nat) : Int) = true) →
    iter (ref10_Spans.R1 C N) M (mkS [0, 2, 7, 8, 9] [Slot.v (S s) false, Slot.v (I t) false, Slot.v (.sl false 2 acc) true, Slot.v (I x) false, Slot.v (I e) false] [none, none, none, none, none] (RVal.sg sg)) k =
      k (.exit 2) (mkS [0, 2, 7, 8, 9] [Slot.v (S s) false, Slot.v (I t) false, Slot.v (.sl false 2 acc) true, Slot.v (I x) false, Slot.v (I ((e + r : Nat) : Int)) false] [none, none, none, none, none] (RVal.sg sg))
  | r, 0, e, h, _, _, _ => by omega
  | 0, M + 1, e, _, hle, _, hend => by
    rw [iter_succ, ref10_Spans.r1]
    by_cases hlt : (e : Int) < t
    · rw [if_pos (by simpa using hlt), hu, withOut_ret, withB_at]
      have := hend (by omega)
      rw [Nat.add_zero] at this
      rw [this, if_neg (by simp), thenK_e]
      rfl
    · rw [if_neg (by simpa using hlt), thenK_e]; rfl
  | r + 1, M + 1, e, h, hle, hfree, hend => by
    have w1 : IntKind.i64.wrap ((e : Int) + 1) = ((e + 1 : Nat) : Int) := by rw [i64_id (by omega)]; omega
    have h0 := hfree 0 (by omega)
    rw [Nat.add_zero] at h0
    rw [iter_succ, ref10_Spans.r1, if_pos (by simp; omega), hu, withOut_ret, withB_at, h0, if_pos (by simp), thenK_n, w1]
    rw [rspans_in hu ht acc x sg k r M (e + 1) (by omega) (by omega) (fun q hq => by have := hfree (q + 1) (by omega); rw [show e + 1 + q = e + (q + 1) by omega]; exact this) (fun hh => by rw [show e + 1 + r = e + (r + 1) by omega]; exact hend (by omega))]
    rw [show e + 1 + r = e + (r + 1) by omega]
theorem rspans_loop (hu : ∀ s i sg, C 20 [S s, I i] sg = some (.ret (B (usedS s i)) sg)) (hN : 10000 < N) {s : ByteArray} {t : Int} (ht : t ≤ 3840) (sg : Sg) : ∀ (F n M i : Nat) (acc : List (Int × Int)), n < F → n < M → ((i : Int) + n = t ∨ (n = 0 ∧ t ≤ i)) → acc.length ≤ i → i ≤ 4000 →
    iter (ref10_Spans.R0 C N) M (mkS [0, 2, 7, 8] [Slot.v (S s) false, Slot.v (I t) false, Slot.v (.sl false 2 (pl acc)) true, Slot.v (I i) false] [none, none, none, none] (RVal.sg sg)) (ref10_Spans.K0 C N) =
      some (.ret (.sl false 2 (pl (acc ++ runs (freeS s n i)))) sg)
  | 0, n, M, i, acc, h, _, _, _, _ => by omega
  | F + 1, n, 0, i, acc, _, h, _, _, _ => by omega
  | F + 1, 0, M + 1, i, acc, _, _, hi, _, _ => by
    rw [iter_succ, ref10_Spans.r0, if_neg (by simp; omega), thenK_e, ref10_Spans.k0_1]
    simp [freeS, runs]
  | F + 1, n + 1, M + 1, i, acc, hF, hM, hi, hacc, hi4 => by
    have hit : (i : Int) + (n + 1 : Nat) = t := by omega
    rw [iter_succ, ref10_Spans.r0, if_pos (by simp; omega), hu, withOut_ret, withB_at]
    cases hus : usedS s (i : Int) with
    | true =>
      have w1 : IntKind.i64.wrap ((i : Int) + 1) = ((i + 1 : Nat) : Int) := by rw [i64_id (by omega)]; omega
      rw [if_pos rfl, thenK_n, w1, rspans_loop hu hN ht sg F n M (i + 1) acc (by omega) (by omega) (by omega) (by omega) (by omega)]
      simp only [freeS, hus, if_true]
    | false =>
      rw [if_neg (by simp)]
      obtain ⟨r, h1, h2, h3, h4⟩ := run_end s (i : Int) n (i + 1)
      have hin := rspans_in (N := N) (C := C) hu (s := s) (t := t) ht (pl acc) (i : Int) sg (ref10_Spans.K1 C N (thenK (fun st => iter (ref10_Spans.R0 C N) M st (ref10_Spans.K0 C N)) (ref10_Spans.K0 C N))) (r + 1) N i (by omega) (by omega)
        (fun q hq => by
          cases q with
          | zero => exact hus
          | succ q => have := h2 q (by omega); rw [show i + (q + 1) = i + 1 + q by omega]; exact this)
        (fun hh => by rw [show i + (r + 1) = i + 1 + r by omega]; exact h3 (by omega))
      rw [hin, ref10_Spans.k1_1, pl_len, if_pos (by omega), thenK_n]
      have w1 : IntKind.i64.wrap (((i + (r + 1) : Nat) : Int) + 1) = ((i + 1 + r + 1 : Nat) : Int) := by rw [i64_id (by omega)]; omega
      have ea : pl acc ++ [AVal.agg [I (i : Int), I ((i + (r + 1) : Nat) : Int)]] = pl (acc ++ [((i : Int), ((i + 1 + r : Nat) : Int))]) := by
        rw [show i + (r + 1) = i + 1 + r by omega]; simp [pl]
      rw [w1, ea]
      have e1 : freeS s (n + 1) i = (i : Int) :: freeS s n (i + 1) := by simp [freeS, hus]
      have e2 : runs (freeS s (n + 1) i) = ((i : Int), ((i + 1 + r : Nat) : Int)) :: runs (freeS s (n - r - 1) (i + 1 + r + 1)) := by
        rw [e1, runs, show (i : Int) + 1 = ((i + 1 : Nat) : Int) by omega, h4]
      rw [e2]
      rw [rspans_loop hu hN ht sg F (n - r - 1) M (i + 1 + r + 1) (acc ++ [((i : Int), ((i + 1 + r : Nat) : Int))]) (by omega) (by omega) (by omega) (by simp; omega) (by omega)]
      simp
theorem rspans_ev (hw : ∀ s a b sg, C 42 [S s, I a, I b] sg = some (.ret (B (wiS s a b)) sg)) (hu : ∀ s i sg, C 20 [S s, I i] sg = some (.ret (B (usedS s i)) sg)) (hN : 10000 < N) (s : ByteArray) (a b : Int) (sg : Sg) :
    evalF C N ref10_Spans.a [S s, I a, I b] sg = some (.ret (.sl false 2 (pl (if wiS s a b = true then runs (freeS s (b - a).toNat a.toNat) else []))) sg) := by
  rw [ref10_Spans.main, hw, withOut_ret, withB_at]
  cases hwi : wiS s a b with
  | false => rw [if_pos (by simp)]; rfl
  | true =>
    obtain ⟨h1, h2, h3, h4⟩ := wiS_ge hwi
    obtain ⟨m, rfl⟩ := Int.eq_ofNat_of_zero_le h2
    obtain ⟨n, hn⟩ := Int.eq_ofNat_of_zero_le (show 0 ≤ b - m by omega)
    rw [if_neg (by simp)]
    have := rspans_loop (N := N) hu hN (s := s) (t := b) h4 sg (n + 1) n N m [] (by omega) (by omega) (by omega) (by simp) (by omega)
    refine this.trans ?_
    simp only [hn, Int.toNat_natCast, List.nil_append, if_true]
end Go.Abs
