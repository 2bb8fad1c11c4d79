/- THE BITMAP: its functions. -/
import Derived.Test.YtimoaolannkpcaaGreatBitP
set_option linter.unusedVariables false
set_option linter.unusedSimpArgs false
set_option linter.unusedSectionVars false
namespace Go.Abs
open Go
set_option linter.unusedVariables false
set_option maxRecDepth 100000
variable {N dp : Nat} {sg : Sg} {s : ByteArray} {L R H : Hp}
theorem is_ok : Ev (tab N (dp + 1) 231 [vS s] sg) (Rt fun v _ => v = vB (decide (s.size = 480))) := by
  refine ev_of ((t231 ..).trans (bitmap_is.main ..)) (ev_ret ?_)
  by_cases h : s.size = 480
  · simp [h]
  · have : ((s.size : Int) == 480) = false := by simp; omega
    rw [this]; simp [h]
theorem bpage_ok {i : Int} : Ev (tab N (dp + 1) 324 [vI i] sg) (Rt fun v _ => v = vB (decide (0 ≤ i ∧ i < 3840))) := by
  refine ev_of ((t324 ..).trans (bitmap_page.main ..)) (ev_ite (fun h => ev_ret ?_) (fun h => ev_ret ?_))
  · have h : 0 ≤ i := by simpa using h
    simp [h]
  · have h : ¬ 0 ≤ i := by simpa using h
    simp [h]
theorem used_ok {i : Int} : Ev (tab N (dp + 2) 233 [vS s, vI i] sg) (Rt fun v sg' => v = vB (usedS s i) ∧ sg' = sg) := by
  refine ev_of ((t233 ..).trans (bitmap_Used.main ..)) ?_
  refine ev_call is_ok rfl ?_
  rintro _ _ rfl
  refine ev_B rfl (ev_ite (fun h1 => ?_) (fun h1 => ev_ret ⟨?_, rfl⟩))
  · have h1 : s.size = 480 := by simpa using h1
    refine ev_call bpage_ok rfl ?_
    rintro _ _ rfl
    refine ev_B rfl (ev_ite (fun h2 => ?_) (fun h2 => ev_ret ⟨?_, rfl⟩))
    · have h2 : 0 ≤ i ∧ i < 3840 := by simpa using h2
      obtain ⟨m, rfl⟩ := Int.eq_ofNat_of_zero_le h2.1
      have hm : m < 3840 := by omega
      rw [tdiv8, tmod8, i64_in (by omega)]
      refine ev_else (by omega) (ev_if ⟨by omega, by omega⟩ (ev_else (by omega) (ev_else (by omega) (ev_ret ⟨?_, rfl⟩))))
      have hb := bit_used (byteN_lt s (m / 8)) (Nat.mod_lt m (show 0 < 8 by omega))
      have e : (s.data.toList.getD (((m / 8 : Nat) : Int)).toNat 0).toNat = byteN s (m / 8) := by rw [Int.toNat_natCast]; simp [byteN]
      rw [e, hb]
      simp only [usedS, okI, h1, h2, Int.toNat_natCast]
      simp [hm]
    · have h2 : ¬ (0 ≤ i ∧ i < 3840) := by simpa using h2
      have : usedS s i = false := by simp [usedS, okI]; intro _ a b; exact absurd ⟨a, b⟩ h2
      rw [this]
  · have h1 : ¬ s.size = 480 := by simpa using h1
    have : usedS s i = false := by simp [usedS, okI, h1]
    rw [this]
theorem ble_t {a b : Nat} (h : a ≤ b) : Nat.ble a b = true := Nat.ble_eq_true_of_le h
theorem set_ok {i : Int} {on : Bool} (hok : okI s i = true) : Ev (tab N (dp + 2) 325 [vS s, vI i, vB on] sg) (Rt fun v _ => v = .tup [vS (setS s i on), vI 0]) := by
  have hh : s.size = 480 ∧ 0 ≤ i ∧ i < 3840 := by simpa [okI] using hok
  obtain ⟨h1, h2⟩ := hh
  refine ev_of ((t325 ..).trans (bitmap_Set.main ..)) ?_
  refine ev_call is_ok rfl ?_
  rintro _ _ rfl
  refine ev_B rfl (ev_if (by simp [h1]) ?_)
  refine ev_call bpage_ok rfl ?_
  rintro _ _ rfl
  refine ev_B rfl (ev_else (by simp [h2]) ?_)
  obtain ⟨m, rfl⟩ := Int.eq_ofNat_of_zero_le h2.1
  have hm : m < 3840 := by omega
  have hp : m / 8 < s.size := by omega
  have hl := list_len s
  obtain ⟨a1, a2, a3, a4⟩ := bit_set (byteN_lt s (m / 8)) (Nat.mod_lt m (show 0 < 8 by omega))
  have h8 : (0 : Int) ≤ ((m / 8 : Nat) : Int) ∧ ((m / 8 : Nat) : Int) < (s.size : Int) := ⟨by omega, by omega⟩
  have g1 : (ofBytes s.data.toList)[0 + m / 8 * 1]? = some (.at (.int .u8 (byteN s (m / 8) : Int))) := by
    rw [show 0 + m / 8 * 1 = m / 8 by omega, ofB_get]; exact byte_at s hp
  rw [tdiv8, tmod8, i64_in (by omega)]
  refine ev_else (by omega) (ev_if h8 ?_)
  simp only [Int.toNat_natCast]
  refine ev_I g1 (ev_else (by omega) (ev_else (by omega) (ev_if h8 (ev_bif (by rw [ofB_len, hl]; exact ble_t (by omega)) ?_))))
  rw [a1, show 0 + m / 8 * 1 = m / 8 by omega, ofB_set (by omega) a3]
  refine ev_L ?_
  have hset : ∀ v, (s.data.toList.set (m / 8) v).length = s.size := fun v => by simp [hl]
  cases on with
  | false =>
    refine ev_else (by simp) ?_
    refine ev_O (a := s.data.toList.set (m / 8) (UInt8.ofNat (newB (byteN s (m / 8)) (m % 8) false))) ?_ (ev_if (hset _) (ev_ret ?_))
    · rw [List.take_of_length_le (by rw [ofB_len, hset]; exact Nat.le_refl _), bytesOf_ofB]
    · simp [setS, hok, setL]
  | true =>
    have g2 : (ofBytes (s.data.toList.set (m / 8) (UInt8.ofNat (newB (byteN s (m / 8)) (m % 8) false))))[m / 8]? = some (.at (.int .u8 (newB (byteN s (m / 8)) (m % 8) false : Int))) := by
      rw [ofB_get, List.getElem?_set_self (by omega)]
      simp only [Option.map_some, u8nat a3]
    refine ev_if rfl (ev_else (by omega) (ev_if h8 (ev_I g2 (ev_else (by omega) (ev_else (by omega) (ev_if h8 (ev_bif (by rw [ofB_len, hset]; exact ble_t (by omega)) ?_)))))))
    rw [a2, ofB_set (by rw [hset]; omega) a4, List.set_set]
    refine ev_L ?_
    refine ev_O (a := s.data.toList.set (m / 8) (UInt8.ofNat (newB (byteN s (m / 8)) (m % 8) true))) ?_ (ev_if (hset _) (ev_ret ?_))
    · rw [List.take_of_length_le (by rw [ofB_len, hset]; exact Nat.le_refl _), bytesOf_ofB]
    · simp [setS, hok, setL]
/-- The first free one between a and b; none. -/
def firstF (s : ByteArray) : Nat → Nat → Option Nat
  | 0, _ => none
  | n + 1, i => if usedS s (i : Int) = true then firstF s n (i + 1) else some i
theorem firstF_none {s : ByteArray} : ∀ {n i : Nat}, firstF s n i = none → ∀ j, i ≤ j → j < i + n → usedS s (j : Int) = true
  | 0, i, _, j, h1, h2 => by omega
  | n + 1, i, h, j, h1, h2 => by
    simp only [firstF] at h
    split at h
    · rename_i hu
      rcases Nat.eq_or_lt_of_le h1 with rfl | h1
      · exact hu
      · exact firstF_none h j h1 (by omega)
    · cases h
theorem firstF_some {s : ByteArray} : ∀ {n i x : Nat}, firstF s n i = some x → i ≤ x ∧ x < i + n ∧ usedS s (x : Int) = false
  | n + 1, i, x, h => by
    simp only [firstF] at h
    split at h
    · have := firstF_some h; exact ⟨by omega, by omega, this.2.2⟩
    · rename_i hu
      cases h
      exact ⟨Nat.le_refl _, by omega, by simpa using hu⟩
/-- The first of some, by value or in a box. -/
def optV (g : Nat) : Option Nat → AVal
  | none => .sl true 1 []
  | some x => .gs g 1 0 1
def optH (g : Nat) : Option Nat → Hp
  | none => []
  | some x => [(g, .mk [vI x])]
theorem free_ok {a b : Nat} (hab : a ≤ b) (hb : b ≤ 3840) (hN : 5000 < N) :
    Ev (tab N (dp + 3) 322 [vS s, vI a, vI b, vI 1] []) (Rt fun v sg' => ∃ g, v = optV g (firstF s (b - a) a) ∧ Has sg' (optH g (firstF s (b - a) a))) := by
  refine ev_of ((t322 ..).trans (bitmap_free.main ..)) ?_
  refine ev_loop (b - a + 1) (fun i st => (∃ p : Nat, p = a + i ∧ st = mkS [0, 2, 3, 9, 10] [.v (vS s) false, .v (vI b) false, .v (vI 1) false, .v (.sl true 1 []) true, .v (vI p) false] [none, none, none, none, none] (.sg []) ∧ p ≤ b ∧ firstF s (b - a) a = firstF s (b - p) p) ∨
    (∃ (g x : Nat) (sg' : Sg) (w : Int), st = mkS [0, 2, 3, 9, 10] [.v (vS s) false, .v (vI b) false, .v (vI 1) false, .v (.gs g 1 0 1) false, .v (vI w) false] [none, none, none, none, none] (.sg sg') ∧ firstF s (b - a) a = some x ∧ Has sg' [(g, .mk [vI x])])) (by omega) (.inl ⟨a, rfl, rfl, hab, rfl⟩) ?_
  rintro i st K hi h hnext hexit _
  rcases h with ⟨p, hp, rfl, hpb, he⟩ | ⟨g, x, sg1, w, rfl, he, h1⟩
  · refine ev_of (bitmap_free.r0 ..) ?_
    refine ev_ite (fun hlt => ?_) (fun hge => ?_)
    · have hlt : p < b := by
        have : (p : Int) < b := by simpa using hlt
        omega
      have e1 : b - p = (b - (p + 1)) + 1 := by omega
      rw [e1] at he
      simp only [firstF] at he
      refine ev_if (by simp) ?_
      refine ev_call used_ok rfl ?_
      rintro _ _ ⟨rfl, rfl⟩
      refine ev_B rfl ?_
      cases hu : usedS s (p : Int) with
      | true =>
        rw [hu, if_pos rfl] at he
        refine ev_else (by simp) ?_
        rw [i64_nat (by omega)]
        exact hnext _ (by omega) (.inl ⟨p + 1, by omega, rfl, by omega, he⟩)
      | false =>
        rw [hu, if_neg (by simp)] at he
        refine ev_if rfl (ev_bif rfl ?_)
        have h2 := (has_nil []).new (Box.mk [vI p])
        refine ev_O (flatG_gs (h2.at (n := 0) rfl) (Nat.le_of_ble_eq_true rfl) (Nat.succ_pos _)) ?_
        refine ev_bie rfl (ev_if (show (1 : Nat) * 8 ≤ 35184372088832 by decide) ?_)
        refine ev_app_nil h2 fun g' sg2 h3 => ?_
        exact hnext _ (by omega) (.inr ⟨g', p, sg2, _, rfl, he, h3.sub (.cons_cons _ (.cons _ (List.Sublist.refl _)))⟩)
    · have hge : p = b := by
        have : ¬ (p : Int) < b := by simpa using hge
        omega
      subst hge
      refine hexit _ _ ?_
      rw [Nat.sub_self] at he
      refine ev_of (bitmap_free.k0_1 ..) (ev_ret ⟨0, ?_, ?_⟩)
      · rw [he]; rfl
      · rw [he]; exact has_nil _
  · refine ev_of (bitmap_free.r0_2 ..) ?_
    have fin : Ev (bitmap_free.K0 (tab N (dp + 2)) N (Ex.exit 0) (mkS [9] [Slot.v (.gs g 1 0 1) false] [none] (RVal.sg sg1))) (Rt fun v sg' => ∃ g, v = optV g (firstF s (b - a) a) ∧ Has sg' (optH g (firstF s (b - a) a))) := by
      refine ev_of (bitmap_free.k0_2 ..) (ev_A (a := .gs g 1 0 1) rfl (ev_ret ⟨g, ?_, ?_⟩))
      · rw [he]; rfl
      · rw [he]; exact h1
    refine ev_ite (fun hlt => ?_) (fun hge => hexit _ _ fin)
    refine ev_O (a := 1) rfl (ev_else (by simp) (hexit _ _ fin))
theorem within_ok {a b : Nat} (hs : s.size = 480) (hab : a ≤ b) (hb : b ≤ 3840) : Ev (tab N (dp + 2) 321 [vS s, vI a, vI b] sg) (Rt fun v _ => v = vB true) := by
  refine ev_of ((t321 ..).trans (bitmap_within.main ..)) ?_
  refine ev_call is_ok rfl ?_
  rintro _ _ rfl
  refine ev_B rfl (ev_if (by simp [hs]) (ev_if (by simp) (ev_if (by simp; omega) (ev_ret ?_))))
  have : (b : Int) ≤ 3840 := by omega
  simp [this]
theorem thaw_one {g : Nat} {x : Int} (h : sg[g]? = some (.mk [vI x])) : thaw 8 sg (.gs g 1 0 1) = some (.sl false 1 [vI x]) := by
  simp [thaw, noG, thawL, chunks, h, Box.cells]; rfl
def lowV : Option Nat → AVal
  | none => .tup [.sl true 1 [], vI 13]
  | some x => .tup [.sl false 1 [vI x], vI 0]
theorem low_ok {a b : Nat} (hs : s.size = 480) (hab : a ≤ b) (hb : b ≤ 3840) (hN : 5000 < N) :
    Ev (tab N (dp + 4) 228 [vS s, vI a, vI b, vI 1] sg) (Rt fun v sg' => v = lowV (firstF s (b - a) a)) := by
  refine ev_of ((t228 ..).trans (bitmap_Lowest.main ..)) ?_
  refine ev_call (within_ok hs hab hb) rfl ?_
  rintro _ _ rfl
  refine ev_B rfl (ev_if rfl (ev_else (by decide) ?_))
  refine ev_call (free_ok hab hb hN) rfl ?_
  rintro _ sg1 ⟨g, rfl, h1⟩
  cases hf : firstF s (b - a) a with
  | none =>
    refine ev_O (a := .sl true 1 []) rfl (ev_bif rfl (ev_O (a := 0) rfl (ev_if (by decide) (ev_ret rfl))))
  | some x =>
    rw [hf] at h1
    refine ev_O (thaw_one (h1.at (n := 0) rfl)) (ev_bif rfl (ev_O (a := 1) rfl (ev_else (by decide) (ev_A (a := .sl false 1 [vI x]) rfl (ev_ret rfl)))))
/-- One number, by value or in a box. -/
def OneH (a : AVal) (x : Int) (H : Hp) : Prop := (∃ nn, a = .sl nn 1 [vI x] ∧ H = []) ∨ ∃ g, a = .gs g 1 0 1 ∧ H = [(g, .mk [vI x])]
theorem ev_one {Q : Out → Prop} {a : AVal} {x : Int} {c : Int → Option Out} (hI : OneH a x H) (hL : Has sg L) (hs : ∀ q, q ∈ H → q ∈ L) (h : Ev (c x) Q) :
    Ev (withO (elemV 1 ((0 : Nat) : Int) a) fun r => withO (loadC none sg r) fun p => withI IntKind.i64 p.fst[p.snd]? c) Q := by
  rcases hI with ⟨nn, rfl, rfl⟩ | ⟨g, rfl, rfl⟩
  · exact ev_O (a := .ep [vI x]) rfl (ev_O (a := ([vI x], 0)) rfl (ev_I rfl h))
  · obtain ⟨n, hn⟩ := List.mem_iff_getElem?.1 (hs (g, .mk [vI x]) (by simp))
    exact ev_elem (by decide) (by decide) (ev_ldI hL n hn rfl h)
theorem OneH.len {a : AVal} {x : Int} (h : OneH a x H) : lenV a = some 1 := by
  rcases h with ⟨nn, rfl, rfl⟩ | ⟨g, rfl, rfl⟩ <;> rfl
theorem OneH.plain {a : AVal} {x : Int} (h : OneH a x H) : plainA a = some a := by
  rcases h with ⟨nn, rfl, rfl⟩ | ⟨g, rfl, rfl⟩ <;> rfl
theorem turn1_ok {x : Int} {on : Bool} {m0 m1 : Nat} {t : ByteArray} (h0 : L[0]? = some (m0, .mk [vS t])) (h1 : L[1]? = some (m1, .mk [vB on])) (h : Has sg L) :
    Ev (tab N (dp + 3) 323 [vI x, .gp m0 0, .gp m1 0] sg) (Rt fun v sg' => v = vB (!(decide (0 ≤ x ∧ x < 3840)) || usedS t x == on) ∧ sg' = sg) := by
  refine ev_of ((t323 ..).trans (bitmap_turn_1.main ..)) ?_
  refine ev_call bpage_ok rfl ?_
  rintro _ _ rfl
  refine ev_B rfl (ev_ite (fun h2 => ?_) (fun h2 => ev_ret ⟨?_, rfl⟩))
  · refine ev_ldS h 0 h0 rfl ?_
    refine ev_call used_ok rfl ?_
    rintro _ _ ⟨rfl, rfl⟩
    refine ev_B rfl (ev_ldB h 1 h1 rfl (ev_ret ⟨?_, rfl⟩))
    have h2 : (!(decide (0 ≤ x ∧ x < 3840))) = false := h2
    rw [h2]; simp
  · have h2 : (!(decide (0 ≤ x ∧ x < 3840))) = true := by
      cases hb : (!(decide (0 ≤ x ∧ x < 3840))) with
      | true => rfl
      | false => exact absurd hb h2
    rw [h2]; rfl
def turnV (s : ByteArray) (x : Int) (on : Bool) : AVal := if okI s x = true ∧ usedS s x = !on then .tup [vS (setS s x on), vI 0] else .tup [vS ⟨#[]⟩, vI 18]
theorem turn_ok {a : AVal} {x : Int} {on : Bool} (hI : OneH a x H) (hs : s.size = 480) (h : Has sg L) (hH : ∀ q, q ∈ H → q ∈ L) (hN : 5 < N) :
    Ev (tab N (dp + 4) 229 [vS s, a, vB on] sg) (Rt fun v sg' => v = turnV s x on ∧ Has sg' L) := by
  refine ev_of ((t229 ..).trans (bitmap_turn.main ..)) (ev_O hI.len ?_)
  have h1 := h.new (.mk [vS s])
  have h2 := h1.new (.mk [vB on])
  have h3 : Has (sg ++ [Box.mk [vS s]] ++ [Box.mk [vB on]]) ((sg.length, .mk [vS s]) :: ((sg ++ [Box.mk [vS s]]).length, .mk [vB on]) :: L) := h2.perm (List.Perm.swap _ _ _)
  generalize sg.length = m0 at h3 ⊢
  generalize (sg ++ [Box.mk [vS s]]).length = m1 at h3 ⊢
  refine ev_loop 1 (fun i st => ∃ sg' t, st = mkS [3, 5, 8, 13, 14, 15] [.v (.gp m0 0) false, .v (.gp m1 0) false, .v (.clo 323 [] [.gp m0 0, .gp m1 0]) false, .v a false, .v (vI (1 : Nat)) false, .v (vI i) false] [none, none, none, none, none, none] (.sg sg') ∧
    Has sg' ((m0, .mk [vS t]) :: (m1, .mk [vB on]) :: L) ∧ ((i = 0 ∧ t = s) ∨ (i = 1 ∧ okI s x = true ∧ usedS s x = !on ∧ t = setS s x on))) (by omega) ⟨_, s, rfl, h3, .inl ⟨rfl, rfl⟩⟩ ?_
  rintro i st K hi ⟨sg1, t, rfl, h4, hc⟩ hnext hexit hret
  refine ev_of (bitmap_turn.r0 ..) ?_
  rcases hc with ⟨rfl, rfl⟩ | ⟨rfl, hc1, hc2, rfl⟩
  · refine ev_if (by simp) ?_
    refine ev_one hI h4 (fun q hq => by simp [hH q hq]) ?_
    refine ev_call (turn1_ok (t := t) rfl rfl h4) rfl ?_
    rintro _ _ ⟨rfl, rfl⟩
    refine ev_B rfl (ev_ite (fun hb => ?_) (fun hb => ?_))
    · refine hret _ ?_
      refine ev_of (bitmap_turn.k0_1 ..) (ev_ret ⟨?_, h4.tail.tail⟩)
      have : ¬ (okI t x = true ∧ usedS t x = !on) := by
        rintro ⟨c1, c2⟩
        have := (okI_nat hs x).1 c1
        rw [c2] at hb
        cases on <;> simp [this] at hb
      rw [turnV, if_neg this]
    · have hx : 0 ≤ x ∧ x < 3840 := by
        by_cases hx : 0 ≤ x ∧ x < 3840
        · exact hx
        · simp [hx] at hb
      have hu : usedS t x = !on := by
        simp only [hx, decide_true] at hb
        cases on <;> cases h : usedS t x <;> simp [h] at hb ⊢
      have hok := (okI_nat hs x).2 hx
      refine ev_ldS h4 0 rfl rfl (ev_ldB h4 1 rfl rfl ?_)
      refine ev_call (set_ok hok) rfl ?_
      rintro _ _ rfl
      refine ev_T (ev_bif rfl (ev_S rfl (ev_I rfl ?_)))
      refine ev_st h4 0 rfl rfl (Nat.le_of_ble_eq_true rfl) (Nat.succ_pos _) fun sg2 h5 => ?_
      refine ev_else (by decide) ?_
      exact hnext _ (by omega) ⟨sg2, _, rfl, h5, .inr ⟨rfl, hok, hu, rfl⟩⟩
  · refine ev_else (by simp) ?_
    refine hexit _ _ ?_
    refine ev_of (bitmap_turn.k0_2 ..) (ev_ldS h4 0 rfl rfl ?_)
    refine ev_call is_ok rfl ?_
    rintro _ _ rfl
    refine ev_B rfl (ev_else (by simp [set_size hc1]) (ev_ldS h4 0 rfl rfl (ev_ret ⟨?_, h4.tail.tail⟩)))
    rw [turnV, if_pos ⟨hc1, hc2⟩]
def takeV (s : ByteArray) : Option Nat → AVal
  | none => .tup [.sl true 1 [], vS ⟨#[]⟩, vI 13]
  | some x => .tup [.sl false 1 [vI x], vS (setS s x true), vI 0]
theorem btake_ok {a b : Nat} (hs : s.size = 480) (hab : a ≤ b) (hb : b ≤ 3840) (hN : 5000 < N) :
    Ev (tab N (dp + 5) 124 [vS s, vI a, vI b, vI 1] sg) (Rt fun v sg' => v = takeV s (firstF s (b - a) a)) := by
  refine ev_of ((t124 ..).trans (bitmap_Take.main ..)) ?_
  refine ev_call (low_ok hs hab hb hN) rfl ?_
  rintro _ sg1 rfl
  cases hf : firstF s (b - a) a with
  | none =>
    refine ev_O (a := .tup [.sl true 1 [], vI 13]) rfl (ev_T (ev_bif rfl (ev_A rfl (ev_I rfl (ev_bif rfl (ev_if (by decide) (ev_ret rfl)))))))
  | some x =>
    have hx := firstF_some hf
    refine ev_O (a := .tup [.sl false 1 [vI x], vI 0]) rfl (ev_T (ev_bif rfl (ev_A rfl (ev_I rfl (ev_bif rfl (ev_else (by decide) (ev_A rfl ?_)))))))
    refine ev_call (turn_ok (x := (x : Int)) (H := []) (.inl ⟨false, rfl, rfl⟩) hs (has_nil _) (fun q hq => by cases hq) (by omega)) rfl ?_
    rintro _ sg2 ⟨rfl, _⟩
    have : turnV s (x : Int) true = .tup [vS (setS s x true), vI 0] := by
      rw [turnV, if_pos ⟨(okI_nat hs _).2 ⟨by omega, by omega⟩, by simpa using hx.2.2⟩]
    rw [this]
    exact ev_T (ev_bif rfl (ev_S rfl (ev_I rfl (ev_A (a := .sl false 1 [vI x]) rfl (ev_ret rfl)))))
theorem bgive_ok {a : AVal} {x : Int} (hI : OneH a x H) (hs : s.size = 480) (h : Has sg L) (hH : ∀ q, q ∈ H → q ∈ L) (hN : 5 < N) :
    Ev (tab N (dp + 5) 127 [vS s, a] sg) (Rt fun v sg' => v = turnV s x false ∧ Has sg' L) := by
  refine ev_of ((t127 ..).trans (bitmap_Give.main ..)) (ev_A hI.plain ?_)
  refine ev_call (turn_ok (on := false) hI hs h hH hN) rfl ?_
  rintro _ sg1 ⟨rfl, h1⟩
  unfold turnV
  split
  · exact ev_T (ev_bif rfl (ev_S rfl (ev_I rfl (ev_ret ⟨rfl, h1⟩))))
  · exact ev_T (ev_bif rfl (ev_S rfl (ev_I rfl (ev_ret ⟨rfl, h1⟩))))
end Go.Abs
