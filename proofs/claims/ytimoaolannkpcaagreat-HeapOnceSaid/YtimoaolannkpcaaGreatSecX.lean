/- BYTES AND SECTORS: what their functions give, as far as it matters: how long, and that nothing is wrong. -/
import Derived.Test.YtimoaolannkpcaaGreatDkX
set_option linter.unusedVariables false
set_option linter.unusedSimpArgs false
set_option linter.unusedSectionVars false
namespace Go.Abs
open Go
set_option linter.unusedVariables false
set_option maxRecDepth 100000
abbrev v8 (n : Int) : AVal := .at (.int .u8 n)
abbrev v32 (n : Int) : AVal := .at (.int .u32 n)
theorem catS_size (a b : ByteArray) : (catS a b).size = a.size + b.size := by rw [catS_eq]; simp
theorem szle {n : Nat} (h : n ≤ 1000000000) : ¬ ((n : Int) > IntKind.i64.max) := by
  have e : IntKind.i64.max = 9223372036854775807 := by decide
  rw [e]; omega
theorem i64_in {n : Int} (h : -9223372036854775808 ≤ n ∧ n ≤ 9223372036854775807) : IntKind.i64.wrap n = n := Go.IntWalk.i64_in n h
theorem splice_len {cs xs : List AVal} {o : Nat} (h : o + xs.length ≤ cs.length) : (splice cs o xs).length = cs.length := by
  simp only [splice, List.length_append, List.length_take, List.length_drop]; omega
theorem splice_mem {cs xs : List AVal} {o : Nat} {a : AVal} (h : a ∈ splice cs o xs) : a ∈ cs ∨ a ∈ xs := by
  simp only [splice, List.mem_append] at h
  rcases h with h | h | h
  · exact .inl (List.mem_of_mem_take h)
  · exact .inr h
  · exact .inl (List.mem_of_mem_drop h)
theorem bytes_some : ∀ {cs : List AVal}, (∀ a, a ∈ cs → ∃ m, a = v8 m) → ∃ bs, bytesOf cs = some bs ∧ bs.length = cs.length
  | [], _ => ⟨[], rfl, rfl⟩
  | a :: cs, h => by
    obtain ⟨m, rfl⟩ := h a (by simp)
    obtain ⟨bs, h1, h2⟩ := bytes_some (cs := cs) fun a ha => h a (by simp [ha])
    refine ⟨UInt8.ofNat m.toNat :: bs, ?_, by simp [h2]⟩
    simp only [bytesOf, h1]
variable {N dp : Nat} {sg : Sg}
theorem width_ok {w : Int} (h1 : 1 ≤ w) (h2 : w ≤ 8) : Ev (tab N (dp + 1) 277 [vI w] sg) (Rt fun v _ => v = vB true) := by
  refine ev_of ((t277 ..).trans (octets_width.main ..)) ?_
  refine ev_if (by simpa using h1) (ev_ret ?_)
  rw [decide_eq_true h2]
theorem num_ok {w n : Int} (h1 : 1 ≤ w) (h2 : w ≤ 8) (hN : 10 < N) : Ev (tab N (dp + 2) 194 [vI w, vU n] []) (Rt fun v _ => ∃ s, v = vS s ∧ (s.size : Int) = w) := by
  refine ev_of ((t194 ..).trans (octets_Num.main ..)) ?_
  refine ev_call (width_ok h1 h2) rfl ?_
  rintro _ _ rfl
  refine ev_B rfl (ev_else (by decide) ?_)
  have h0 := (has_nil []).new (Box.mk [v8 0, v8 0, v8 0, v8 0, v8 0, v8 0, v8 0, v8 0])
  refine ev_loop w.toNat (fun i st => ∃ sg cs, st = mkS [0, 1, 5, 10, 11] [.v (vI w) false, .v (vU n) false, .v (.gp 0 0) false, .v (vI w) false, .v (vI i) false] [none, none, none, none, none] (.sg sg) ∧
    Has sg [(0, .mk cs)] ∧ cs.length = 8 ∧ ∀ a, a ∈ cs → ∃ m, a = v8 m) (by omega) ⟨_, _, rfl, h0, rfl, fun a ha => by simp at ha; exact ⟨0, ha⟩⟩ ?_
  rintro i st K hi ⟨sg1, cs, rfl, h1', hl, hm⟩ hnext hexit _
  refine ev_of (octets_Num.r0 ..) ?_
  refine ev_ite (fun hlt => ?_) (fun hge => ?_)
  · have hlt : (i : Int) < w := by simpa using hlt
    have e1 : IntKind.i64.wrap (8 * (i : Int)) = 8 * i := i64_in (by omega)
    have e2 : IntKind.i64.wrap (IntKind.i64.wrap (w - 1) - i) = w - 1 - i := by rw [i64_in (n := w - 1) (by omega), i64_in (by omega)]
    rw [e1, e2]
    refine ev_else (by omega) (ev_if (by omega) ?_)
    refine ev_st h1' 0 rfl rfl ?_ (by show 0 < cs.length; omega) fun sg2 h2' => ?_
    · show 0 + (w - 1 - i).toNat * 1 + 1 ≤ cs.length
      omega
    · rw [i64_nat (by omega)]
      refine hnext _ (by omega) ⟨sg2, _, rfl, h2', ?_, fun a ha => ?_⟩
      · rw [splice_len]
        · exact hl
        · show 0 + (w - 1 - i).toNat * 1 + 1 ≤ cs.length
          omega
      · rcases splice_mem ha with ha | ha
        · exact hm a ha
        · exact ⟨_, List.mem_singleton.1 ha⟩
  · refine hexit _ _ ?_
    refine ev_of (octets_Num.k0_1 ..) ?_
    refine ev_if (by omega) ?_
    refine ev_O (h1'.at (n := 0) rfl) ?_
    refine ev_bif (by simp [hl]) ?_
    refine ev_O (flatG_gs (h1'.at (n := 0) rfl) (by simp [hl]; omega) (by simp [hl])) ?_
    obtain ⟨bs, k1, k2⟩ := bytes_some (cs := (cs.drop 0).take (w.toNat * 1)) fun a ha => hm a (List.mem_of_mem_take ha)
    refine ev_O k1 (ev_ret ⟨_, rfl, ?_⟩)
    show ((bs.toArray.size : Nat) : Int) = w
    simp only [List.size_toArray, k2, List.length_take, List.length_drop, hl]
    omega
theorem short_ok {n : Int} (h1 : 0 ≤ n) (h2 : n ≤ 65535) : Ev (tab N (dp + 1) 383 [vI n] sg) (Rt fun v _ => v = vB true) := by
  refine ev_of ((t383 ..).trans (sector_short.main ..)) ?_
  refine ev_if (by simpa using h1) (ev_ret ?_)
  rw [decide_eq_true h2]
theorem nib_lt' {x : Nat} (hx : x < 4294967296) : nib x < 4294967296 := by
  have h1 : x >>> 4 < 4294967296 := Nat.lt_of_le_of_lt (Nat.shiftRight_le ..) hx
  have h2 : ∀ j, crcT.getD j 0 < 4294967296 := fun j => by
    rcases Nat.lt_or_ge j 16 with h | h
    · exact List.all_eq_true.1 (show (List.range 16).all (fun j => decide (crcT.getD j 0 < 4294967296)) = true by decide) j (List.mem_range.2 h) |> of_decide_eq_true
    · have : crcT[j]? = none := List.getElem?_eq_none h
      simp [List.getD_eq_getElem?_getD, this]
  exact Nat.xor_lt_two_pow (n := 32) h1 (h2 _)
theorem crcL_lt : ∀ (l : List UInt8) {c : Nat}, c < 4294967296 → crcL l c < 4294967296
  | [], c, h => h
  | x :: l, c, h => by
    simp only [crcL, seqN_eq]
    have hx : x.toNat < 2 ^ 32 := Nat.lt_of_lt_of_le x.toNat_lt (by decide)
    exact crcL_lt l (nib_lt' (nib_lt' (Nat.xor_lt_two_pow (n := 32) h hx)))
theorem more_ok {c : Nat} {s : ByteArray} (hc : c < 4294967296) (hs : s.size ≤ 1000000000) : Ev (tab N (dp + 1) 380 [v32 c, vS s] sg) (Rt fun v _ => ∃ n : Nat, v = v32 n ∧ n < 4294967296) := by
  refine ev_of (t380 ..) ?_
  unfold ovMore
  refine ev_if ⟨by omega, by omega, ?_⟩ (ev_ret ⟨_, rfl, ?_⟩)
  · rw [Array.length_toList]; show s.size < _; omega
  · exact Nat.xor_lt_two_pow (n := 32) (crcL_lt _ (Nat.xor_lt_two_pow (n := 32) (by omega) (by decide))) (by decide)
theorem sum_ok {s : ByteArray} (hs : s.size ≤ 1000000000) : Ev (tab N (dp + 2) 381 [vS s] sg) (Rt fun v _ => ∃ n : Nat, v = v32 n ∧ n < 4294967296) := by
  refine ev_of ((t381 ..).trans (crc_Sum.main ..)) ?_
  refine ev_call (more_ok (c := 0) (by decide) hs) rfl ?_
  rintro _ _ ⟨n, rfl, hn⟩
  exact ev_I rfl (ev_ret ⟨n, rfl, hn⟩)
abbrev secV (kind ep num at_ many : Int) (p : ByteArray) : AVal := .agg [vI kind, vU ep, vU num, vI at_, vI many, vS p]
theorem check_ok {kind ep num a m : Int} {p : ByteArray} (hk : 1 ≤ kind ∧ kind ≤ 4) (ha : 0 ≤ a ∧ a ≤ 65535) (hm : 0 ≤ m ∧ m ≤ 65535) (hp : p.size = 480) :
    Ev (tab N (dp + 2) 332 [secV kind ep num a m p] sg) (Rt fun v _ => v = vI 0) := by
  refine ev_of ((t332 ..).trans (sector_Check.main ..)) ?_
  refine ev_I rfl (ev_if (by simp; omega) ?_)
  refine ev_I rfl (ev_if (by simp; omega) ?_)
  refine ev_I rfl (ev_call (short_ok ha.1 ha.2) rfl ?_)
  rintro _ _ rfl
  refine ev_B rfl (ev_if rfl ?_)
  refine ev_I rfl (ev_call (short_ok hm.1 hm.2) rfl ?_)
  rintro _ _ rfl
  refine ev_B rfl (ev_if rfl ?_)
  exact ev_S rfl (ev_else (by simp [hp]) (ev_ret rfl))
theorem seal_ok {kind ep num a m : Int} {p : ByteArray} (hk : 1 ≤ kind ∧ kind ≤ 4) (ha : 0 ≤ a ∧ a ≤ 65535) (hm : 0 ≤ m ∧ m ≤ 65535) (hp : p.size = 480) (hN : 10 < N) :
    Ev (tab N (dp + 3) 328 [secV kind ep num a m p] []) (Rt fun v _ => ∃ s, v = .tup [vS s, vI 0] ∧ s.size = 512) := by
  refine ev_of ((t328 ..).trans (sector_Seal.main ..)) ?_
  refine ev_call (check_ok hk ha hm hp) rfl ?_
  rintro _ _ rfl
  refine ev_I rfl (ev_else (by decide) ?_)
  refine ev_I rfl (ev_call (num_ok (w := 1) (by decide) (by decide) hN) rfl ?_)
  rintro _ _ ⟨s1, rfl, e1⟩
  refine ev_S rfl (ev_call (num_ok (w := 1) (n := 0) (by decide) (by decide) hN) rfl ?_)
  rintro _ _ ⟨s2, rfl, e2⟩
  refine ev_S rfl (ev_else (szle (by omega)) ?_)
  refine ev_I rfl (ev_call (num_ok (w := 2) (by decide) (by decide) hN) rfl ?_)
  rintro _ _ ⟨s3, rfl, e3⟩
  refine ev_S rfl (ev_else (szle (by simp only [catS_size]; omega)) ?_)
  refine ev_I rfl (ev_call (num_ok (w := 2) (by decide) (by decide) hN) rfl ?_)
  rintro _ _ ⟨s4, rfl, e4⟩
  refine ev_S rfl (ev_else (szle (by simp only [catS_size]; omega)) ?_)
  refine ev_call (num_ok (w := 2) (n := 0) (by decide) (by decide) hN) rfl ?_
  rintro _ _ ⟨s5, rfl, e5⟩
  refine ev_S rfl (ev_else (szle (by simp only [catS_size]; omega)) ?_)
  refine ev_I rfl (ev_call (num_ok (w := 8) (by decide) (by decide) hN) rfl ?_)
  rintro _ _ ⟨s6, rfl, e6⟩
  refine ev_S rfl (ev_else (szle (by simp only [catS_size]; omega)) ?_)
  refine ev_I rfl (ev_call (num_ok (w := 8) (by decide) (by decide) hN) rfl ?_)
  rintro _ _ ⟨s7, rfl, e7⟩
  refine ev_S rfl (ev_else (szle (by simp only [catS_size]; omega)) ?_)
  refine ev_call (num_ok (w := 4) (n := 0) (by decide) (by decide) hN) rfl ?_
  rintro _ _ ⟨s8, rfl, e8⟩
  refine ev_S rfl (ev_else (szle (by simp only [catS_size]; omega)) ?_)
  refine ev_call (sum_ok (by simp only [catS_size]; omega)) rfl ?_
  rintro _ _ ⟨c, rfl, hc⟩
  refine ev_I rfl (ev_S rfl ?_)
  refine ev_call (more_ok hc (by omega)) rfl ?_
  rintro _ _ ⟨c2, rfl, hc2⟩
  refine ev_I rfl (ev_call (num_ok (w := 4) (by decide) (by decide) hN) rfl ?_)
  rintro _ _ ⟨s9, rfl, e9⟩
  refine ev_S rfl (ev_else (szle (by simp only [catS_size]; omega)) ?_)
  refine ev_S rfl (ev_else (szle (by simp only [catS_size]; omega)) ?_)
  exact ev_ret ⟨_, rfl, by simp only [catS_size]; omega⟩
/-- A text of noughts. -/
def zeros (n : Nat) : ByteArray := ⟨⟨List.replicate n 0⟩⟩
theorem zeros_size (n : Nat) : (zeros n).size = n := by
  show (List.replicate n (0 : UInt8)).toArray.size = n
  simp
theorem repB_zero : ∀ n, repB [0] n = List.replicate n (0 : UInt8)
  | 0 => rfl
  | n + 1 => by simp [repB, repB_zero n, List.replicate_succ]
theorem pad_ok {n : Int} (h1 : 0 < n) (h2 : n ≤ 65536) : Ev (tab N (dp + 2) 126 [vS ⟨#[]⟩, vI n] sg) (Rt fun v sg' => v = vS (zeros n.toNat) ∧ sg' = sg) := by
  refine ev_of ((t126 ..).trans (octets_Pad.main ..)) ?_
  refine ev_if (by simp; omega) ?_
  have e0 : (ByteArray.mk #[]).size = 0 := rfl
  refine ev_else (by simp [e0]; omega) ?_
  have e1 : IntKind.i64.wrap (n - ((ByteArray.mk #[]).size : Int)) = n := by rw [e0, i64_in (by omega)]; omega
  rw [e1]
  refine ev_call (φ := fun v _ => v = vS (zeros n.toNat)) ?_ rfl ?_
  · refine ev_of (t230 ..) ?_
    show Ev (if 0 ≤ n ∧ n ≤ 9223372036854775807 ∧ [(0 : UInt8)].length * n.toNat ≤ 140737488355328 then some (.ret (.at (.string ⟨⟨repB [0] n.toNat⟩⟩)) []) else none) _
    refine ev_if ⟨by omega, by omega, by simp; omega⟩ (ev_ret ?_)
    rw [repB_zero]; rfl
  · rintro _ _ rfl
    refine ev_S rfl (ev_else (szle (by rw [e0, zeros_size]; omega)) (ev_ret ⟨?_, rfl⟩))
    congr 2
theorem blank_ok : Ev (tab N (dp + 3) 131 [] sg) (Rt fun v _ => v = vS (zeros 512)) := by
  refine ev_of ((t131 ..).trans (sector_Blank.main ..)) ?_
  refine ev_call (pad_ok (n := 512) (by decide) (by decide)) rfl ?_
  rintro _ _ ⟨rfl, rfl⟩
  exact ev_S rfl (ev_ret rfl)
theorem noughts_ok {s : ByteArray} : Ev (tab N (dp + 2) 333 [vS s] sg) (Rt fun v _ => ∃ b, v = vB b) := by
  refine ev_of ((t333 ..).trans (octets_Noughts.main ..)) ?_
  refine ev_call (φ := fun v _ => ∃ n, v = vI n) ?_ rfl ?_
  · refine ev_of (t384 ..) (ev_ret ⟨_, rfl⟩)
  · rintro _ _ ⟨n, rfl⟩
    exact ev_I rfl (ev_ret ⟨_, rfl⟩)
theorem home_ok {p : Int} {s : ByteArray} (ha : 0 ≤ p ∧ p ≤ 65535) (hp : s.size = 480) (hN : 10 < N) : Ev (tab N (dp + 4) 245 [vI p, vS s] []) (Rt fun v _ => ∃ b, v = .tup [vS b, vI 0] ∧ b.size = 512) := by
  refine ev_of ((t245 ..).trans (sector_Home.main ..)) ?_
  refine ev_call (check_ok (by decide) ha (by decide) hp) rfl ?_
  rintro _ _ rfl
  refine ev_I rfl (ev_if rfl ?_)
  refine ev_call noughts_ok rfl ?_
  rintro _ _ ⟨b, rfl⟩
  refine ev_B rfl (ev_ite (fun _ => ?_) (fun _ => ?_))
  · refine ev_call blank_ok rfl ?_
    rintro _ _ rfl
    exact ev_S rfl (ev_ret ⟨_, rfl, zeros_size _⟩)
  · refine ev_call (seal_ok (by decide) ha (by decide) hp hN) rfl ?_
    rintro _ _ ⟨b, rfl, hb⟩
    exact ev_T (ev_bif rfl (ev_S rfl (ev_I rfl (ev_ret ⟨b, rfl, hb⟩))))
end Go.Abs
