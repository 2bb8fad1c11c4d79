/- What the functions of the program come to, one after another: several texts joined. -/
import Derived.Test.YtimoaolannkpcaaGreatTxtB
import Derived.Test.YtimoaolannkpcaaGreatTxtA
import Derived.Test.YtimoaolannkpcaaGreatRsB
set_option linter.unusedVariables false
set_option linter.unusedSimpArgs false
set_option linter.unusedSectionVars false
namespace Go.Abs
open Go
set_option linter.unusedVariables false
set_option maxRecDepth 100000
def padL (n : Nat) (l : List UInt8) : List UInt8 := l ++ List.replicate (n - l.length) 0
def pgL (next : Nat) (t : List UInt8) : List UInt8 := padL 480 (numL 2 next ++ (numL 2 t.length ++ t))
theorem pgL_len {next : Nat} {t : List UInt8} (h : t.length ≤ 476) : (pgL next t).length = 480 := by
  simp only [pgL, padL, List.length_append, List.length_replicate, numL_len]; omega
abbrev Chain := List (Nat × List UInt8)
def nx : Chain → Nat
  | [] => 0
  | (p, _) :: _ => p
def Chn (V : Int → ByteArray) : Chain → Prop
  | [] => True
  | (p, t) :: r => V p = tx (pgL (nx r) t) ∧ Chn V r
def Cutd : Chain → Prop
  | [] => True
  | (p, t) :: r => 1 ≤ t.length ∧ t.length ≤ 476 ∧ (r ≠ [] → t.length = 476) ∧ Cutd r
def bodyL (c : Chain) : List UInt8 := (c.map (·.2)).flatten
def pgsL (c : Chain) : List Nat := c.map (·.1)
theorem Chn.congr {V W : Int → ByteArray} : ∀ {c : Chain}, Chn V c → (∀ p, p ∈ pgsL c → V p = W p) → Chn W c
  | [], _, _ => trivial
  | (p, t) :: r, h, e => ⟨(e p (by simp [pgsL])).symm.trans h.1, Chn.congr h.2 fun q hq => e q (by simp only [pgsL, List.map_cons, List.mem_cons]; exact .inr hq)⟩
def cutF : Nat → List UInt8 → List (List UInt8)
  | 0, _ => []
  | f + 1, l => if l = [] then [] else l.take 476 :: cutF f (l.drop 476)
theorem cutF_flat : ∀ (f : Nat) (l : List UInt8), l.length ≤ f → (cutF f l).flatten = l
  | 0, l, h => by simp at h; subst h; rfl
  | f + 1, l, h => by
    simp only [cutF]
    split
    · rename_i h0; subst h0; rfl
    · rename_i h0
      have : 0 < l.length := List.length_pos_iff.2 h0
      rw [List.flatten_cons, cutF_flat f _ (by rw [List.length_drop]; omega), List.take_append_drop]
theorem cutd_of : ∀ (f : Nat) (l : List UInt8) (ps : List Nat), l.length ≤ f → ps.length = (cutF f l).length → Cutd (ps.zip (cutF f l))
  | 0, l, ps, h, e => by simp [cutF] at e; subst e; trivial
  | f + 1, l, ps, h, e => by
    simp only [cutF] at e ⊢
    split at e
    · rename_i h0; rw [if_pos h0]; simp at e; subst e; trivial
    · rename_i h0
      rw [if_neg h0]
      have : 0 < l.length := List.length_pos_iff.2 h0
      match ps, e with
      | p :: ps, e =>
        simp only [List.length_cons, Nat.add_right_cancel_iff] at e
        refine ⟨by rw [List.length_take]; omega, by rw [List.length_take]; omega, fun hr => ?_, cutd_of f _ ps (by rw [List.length_drop]; omega) e⟩
        have : (cutF f (l.drop 476)) ≠ [] := by
          rintro e2
          apply hr
          show ps.zip (cutF f (l.drop 476)) = []
          rw [e2]; simp
        have : l.drop 476 ≠ [] := by
          rintro e2
          rw [e2] at this
          apply this
          cases f <;> rfl
        have := List.length_pos_iff.2 this
        rw [List.length_drop] at this
        rw [List.length_take]; omega
theorem cutF_len : ∀ (f : Nat) (l : List UInt8), l.length ≤ f → (cutF f l).length = (l.length + 475) / 476
  | 0, l, h => by simp at h; subst h; rfl
  | f + 1, l, h => by
    simp only [cutF]
    split
    · rename_i h0; subst h0; rfl
    · rename_i h0
      have : 0 < l.length := List.length_pos_iff.2 h0
      rw [List.length_cons, cutF_len f _ (by rw [List.length_drop]; omega), List.length_drop]
      omega
theorem pgsL_zip : ∀ (ps : List Nat) (ts : List (List UInt8)), ps.length = ts.length → pgsL (ps.zip ts) = ps
  | [], ts, h => by simp [pgsL]
  | p :: ps, t :: ts, h => by
    have := pgsL_zip ps ts (by simpa using h)
    simp only [pgsL] at this
    simp only [pgsL, List.zip_cons_cons, List.map_cons, this]
theorem bodyL_zip : ∀ (ps : List Nat) (ts : List (List UInt8)), ps.length = ts.length → bodyL (ps.zip ts) = ts.flatten
  | [], ts, h => by cases ts with
    | nil => rfl
    | cons => simp at h
  | p :: ps, t :: ts, h => by
    have := bodyL_zip ps ts (by simpa using h)
    simp only [bodyL] at this
    simp only [bodyL, List.zip_cons_cons, List.map_cons, List.flatten_cons, this]
theorem bodyL_cons (p : Nat) (t : List UInt8) (r : Chain) : bodyL ((p, t) :: r) = t ++ bodyL r := by simp [bodyL]
theorem Cutd.pos {c : Chain} (h : Cutd c) (hne : c ≠ []) : 0 < (bodyL c).length := by
  match c, h with
  | (p, t) :: r, h => rw [bodyL_cons, List.length_append]; have := h.1; omega
theorem Cutd.zero {c : Chain} (h : Cutd c) (e : (bodyL c).length = 0) : c = [] := by
  cases c with
  | nil => rfl
  | cons x r => have := h.pos (by simp); omega
theorem Cutd.many {c : Chain} (h : Cutd c) : c.length = ((bodyL c).length + 475) / 476 := by
  induction c with
  | nil => rfl
  | cons x r ih =>
    obtain ⟨p, t⟩ := x
    obtain ⟨h1, h2, h3, h4⟩ := h
    rw [bodyL_cons, List.length_append, List.length_cons, ih h4]
    by_cases hr : r = []
    · subst hr; simp [bodyL]; omega
    · rw [h3 hr]; omega
structure Tkn (n : Nat) (pgs : List ByteArray) (o o' : List (Int × ByteArray)) (ps : List Nat) : Prop where
  ok : OvOk n o'
  nd : ps.Nodup
  rg : ∀ x, x ∈ ps → 2 ≤ x ∧ x < n ∧ usedS (cur o pgs 1) x = false
  bit : ∀ x : Nat, usedS (cur o' pgs 1) x = (usedS (cur o pgs 1) x || decide (x ∈ ps))
  oth : ∀ i : Int, i ≠ 1 → (∀ p : Nat, p ∈ ps → i ≠ p) → cur o' pgs i = cur o pgs i
  low : ∀ x, x ∈ ps → ∀ y : Nat, 2 ≤ y → y < x → usedS (cur o pgs 1) y = true ∨ y ∈ ps
  asc : ps.Pairwise (· < ·)
  key : ∀ x : Int, x ∈ o'.map (·.1) → x = 1 ∨ (∃ p : Nat, p ∈ ps ∧ x = p) ∨ x ∈ o.map (·.1)
theorem firstF_low {s : ByteArray} : ∀ {n i x : Nat}, firstF s n i = some x → ∀ j, i ≤ j → j < x → usedS s (j : Int) = true
  | 0, i, x, h, _, _, _ => by simp [firstF] at h
  | n + 1, i, x, h, j, h1, h2 => by
    simp only [firstF] at h
    split at h
    · rename_i hu
      rcases Nat.eq_or_lt_of_le h1 with rfl | h1
      · exact hu
      · exact firstF_low h j h1 h2
    · cases h; omega
variable {n : Nat} {pgs : List ByteArray} {o o' : List (Int × ByteArray)} {ps : List Nat}
theorem Tkn.nil (h : OvOk n o) : Tkn n pgs o o [] := ⟨h, by simp, by simp, by simp, fun _ _ _ => rfl, by simp, by simp, fun x hx => .inr (.inr hx)⟩
theorem Tkn.snoc (h : Tkn n pgs o o' ps) (hp : pgs.length = n) (hs : ∀ t, t ∈ pgs → t.size = 480) (hn : 8 ≤ n ∧ n ≤ 3840) {x : Nat} (hx : firstF (cur o' pgs 1) (n - 2) 2 = some x) :
    Tkn n pgs o (insM x (zeros 480) (insM 1 (setS (cur o' pgs 1) x true) o')) (ps ++ [x]) := by
  have h1 := firstF_some hx
  have hb := cur_size (i := 1) h.ok hp hs ⟨by omega, by omega⟩
  have hok : okI (cur o' pgs 1) (x : Int) = true := (okI_nat hb _).2 ⟨by omega, by omega⟩
  have hu : usedS (cur o pgs 1) x = false ∧ x ∉ ps := by
    have := h.bit x
    rw [h1.2.2] at this
    simpa using this.symm
  refine ⟨(h.ok.ins ⟨by omega, by omega⟩ (set_size hok true)).ins ⟨by omega, by omega⟩ (zeros_size _), ?_, ?_, ?_, ?_, ?_, ?_, ?_⟩
  · rw [List.nodup_append]
    refine ⟨h.nd, by simp, ?_⟩
    rintro a ha b hb rfl
    simp at hb; subst hb
    exact hu.2 ha
  · intro y hy
    rcases List.mem_append.1 hy with hy | hy
    · exact h.rg y hy
    · simp at hy; subst hy
      exact ⟨by omega, by omega, hu.1⟩
  · intro y
    rw [cur_ins, if_neg (by omega), cur_ins, if_pos rfl, used_set hok]
    by_cases e : y = x
    · subst e; simp
    · rw [if_neg (by omega), h.bit]; simp [e]
  · intro i h1 h2
    rw [cur_ins, if_neg (h2 x (by simp)), cur_ins, if_neg h1]
    exact h.oth i h1 fun p hp => h2 p (by simp [hp])
  · intro y hy z h2 hz
    rcases List.mem_append.1 hy with hy | hy
    · rcases h.low y hy z h2 hz with h3 | h3
      · exact .inl h3
      · exact .inr (by simp [h3])
    · simp at hy; subst hy
      have := firstF_low hx z h2 hz
      rw [h.bit] at this
      simp only [Bool.or_eq_true, decide_eq_true_eq] at this
      rcases this with h3 | h3
      · exact .inl h3
      · exact .inr (by simp [h3])
  · rw [List.pairwise_append]
    refine ⟨h.asc, by simp, fun p hp q hq => ?_⟩
    simp at hq; subst hq
    rcases Nat.lt_trichotomy p q with h3 | h3 | h3
    · exact h3
    · exact absurd (h3 ▸ hp) hu.2
    · rcases h.low p hp q h1.1 h3 with h4 | h4
      · rw [hu.1] at h4; cases h4
      · exact absurd h4 hu.2
  · intro y hy
    rcases keys_ins.1 hy with rfl | hy
    · exact .inr (.inl ⟨x, by simp, rfl⟩)
    · rcases keys_ins.1 hy with rfl | hy
      · exact .inl rfl
      · rcases h.key y hy with h3 | ⟨p, h3, h4⟩ | h3
        · exact .inl h3
        · exact .inr (.inl ⟨p, by simp [h3], h4⟩)
        · exact .inr (.inr h3)
theorem Tkn.pre {o1 : List (Int × ByteArray)} (h : Tkn n pgs o o1 []) (h2 : Tkn n pgs o1 o' ps) : Tkn n pgs o o' ps := by
  have hb : ∀ x : Nat, usedS (cur o1 pgs 1) x = usedS (cur o pgs 1) x := fun x => by rw [h.bit]; simp
  refine ⟨h2.ok, h2.nd, fun x hx => ?_, fun x => by rw [h2.bit, hb], fun i h3 h4 => (h2.oth i h3 h4).trans (h.oth i h3 (by simp)), fun x hx y h3 h4 => ?_, h2.asc, fun x hx => ?_⟩
  · have := h2.rg x hx
    rw [hb] at this
    exact this
  · have := h2.low x hx y h3 h4
    rwa [hb] at this
  · rcases h2.key x hx with h3 | h3 | h3
    · exact .inl h3
    · exact .inr (.inl h3)
    · rcases h.key x h3 with h4 | ⟨p, h4, _⟩ | h4
      · exact .inl h4
      · simp at h4
      · exact .inr (.inr h4)
end Go.Abs
namespace Go.Abs
open Go
set_option linter.unusedVariables false
set_option maxRecDepth 100000
abbrev HH (h m s : Nat) (over : List (Int × ByteArray)) (A R : Hp) : Hp := (h, hpB s m) :: (m, .map (emb vS over)) :: (A ++ R)
variable {N dp : Nat} {sg : Sg} {h s n size m k : Nat} {A R L : Hp} {pgs : List ByteArray} {over : List (Int × ByteArray)}
theorem pad_eq {l : List UInt8} (hl : l.length ≤ 480) : Ev (tab N (dp + 2) 126 [vS (tx l), vI 480] sg) (Rt fun v sg' => v = vS (tx (padL 480 l)) ∧ sg' = sg) := by
  refine ev_of ((t126 ..).trans (octets_Pad.main ..)) (ev_if (by decide) ?_)
  rw [tx_size]
  refine ev_ite (fun hc => ev_ret ⟨?_, rfl⟩) (fun hc => ?_)
  · have : (480 : Int) ≤ l.length := by simpa using hc
    have e : 480 - l.length = 0 := by omega
    simp [padL, e]
  · have hlt : l.length < 480 := by have : ¬ (480 : Int) ≤ l.length := by simpa using hc
                                    omega
    have e1 : IntKind.i64.wrap (480 - (l.length : Int)) = ((480 - l.length : Nat) : Int) := by rw [i64_in (by omega)]; omega
    rw [e1]
    refine ev_call (φ := fun v _ => v = vS (zeros (480 - l.length))) ?_ rfl ?_
    · refine ev_of (t230 ..) ?_
      show Ev (if (0 : Int) ≤ ((480 - l.length : Nat) : Int) ∧ ((480 - l.length : Nat) : Int) ≤ 9223372036854775807 ∧ [(0 : UInt8)].length * ((480 - l.length : Nat) : Int).toNat ≤ 140737488355328 then some (.ret (.at (.string ⟨⟨repB [0] ((480 - l.length : Nat) : Int).toNat⟩⟩)) []) else none) _
      refine ev_if ⟨by omega, by omega, by simp; omega⟩ (ev_ret ?_)
      rw [repB_zero]; rfl
    · rintro _ _ rfl
      exact ev_S rfl (ev_else (szle (by rw [zeros_size]; omega)) (ev_ret ⟨rfl, rfl⟩))
theorem page_eq {nxt : Nat} {t : List UInt8} (h1 : nxt < 65536) (h2 : t.length ≤ 476) (hN : 10 < N) : Ev (tab N (dp + 3) 171 [vI nxt, vS (tx t)] sg) (Rt fun v sg' => v = vS (tx (pgL nxt t)) ∧ sg' = sg) := by
  refine ev_of ((t171 ..).trans (blob_page.main ..)) ?_
  have e1 : IntKind.u64.wrap (nxt : Int) = (nxt : Int) := Go.IntWalk.u64_in _ (by omega)
  have e2 : IntKind.u64.wrap (((tx t).size : Nat) : Int) = ((t.length : Nat) : Int) := by rw [tx_size]; exact Go.IntWalk.u64_in _ (by omega)
  rw [e1, e2]
  refine ev_call (num_eq (w := 2) (n := nxt) (by omega) (by omega) (by omega) hN) rfl ?_
  rintro _ _ rfl
  refine ev_S rfl (ev_call (num_eq (w := 2) (n := t.length) (by omega) (by omega) (by omega) hN) rfl ?_)
  rintro _ _ rfl
  refine ev_S rfl (ev_else (szle (by simp only [tx_size, numL_len]; omega)) (ev_else (szle (by rw [tx_cat]; simp only [tx_size, List.length_append, numL_len]; omega)) ?_))
  rw [tx_cat, tx_cat, List.append_assoc]
  refine ev_call (pad_eq (by simp only [List.length_append, numL_len]; omega)) rfl ?_
  rintro _ _ ⟨rfl, rfl⟩
  exact ev_S rfl (ev_ret ⟨rfl, rfl⟩)
theorem pgL_eq (nxt : Nat) (t : List UInt8) : pgL nxt t = numL 2 nxt ++ (numL 2 t.length ++ (t ++ List.replicate (476 - t.length) 0)) := by
  have e : 480 - (numL 2 nxt ++ (numL 2 t.length ++ t)).length = 476 - t.length := by simp only [List.length_append, numL_len]; omega
  simp only [pgL, padL, e, List.append_assoc]
theorem part_ok {at_ nxt : Nat} {t : List UInt8} (hA : St1 s n size pgs A) (hO : OvOk n over) (hh : Has sg (HH h m s over A R)) (h1 : 2 ≤ at_ ∧ at_ < n) (hu : usedS (cur over pgs 1) at_ = true)
    (hv : cur over pgs at_ = tx (pgL nxt t)) (hn : nxt < 65536) (ht : 1 ≤ t.length ∧ t.length ≤ 476) (hN : 10 < N) :
    Ev (tab N (dp + 4) 270 [.gp h 0, vI at_] sg) (Rt fun v sg' => v = .tup [vS (tx t), vI nxt, vB true] ∧ Has sg' (HH h m s over A R)) := by
  obtain ⟨f1, f2, f3, f4⟩ := hA.facts
  refine ev_of ((t270 ..).trans (blob_part.main ..)) (ev_if (by simp; omega) ?_)
  refine ev_call (hpages_ok hA hh) rfl ?_
  rintro _ _ ⟨rfl, rfl⟩
  refine ev_I rfl (ev_if (by simp; omega) ?_)
  refine ev_call (get_ok (i := 1) hA hO hh ⟨by omega, by omega⟩) rfl ?_
  rintro _ _ ⟨rfl, rfl⟩
  refine ev_S rfl (ev_call (used_ok (i := at_)) rfl ?_)
  rintro _ _ ⟨rfl, _⟩
  refine ev_B rfl (ev_else (by simp [hu]) ?_)
  refine ev_call (get_ok (i := at_) hA hO hh ⟨by omega, by omega⟩) rfl ?_
  rintro _ _ ⟨rfl, rfl⟩
  rw [hv]
  refine ev_S rfl ?_
  have hlen : (pgL nxt t).length = 480 := pgL_len ht.2
  refine ev_call (rd_open (l := pgL nxt t) hh) rfl ?_
  rintro _ sg1 ⟨r, rfl, g1⟩
  rw [pgL_eq] at g1 hlen
  refine ev_A rfl (ev_call (num_rd (a := numL 2 nxt) g1 (by rw [hlen]; omega) (by rw [numL_len]; omega) (by rw [numL_len]; omega) hN) rfl ?_)
  rintro _ sg2 ⟨rfl, g2⟩
  refine ev_I rfl (ev_A rfl (ev_call (num_rd (a := numL 2 t.length) g2 (by rw [List.length_append] at hlen; omega) (by rw [numL_len]; omega) (by rw [numL_len]; omega) hN) rfl ?_))
  rintro _ sg3 ⟨rfl, g3⟩
  have e1 : valL (numL 2 nxt) 0 = nxt := by rw [valL_num _ _ _ (by omega)]; omega
  have e2 : valL (numL 2 t.length) 0 = t.length := by rw [valL_num _ _ _ (by omega)]; omega
  refine ev_I rfl (ev_A rfl ?_)
  rw [e1, e2, i64_in (n := (t.length : Int)) (by omega), i64_in (n := (nxt : Int)) (by omega)]
  have e3 : (bif false then max2 (t.length : Int) 476 else min2 (t.length : Int) 476) = (t.length : Int) := by
    show min2 _ _ = _
    unfold min2; split <;> omega
  rw [e3]
  refine ev_call (raw_ok g3 (by simp only [List.length_append] at hlen ⊢; omega)) rfl ?_
  rintro _ sg4 ⟨rfl, g4⟩
  refine ev_S rfl (ev_if (by simp; omega) ?_)
  refine ev_call (page_eq (nxt := nxt) (t := t) hn ht.2 hN) rfl ?_
  rintro _ _ ⟨rfl, _⟩
  refine ev_S rfl (ev_ret ⟨?_, g4.tail⟩)
  rw [eqS_iff.2 rfl]
theorem part_no {at_ : Int} (hA : St1 s n size pgs A) (hO : OvOk n over) (hh : Has sg (HH h m s over A R)) (hb : ¬ ((2 ≤ at_ ∧ at_ < n) ∧ usedS (cur over pgs 1) at_ = true)) (hN : 10 < N) :
    Ev (tab N (dp + 4) 270 [.gp h 0, vI at_] sg) (Rt fun v sg' => v = .tup [vS ⟨#[]⟩, vI 0, vB false] ∧ sg' = sg) := by
  obtain ⟨f1, f2, f3, f4⟩ := hA.facts
  refine ev_of ((t270 ..).trans (blob_part.main ..)) (ev_ite (fun h1 => ?_) (fun h1 => ev_ret ⟨rfl, rfl⟩))
  refine ev_call (hpages_ok hA hh) rfl ?_
  rintro _ _ ⟨rfl, rfl⟩
  refine ev_I rfl (ev_ite (fun h2 => ?_) (fun h2 => ev_ret ⟨rfl, rfl⟩))
  have h1 : 2 ≤ at_ := by simpa using h1
  have h2 : at_ < n := by simpa using h2
  refine ev_call (get_ok (i := 1) hA hO hh ⟨by omega, by omega⟩) rfl ?_
  rintro _ _ ⟨rfl, rfl⟩
  refine ev_S rfl (ev_call (used_ok (i := at_)) rfl ?_)
  rintro _ _ ⟨rfl, _⟩
  refine ev_B rfl (ev_if ?_ (ev_ret ⟨rfl, rfl⟩))
  have : usedS (cur over pgs 1) at_ ≠ true := fun e => hb ⟨⟨h1, h2⟩, e⟩
  simpa using this
end Go.Abs
namespace Go.Abs
open Go
set_option linter.unusedVariables false
set_option maxRecDepth 100000
theorem cutF_get : ∀ (f : Nat) (l : List UInt8) (i : Nat), l.length ≤ f → (cutF f l)[i]? = if l.drop (476 * i) = [] then none else some ((l.drop (476 * i)).take 476)
  | 0, l, i, h => by simp at h; subst h; simp [cutF]
  | f + 1, l, i, h => by
    simp only [cutF]
    split
    · rename_i h0; subst h0; simp
    · rename_i h0
      cases i with
      | zero => simp [h0]
      | succ i =>
        have : 0 < l.length := List.length_pos_iff.2 h0
        rw [List.getElem?_cons_succ, cutF_get f _ i (by rw [List.length_drop]; omega), List.drop_drop, show 476 + 476 * i = 476 * (i + 1) by omega]
variable {N dp : Nat} {sg : Sg} {h s n size m k : Nat} {A R L : Hp} {pgs : List ByteArray} {over : List (Int × ByteArray)}
theorem cut1_ok {g e : Nat} {l : List UInt8} (hh : Has sg ((g, .mk [vS (tx l)]) :: (e, .mk [vI 476]) :: R)) (hl : l.length ≤ 1000000) :
    Ev (tab N (dp + 1) 268 [.gp e 0, .gp g 0] sg) (Rt fun v sg' => v = vS (tx (l.take 476)) ∧ Has sg' ((g, .mk [vS (tx (l.drop 476))]) :: (e, .mk [vI 476]) :: R)) := by
  refine ev_of ((t268 ..).trans (octets_Cut_1.main ..)) ?_
  refine ev_ldI hh 1 rfl rfl (ev_ldS hh 0 rfl rfl (ev_ldS hh 0 rfl rfl ?_))
  have e1 : (bif false then max2 476 ((tx l).size : Int) else min2 476 ((tx l).size : Int)) = ((min 476 l.length : Nat) : Int) := by
    show min2 _ _ = _
    rw [tx_size]; unfold min2; split <;> omega
  rw [e1, tx_size]
  refine ev_if ⟨by omega, by omega, by omega⟩ (ev_ldS hh 0 rfl rfl ?_)
  rw [tx_size]
  refine ev_if ⟨by omega, by omega, by omega⟩ ?_
  refine ev_st hh 0 rfl rfl (by show 1 ≤ 1; omega) (by show 0 < 1; omega) fun sg2 h2 => ev_ret ⟨?_, ?_⟩
  · rw [tx_cut, Int.toNat_natCast]
    show vS (tx (((l.drop 0).take (min 476 l.length - 0)))) = _
    rw [List.drop_zero, Nat.sub_zero]
    by_cases hc : 476 ≤ l.length
    · rw [Nat.min_eq_left hc]
    · rw [Nat.min_eq_right (by omega), List.take_length, List.take_of_length_le (by omega)]
  · have e2 : cutS (tx l) ((min 476 l.length : Nat) : Int).toNat ((l.length : Nat) : Int).toNat = tx (l.drop 476) := by
      rw [tx_cut, Int.toNat_natCast, Int.toNat_natCast]
      congr 1
      by_cases hc : 476 ≤ l.length
      · rw [Nat.min_eq_left hc, ← List.length_drop, List.take_length]
      · rw [Nat.min_eq_right (by omega), List.drop_length, List.drop_eq_nil_of_le (by omega)]; simp
    rw [e2] at h2
    exact h2
theorem cut_ok {l : List UInt8} (hh : Has sg R) (hl : l.length ≤ 100000) (hN : 100001 < N) :
    Ev (tab N (dp + 2) 170 [vS (tx l), vI 476] sg) (Rt fun v sg' => ∃ H, SxH v 1 (cutF l.length l).length ((cutF l.length l).map fun t => vS (tx t)) H ∧ Has sg' (H ++ R)) := by
  refine ev_of ((t170 ..).trans (octets_Cut.main ..)) ?_
  have h1 := (hh.new (.mk [vS (tx l)])).new (.mk [vI 476])
  generalize sg.length = g at h1 ⊢
  generalize (sg ++ [Box.mk [vS (tx l)]]).length = e at h1 ⊢
  have hm : (cutF l.length l).length ≤ l.length := by rw [cutF_len _ _ (Nat.le_refl _)]; omega
  refine ev_loop (cutF l.length l).length (fun i st => ∃ sg' a b H, st = mkS [2, 3, 5, 6] [.v (.gp g 0) false, .v (.gp e 0) false, .v a b, .v (.clo 268 [] [.gp e 0, .gp g 0]) false] [none, none, none, none] (.sg sg') ∧
      SxH a 1 i (((cutF l.length l).take i).map fun t => vS (tx t)) H ∧ Has sg' (H ++ ((g, .mk [vS (tx (l.drop (476 * i)))]) :: (e, .mk [vI 476]) :: R))) (by omega)
    ⟨_, _, _, [], rfl, SxH.nil 1, h1.perm (List.Perm.swap ..)⟩ ?_
  rintro i st K hi ⟨sg1, a, b, H, rfl, hx, h2⟩ hnext hexit hret
  refine ev_of (octets_Cut.r0 ..) ?_
  have hgI : sg1[e]? = some (.mk [vI 476]) := h2.2 (e, .mk [vI 476]) (by simp)
  have hgS : sg1[g]? = some (.mk [vS (tx (l.drop (476 * i)))]) := h2.2 (g, .mk [vS (tx (l.drop (476 * i)))]) (by simp)
  refine ev_atI hgI rfl ?_
  refine ev_if (by decide) (ev_atS hgS rfl ?_)
  have hget := cutF_get l.length l i (Nat.le_refl _)
  refine ev_ite (fun hne => ?_) (fun he => ?_)
  · have hne : l.drop (476 * i) ≠ [] := by
      intro e0
      rw [e0] at hne
      exact absurd hne (by decide)
    rw [if_neg hne] at hget
    have hlt := (List.getElem?_eq_some_iff.1 hget).1
    refine ev_call (cut1_ok (g := g) (e := e) (l := l.drop (476 * i)) (R := H ++ R) (h2.perm ?_) (by rw [List.length_drop]; omega)) rfl ?_
    · exact List.perm_append_comm_assoc H [_, _] R
    rintro _ sg2 ⟨rfl, h3⟩
    refine ev_S rfl (ev_bif rfl ?_)
    refine ev_appX hx (L := (g, .mk [vS (tx (l.drop (476 * (i + 1))))]) :: (e, .mk [vI 476]) :: R) ?_ rfl (by decide) (by decide) (by omega) fun a' H' sg3 hx' h4 => ?_
    · rw [List.drop_drop] at h3
      rw [show 476 * (i + 1) = 476 * i + 476 by omega]
      exact h3.perm (List.perm_append_comm_assoc [_, _] H R)
    refine hnext _ hlt ⟨sg3, a', _, H', rfl, hx'.cast rfl ?_, h4⟩
    have e9 : (cutF l.length l).take (i + 1) = (cutF l.length l).take i ++ [(l.drop (476 * i)).take 476] := by rw [List.take_add_one, hget]; rfl
    rw [e9, List.map_append]; rfl
  · have he : l.drop (476 * i) = [] := by
      by_cases h0 : l.drop (476 * i) = []
      · exact h0
      · refine absurd ?_ he
        have : eqS (tx (l.drop (476 * i))) ⟨#[]⟩ = false := by
          cases hb : eqS (tx (l.drop (476 * i))) ⟨#[]⟩ with
          | false => rfl
          | true => exact absurd (tx_inj ((eqS_iff.1 hb).trans tx_nil.symm)) h0
        rw [this]; rfl
    rw [if_pos he] at hget
    have hlen : i = (cutF l.length l).length := by
      have := List.getElem?_eq_none_iff.1 hget
      omega
    subst hlen
    rw [List.take_length] at hx
    refine hexit _ _ ?_
    refine ev_of (octets_Cut.k0_1 ..) ?_
    have hj : jk a = some a := by
      obtain ⟨_, ⟨_, _, rfl⟩ | ⟨_, g', rfl, _⟩⟩ := hx <;> rfl
    refine ev_A hj (ev_ret ⟨H, hx, ?_⟩)
    exact h2.sub (List.Sublist.append (List.Sublist.refl _) (.cons _ (.cons _ (List.Sublist.refl _))))
theorem thaw_ts {a : AVal} {ts : List (List UInt8)} {H : Hp} (hx : SxH a 1 k (ts.map fun t => vS (tx t)) H) (hh : Has sg (H ++ L)) :
    ∃ nn, thaw 8 sg a = some (.sl nn 1 (ts.map fun t => vS (tx t))) ∧ noG (.sl nn 1 (ts.map fun t => vS (tx t))) = true := by
  have hno : ∀ ts : List (List UInt8), noGs (ts.map fun t => vS (tx t)) = true := by
    intro ts
    induction ts with
    | nil => rfl
    | cons t ts ih => simp only [List.map_cons, noGs, noG, ih, Bool.and_self]
  have hth : ∀ ts : List (List UInt8), thawL (thaw 7 sg) (ts.map fun t => vS (tx t)) = some (ts.map fun t => vS (tx t)) := by
    intro ts
    induction ts with
    | nil => rfl
    | cons t ts ih =>
      simp only [List.map_cons, thawL, ih]
      rfl
  have hck : ∀ ts : List (List UInt8), chunks 1 ts.length (ts.map fun t => vS (tx t)) = ts.map fun t => vS (tx t) := by
    intro ts
    induction ts with
    | nil => rfl
    | cons t ts ih =>
      simp only [List.length_cons, chunks, List.map_cons, List.drop_succ_cons, List.drop_zero, ih]
      rfl
  obtain ⟨hl, ⟨rfl, rfl, rfl⟩ | ⟨hp, g, rfl, rfl⟩⟩ := hx
  · have : ts = [] := by simpa using hl
    subst this
    exact ⟨true, rfl, rfl⟩
  · have hg : sg[g]? = some (.mk (ts.map fun t => vS (tx t))) := hh.2 (g, .mk (ts.map fun t => vS (tx t))) (by simp)
    have hk : k = ts.length := by simpa using hl.symm
    subst hk
    refine ⟨false, ?_, by simp only [noG, hno]⟩
    have e : (Nat.ble (0 + ts.length * 1) (ts.map fun t => vS (tx t)).length && Nat.blt 0 1) = true := by
      rw [Bool.and_eq_true]
      exact ⟨Nat.ble_eq_true_of_le (by simp), rfl⟩
    have e2 : ((ts.map fun t => vS (tx t)).drop 0).take (ts.length * 1) = ts.map fun t => vS (tx t) := by
      rw [List.drop_zero, Nat.mul_one]
      exact List.take_of_length_le (by simp)
    have key : thaw 8 sg (.gs g 1 0 ts.length) = (match sg[g]? with
      | some B => bif Nat.ble (0 + ts.length * 1) B.cells.length && Nat.blt 0 1 then (thawL (thaw 7 sg) ((B.cells.drop 0).take (ts.length * 1))).map fun cs => .sl false 1 (chunks 1 ts.length cs) else none
      | none => none) := rfl
    rw [key, hg]
    simp only [Box.cells_mk, e, cond_true, e2, hth, Option.map_some, hck]
end Go.Abs
namespace Go.Abs
open Go
set_option linter.unusedVariables false
set_option maxRecDepth 100000
section
variable {Q : Out → Prop} {sg : Sg}
theorem ev_jn {j : Nat} {J : St → R} {st : St} {r : R} (e : J st = r) (h : Ev r Q) : Ev (jnc j J st) Q := by
  show Ev (J st) Q
  rw [e]; exact h
theorem ev_elS {i : Nat} {t : ByteArray} {c : ByteArray → R} {nn : Bool} {l : List AVal} (e : l[i]? = some (vS t)) (hc : Ev (c t) Q) :
    Ev (withO (elemV 1 (i : Int) (.sl nn 1 l)) fun r => withO (loadC none sg r) fun p => withS p.fst[p.snd]? c) Q := by
  have e1 : elemV 1 (i : Int) (.sl nn 1 l) = some (.ep [vS t]) := by
    simp only [elemV, Nat.beq_refl, cond_true, if_pos (show (0 : Int) ≤ (i : Int) by omega), Int.toNat_natCast, e, withA, AVal.cells]
    rfl
  rw [e1]
  exact hc
end
theorem chn_of {V : Int → ByteArray} : ∀ {c : Chain}, (∀ (j : Nat) p t, c[j]? = some (p, t) → V p = tx (pgL (nx (c.drop (j + 1))) t)) → Chn V c
  | [], _ => trivial
  | (p, t) :: r, h => ⟨h 0 p t rfl, chn_of fun j p' t' e => h (j + 1) p' t' e⟩
theorem nx_drop : ∀ (ps : List Nat) (ts : List (List UInt8)) (j : Nat), ps.length = ts.length → nx ((ps.zip ts).drop j) = ps.getD j 0
  | [], ts, j, h => by simp [nx]
  | p :: ps, t :: ts, 0, h => rfl
  | p :: ps, t :: ts, j + 1, h => by
    have := nx_drop ps ts j (by simpa using h)
    simpa using this
theorem Tkn.put {n : Nat} {pgs : List ByteArray} {o o' : List (Int × ByteArray)} {ps : List Nat} (h : Tkn n pgs o o' ps) {p : Nat} {t : ByteArray} (hp : p ∈ ps) (ht : t.size = 480) : Tkn n pgs o (insM p t o') ps := by
  have hr := h.rg p hp
  refine ⟨h.ok.ins ⟨by omega, by omega⟩ ht, h.nd, h.rg, fun x => ?_, fun i h1 h2 => ?_, h.low, h.asc, fun x hx => ?_⟩
  · rw [cur_ins, if_neg (by omega)]; exact h.bit x
  · rw [cur_ins, if_neg (h2 p hp)]; exact h.oth i h1 h2
  · rcases keys_ins.1 hx with rfl | hx
    · exact .inr (.inl ⟨p, hp, rfl⟩)
    · exact h.key x hx
variable {N dp : Nat} {sg : Sg} {h s n size m k : Nat} {A R L : Hp} {pgs : List ByteArray} {over : List (Int × ByteArray)}
theorem put_body {l : List UInt8} (hA : St1 s n size pgs A) (hO : OvOk n over) (hh : Has sg (HH h m s over A R)) (hl : l.length ≤ 4096) (hN : 200000 < N) :
    Ev (tab N (dp + 7) 62 [.gp h 0, vS (tx l)] sg) (Rp (fun v sg' => ∃ o' ps, Tkn n pgs over o' ps ∧ ps.length = (cutF l.length l).length ∧ Chn (cur o' pgs) (ps.zip (cutF l.length l)) ∧
        v = .agg [vI (nx (ps.zip (cutF l.length l))), vI l.length] ∧ Has sg' (HH h m s o' A R))
      (fun v sg' => (v = stopV 13 ∧ ∃ qs : List Nat, qs.length < (cutF l.length l).length ∧ qs.Nodup ∧ ∀ y : Nat, 2 ≤ y → y < n → usedS (cur over pgs 1) y = true ∨ y ∈ qs) ∧ Has sg' (A ++ R))) := by
  obtain ⟨f1, f2, f3, f4⟩ := hA.facts
  have hml : (cutF l.length l).length ≤ 10 := by rw [cutF_len _ _ (Nat.le_refl _)]; omega
  refine ev_gen fun Q hQ => ?_
  refine ev_of ((t62 ..).trans (blob_Put.main ..)) ?_
  rw [tx_size]
  refine ev_else (by simp; omega) (ev_jn (blob_Put.j12 ..) ?_)
  refine ev_call (cut_ok (N := N) (dp := dp + 4) (l := l) (has_nil []) (by omega) (by omega)) rfl ?_
  rintro v sg0 ⟨Hv, hxv, hhv⟩
  obtain ⟨nn, ht, hno⟩ := thaw_ts hxv hhv
  refine ev_O ht (ev_bif hno ?_)
  refine ev_O (a := (cutF l.length l).length) (by simp [lenV]) ?_
  have hcd := cutd_of l.length l
  have hpart : ∀ t, t ∈ cutF l.length l → t.length ≤ 476 := by
    intro t ht
    obtain ⟨i, hi⟩ := List.getElem?_of_mem ht
    rw [cutF_get _ _ _ (Nat.le_refl _)] at hi
    split at hi
    · cases hi
    · cases hi; rw [List.length_take]; omega
  generalize hts : cutF l.length l = ts at hml hpart hcd hQ ⊢
  clear hxv hhv ht hno
  refine ev_loop ts.length (fun i st => ∃ sg' o' ps a b H, st = mkS [0, 1, 4, 5, 6, 18, 19] [.v (.gp h 0) false, .v (vS (tx l)) false, .lp 4 0, .v (.sl nn 1 (ts.map fun t => vS (tx t))) false, .v a b, .v (vI ts.length) false, .v (vI i) false]
        [none, none, some (.mk [vI 0, vI 0]), none, none, none, none] (.sg sg') ∧ SxH a 1 i (ps.map fun (p : Nat) => vI p) H ∧ Tkn n pgs over o' ps ∧ Has sg' (HH h m s o' A (H ++ R))) (by omega)
    ⟨sg, over, [], _, _, [], rfl, SxH.nil 1, Tkn.nil hO, hh⟩ ?_
  rintro i st K hi ⟨sg1, o1, ps, a, b, H, rfl, hx, hT, h1⟩ hnext hexit hret
  have hpl : ps.length = i := by have := hx.1; rw [List.length_map] at this; omega
  refine ev_of (blob_Put.r0 ..) (ev_ite (fun hlt => ?_) (fun hge => ?_))
  · have hlt : i < ts.length := by have : (i : Int) < ts.length := by simpa using hlt
                                   omega
    refine ev_callP (take_ok hA hT.ok h1 (by omega)) rfl ?_ ?_
    rotate_left
    · rintro _ _ ⟨hno, rfl, rfl⟩
      refine ev_out (hQ (.pan _ _) ⟨⟨rfl, ps, by omega, hT.nd, fun y h2 h3 => ?_⟩, ?_⟩)
      · have := firstF_none hno y h2 (by omega)
        rw [hT.bit] at this
        simpa using this
      exact h1.tail.tail.sub (List.Sublist.append (List.Sublist.refl _) (List.sublist_append_right _ _))
    rintro _ sg2 ⟨x, hf, rfl, h2⟩
    refine ev_I rfl (ev_bif rfl ?_)
    refine ev_appX hx (L := HH h m s (insM x (zeros 480) (insM 1 (setS (cur o1 pgs 1) x true) o1)) A R) (h2.pm fun q => by simp only [List.count_cons, List.count_append]; omega) rfl (by decide) (by decide) (by omega) fun a' H' sg3 hx' h3 => ?_
    rw [i64_nat (by omega)]
    refine hnext _ hlt ⟨sg3, _, ps ++ [x], a', _, H', rfl, hx'.cast rfl (by simp), hT.snoc f1 f2 ⟨f3, f4⟩ hf, h3.pm fun q => by simp only [List.count_cons, List.count_append]; omega⟩
  · have he : i = ts.length := by have : ¬ (i : Int) < ts.length := by simpa using hge
                                  omega
    clear hnext hret hi hge
    subst he
    refine hexit _ _ ?_
    refine ev_of (blob_Put.k0_1 ..) (ev_O (a := ts.length) (by simp [lenV]) ?_)
    clear hexit K
    refine ev_loop ts.length (fun i st => ∃ sg' o', st = mkS [0, 1, 4, 6, 27, 28, 29] [.v (.gp h 0) false, .v (vS (tx l)) false, .lp 4 0, .v a b, .v (.sl nn 1 (ts.map fun t => vS (tx t))) false, .v (vI ts.length) false, .v (vI i) false]
        [none, none, some (.mk [vI 0, vI 0]), none, none, none, none] (.sg sg') ∧ Tkn n pgs over o' ps ∧ (∀ (j : Nat) p t, j < i → ps[j]? = some p → ts[j]? = some t → cur o' pgs p = tx (pgL (ps.getD (j + 1) 0) t)) ∧ Has sg' (HH h m s o' A (H ++ R))) (by omega)
      ⟨sg1, o1, rfl, hT, fun _ _ _ h => absurd h (Nat.not_lt_zero _), h1⟩ ?_
    rintro i st K hi ⟨sg2, o2, rfl, hT2, hC, h2⟩ hnext hexit hret
    refine ev_of (blob_Put.r1 ..) (ev_ite (fun hlt => ?_) (fun hge => ?_))
    · have hlt : i < ts.length := by have : (i : Int) < ts.length := by simpa using hlt
                                     omega
      have hlp : i < ps.length := by omega
      have ets : (ts.map fun t => vS (tx t))[i]? = some (vS (tx ts[i])) := by simp [List.getElem?_eq_getElem hlt]
      refine ev_elS ets (ev_O hx.len ?_)
      have hH : ∀ q, q ∈ H → q ∈ HH h m s o2 A (H ++ R) := fun q hq => by simp [hq]
      have hpm : ps[i] ∈ ps := List.getElem_mem hlp
      have hrg : ∀ x, x ∈ ps → x < 65536 := fun x hx => by have := (hT2.rg x hx).2.1; omega
      have join : ∀ nxt : Nat, nxt = ps.getD (i + 1) 0 → Ev (blob_Put.J38 (tab N (dp + 6)) N K (mkS [0, 1, 4, 6, 7, 8, 9, 27, 28, 29]
          [.v (.gp h 0) false, .v (vS (tx l)) false, .lp 4 0, .v a b, .v (vI i) false, .v (vS (tx ts[i])) false, .v (vI nxt) false, .v (.sl nn 1 (ts.map fun t => vS (tx t))) false, .v (vI ts.length) false, .v (vI i) false]
          [none, none, some (.mk [vI 0, vI 0]), none, none, none, none, none, none, none] (.sg sg2))) Q := by
        intro nxt hnx
        have hn65 : nxt < 65536 := by
          rw [hnx, List.getD_eq_getElem?_getD]
          cases hq : ps[i + 1]? with
          | none => simp
          | some y => exact hrg y (List.mem_of_getElem? hq)
        refine ev_of (blob_Put.j38 ..) (ev_elXI hx h2 hH (i := i) (v := ps[i]) (by simp [List.getElem?_eq_getElem hlp]) ?_)
        have hti : ts[i].length ≤ 476 := hpart _ (List.getElem_mem hlt)
        refine ev_call (page_eq (nxt := nxt) (t := ts[i]) hn65 hti (by omega)) rfl ?_
        rintro _ _ ⟨rfl, _⟩
        have hpr := hT2.rg _ hpm
        have hsz : (tx (pgL nxt ts[i])).size = 480 := by rw [tx_size]; exact pgL_len hti
        refine ev_S rfl (ev_call (put_yes (i := ps[i]) hA h2 ⟨by omega, by omega⟩ hsz) rfl ?_)
        intro _ sg3 h3
        rw [i64_nat (by omega)]
        refine hnext _ hlt ⟨sg3, _, rfl, hT2.put hpm hsz, ?_, h3⟩
        intro j p t hj hp ht
        rw [cur_ins]
        by_cases hji : j = i
        · subst hji
          rw [List.getElem?_eq_getElem hlp] at hp
          rw [List.getElem?_eq_getElem hlt] at ht
          cases hp; cases ht
          rw [if_pos rfl, hnx]
        · have hne : ps[i] ≠ p := by
            intro e
            have := (List.getElem?_inj hlp hT2.nd).1 ((List.getElem?_eq_getElem hlp).trans (e ▸ hp.symm))
            omega
          rw [if_neg (by omega)]
          exact hC j p t (by omega) hp ht
      rw [i64_nat (by omega)]
      refine ev_ite (fun hn => ?_) (fun hn => ?_)
      · have hn : i + 1 < ps.length := by have : ((i + 1 : Nat) : Int) < ts.length := by simpa using hn
                                          omega
        refine ev_elXI hx h2 hH (i := i + 1) (v := ps[i + 1]) (by simp [List.getElem?_eq_getElem hn]) ?_
        exact join ps[i + 1] (by simp [List.getD_eq_getElem?_getD, List.getElem?_eq_getElem hn])
      · have hn : ps.length ≤ i + 1 := by have : ¬ ((i + 1 : Nat) : Int) < ts.length := by simpa using hn
                                          omega
        exact join 0 (by simp [List.getD_eq_getElem?_getD, List.getElem?_eq_none hn])
    · have he : i = ts.length := by have : ¬ (i : Int) < ts.length := by simpa using hge
                                    omega
      subst he
      refine hexit _ _ ?_
      refine ev_of (blob_Put.k1_1 ..) (ev_O hx.len ?_)
      have hfin : Has sg2 (HH h m s o2 A R) := h2.sub (.cons_cons _ (.cons_cons _ (List.Sublist.append (List.Sublist.refl _) (List.sublist_append_right _ _))))
      have hchn : Chn (cur o2 pgs) (ps.zip ts) := chn_of fun j p t e => by
        have e' := List.getElem?_zip_eq_some.1 e
        rw [nx_drop _ _ _ hpl]
        exact hC j p t (List.getElem?_eq_some_iff.1 e'.2).1 e'.1 e'.2
      refine ev_ite (fun h0 => ?_) (fun h0 => ?_)
      · have h0 : ts = [] := by
          have : ((ts.length : Nat) : Int) = 0 := by simpa using h0
          exact List.eq_nil_of_length_eq_zero (by omega)
        have hl0 : l = [] := by
          have := cutF_flat l.length l (Nat.le_refl _)
          rw [hts, h0] at this
          exact this.symm
        refine ev_out (hQ (.ret _ _) ⟨o2, ps, hT2, hpl, hchn, ?_, hfin⟩)
        rw [h0, hl0]; simp [nx]
      · have hlp : 0 < ps.length := by
          have : ((ts.length : Nat) : Int) ≠ 0 := by simpa using h0
          omega
        refine ev_elXI hx h2 (fun q hq => by simp [hq]) (i := 0) (v := ps[0]) (by simp [List.getElem?_eq_getElem hlp]) ?_
        refine ev_out (hQ (.ret _ _) ⟨o2, ps, hT2, hpl, hchn, ?_, hfin⟩)
        have := nx_drop ps ts 0 hpl
        rw [List.drop_zero] at this
        rw [this, tx_size]
        simp [List.getD_eq_getElem?_getD, List.getElem?_eq_getElem hlp]
end Go.Abs
namespace Go.Abs
open Go
set_option linter.unusedVariables false
set_option maxRecDepth 100000
section
variable {Q : Out → Prop} {sg : Sg} {L : Hp} {g k : Nat} {sv : List AVal}
theorem ev_lpW {p : Nat} {c : Nat × List AVal × Nat → R} (hL : Has sg L) (n : Nat) (e : L[n]? = some (g, .loop k sv p)) (h : Ev (c (k, sv, p)) Q) : Ev (withO (loopW sg g) c) Q := by
  have : loopW sg g = some (k, sv, p) := by simp only [loopW, hL.at e]
  rw [this]; exact h
theorem ev_lpS {c : Sg → R} (hL : Has sg L) (n : Nat) (e : L[n]? = some (g, .loop k sv 0)) (h : ∀ sg', Has sg' (L.set n (g, .loop k sv 1)) → Ev (c sg') Q) : Ev (withO (loopS sg g) c) Q := by
  have : loopS sg g = some (sg.set g (.loop k sv 1)) := by simp only [loopS, hL.at e]
  rw [this]; exact h _ (hL.put _ e)
theorem ev_lpE {m : Nat} {c : Sg → R} (hL : Has sg L) (n : Nat) (e : L[n]? = some (g, .loop k sv 1)) (h : ∀ sg', Has sg' (L.set n (g, .loop k sv m)) → Ev (c sg') Q) : Ev (withO (loopE sg g m) c) Q := by
  have : loopE sg g m = some (sg.set g (.loop k sv m)) := by simp only [loopE, hL.at e]
  rw [this]; exact h _ (hL.put _ e)
theorem ev_callY {r : R} {φ : AVal → Sg → Prop} {ok pan : AVal → Sg → R} (h : Ev r (Rt φ)) (hk : ∀ v sg, φ v sg → Ev (ok v sg) Q) : Ev (withOut r ok pan) Q := by
  obtain ⟨v, sg', rfl, e2⟩ := ev_get h
  exact hk v sg' e2
theorem ev_Y {C : CallF} {N : Nat} {y : AYield} {xs : List AVal} {φ : AVal → Sg → Prop} (hL : Has sg L) (n : Nat) (e : L[n]? = some (g, .loop k sv 0)) (ha : xs.length = y.params.length) (hs : sv.length = y.live.length)
    (h : Ev (evalC C N y.asg (startY y sv xs sg) (beginY C N y g)) (Rt φ)) : Ev (evalY C N y k (.yl g :: xs) sg) (Rt φ) := by
  obtain ⟨v, sg', e1, e2⟩ := ev_get h
  refine ⟨.ret v sg', ?_, e2⟩
  simp only [evalY, hL.at e, ha, hs]
  rw [e1]
  simp [noPan]
end
variable {N dp : Nat} {sg : Sg} {h s n size m k : Nat} {A R L : Hp} {pgs : List ByteArray} {over : List (Int × ByteArray)}
structure ChOk (n : Nat) (pgs : List ByteArray) (over : List (Int × ByteArray)) (c : Chain) : Prop where
  chn : Chn (cur over pgs) c
  cut : Cutd c
  nd : (pgsL c).Nodup
  rg : ∀ x, x ∈ pgsL c → 2 ≤ x ∧ x < n ∧ usedS (cur over pgs 1) x = true
theorem chn_at {V : Int → ByteArray} : ∀ {c : Chain} {j : Nat} {p t}, Chn V c → c[j]? = some (p, t) → V p = tx (pgL (nx (c.drop (j + 1))) t)
  | (p0, t0) :: r, 0, p, t, h, e => by cases e; exact h.1
  | (p0, t0) :: r, j + 1, p, t, h, e => chn_at (c := r) h.2 e
theorem cutd_at : ∀ {c : Chain} {j : Nat} {p t}, Cutd c → c[j]? = some (p, t) → 1 ≤ t.length ∧ t.length ≤ 476 ∧ (c.drop (j + 1) ≠ [] → t.length = 476)
  | (p0, t0) :: r, 0, p, t, h, e => by cases e; exact ⟨h.1, h.2.1, h.2.2.1⟩
  | (p0, t0) :: r, j + 1, p, t, h, e => cutd_at (c := r) h.2.2.2 e
theorem nx_mem {c : Chain} (h : c ≠ []) : nx c ∈ pgsL c := by
  cases c with
  | nil => exact absurd rfl h
  | cons x r => obtain ⟨p, t⟩ := x; simp [nx, pgsL]
theorem bodyL_drop {c : Chain} {j : Nat} {p t} (e : c[j]? = some (p, t)) : bodyL (c.drop j) = t ++ bodyL (c.drop (j + 1)) := by
  have hlt := (List.getElem?_eq_some_iff.1 e).1
  rw [List.drop_eq_getElem_cons hlt]
  have := (List.getElem?_eq_some_iff.1 e).2
  rw [this, bodyL_cons]
theorem parts_ok {c : Chain} {y lb m1 m2 : Nat} {sv : List AVal} {P : Chain → Hp → Prop} {H : Hp} (hA : St1 s n size pgs A) (hO : OvOk n over) (hc : ChOk n pgs over c) (hN : 200000 < N)
    (hY : ∀ d p t H L sg, P d H → Has sg ((lb, .loop y sv 0) :: (H ++ L)) → d.length ≤ 4000 → (d ++ [(p, t)]) <+: c → Ev (tab N (dp + 5) (1000000 + y) [.yl lb, vI (p : Nat), vS (tx t)] sg) (Rt fun v sg' => v = vB true ∧ ∃ H', P (d ++ [(p, t)]) H' ∧ Has sg' ((lb, .loop y sv 0) :: (H' ++ L))))
    (hP : P [] H) (h1 : (m1, .mk [vI (nx c), vI (bodyL c).length]) ∈ R) (h2 : (m2, .mk [.gp h 0]) ∈ R) (hh : Has sg ((lb, .loop y sv 0) :: (H ++ HH h m s over A R))) :
    Ev (tab N (dp + 6) 269 [.yl lb, .gp m1 0, .gp m2 0] sg) (Rt fun _ sg' => ∃ H', P c H' ∧ Has sg' ((lb, .loop y sv 0) :: (H' ++ HH h m s over A R))) := by
  obtain ⟨f1, f2, f3, f4⟩ := hA.facts
  refine ev_gen fun Q hQ => ?_
  have hclen : c.length ≤ n := by
    have := len_le_of_nodup (n := n) (l := (pgsL c).map fun (x : Nat) => (x : Int)) (by
      rw [List.nodup_iff_pairwise_ne, List.pairwise_map]
      exact hc.nd.imp fun hab he => hab (by omega)) (fun x hx => by
      obtain ⟨q, hq, rfl⟩ := List.mem_map.1 hx
      have := hc.rg q hq; omega)
    simpa [pgsL] using this
  refine ev_of ((t269 ..).trans (blob_parts_1.main ..)) ?_
  have g1 := hh.new (.map [])
  generalize sg.length = mm at g1 ⊢
  refine ev_atI (g1.in (p := (m1, .mk [vI (nx c), vI (bodyL c).length])) (by simp [h1])) rfl ?_
  refine ev_atI (g1.in (p := (m1, .mk [vI (nx c), vI (bodyL c).length])) (by simp [h1])) rfl ?_
  refine ev_loop c.length (fun i st => ∃ sg' H l, st = mkS [0, 2, 4, 5, 6] [.v (.yl lb) false, .v (.gp m2 0) false, .v (.gm mm) false, .v (vI (bodyL (c.drop i)).length) false, .v (vI (nx (c.drop i))) false] [none, none, none, none, none] (.sg sg') ∧
      P (c.take i) H ∧ (∀ x : Int, x ∈ l.map (·.1) → ∃ p : Nat, x = p ∧ p ∈ pgsL (c.take i)) ∧ Has sg' ((mm, .map (emb vB l)) :: (lb, .loop y sv 0) :: (H ++ HH h m s over A R))) (by omega)
    ⟨_, H, [], rfl, hP, by simp, g1⟩ ?_
  rintro i st K hi ⟨sg2, H2, l, rfl, hP2, hl, g2⟩ hnext hexit hret
  refine ev_of (blob_parts_1.r0 ..) ?_
  have hstop : ∀ (e : c.drop i = []), Ev (K (.exit 0) (mkS [] [] [] (.sg sg2))) Q := fun e => by
    refine hexit _ _ ?_
    refine ev_of (blob_parts_1.k0_1 ..) (ev_out (hQ (.ret _ _) ⟨H2, ?_, g2.tail⟩))
    have : c.length ≤ i := List.drop_eq_nil_iff.1 e
    rw [List.take_of_length_le this] at hP2
    exact hP2
  have hgo : ∀ (e : c.drop i ≠ []), Ev (blob_parts_1.J20 (tab N (dp + 5)) N K (mkS [0, 2, 4, 5, 6] [.v (.yl lb) false, .v (.gp m2 0) false, .v (.gm mm) false, .v (vI (bodyL (c.drop i)).length) false, .v (vI (nx (c.drop i))) false] [none, none, none, none, none] (.sg sg2))) Q := fun e => by
    have hlt : i < c.length := by
      rcases Nat.lt_or_ge i c.length with h0 | h0
      · exact h0
      · exact absurd (List.drop_eq_nil_of_le h0) e
    obtain ⟨⟨p, t⟩, hpt⟩ : ∃ q, c[i]? = some q := ⟨_, List.getElem?_eq_getElem hlt⟩
    have hdr : c.drop i = (p, t) :: c.drop (i + 1) := by
      rw [List.drop_eq_getElem_cons hlt, (List.getElem?_eq_some_iff.1 hpt).2]
    have hbd := bodyL_drop hpt
    have hv := chn_at hc.chn hpt
    have ht := cutd_at hc.cut hpt
    have hpi : (pgsL c)[i]? = some p := by simp [pgsL, hpt]
    have hpr := hc.rg p (List.mem_of_getElem? hpi)
    have hnx : nx (c.drop i) = p := by rw [hdr]; rfl
    have hnx2 : nx (c.drop (i + 1)) < 65536 := by
      by_cases h0 : c.drop (i + 1) = []
      · rw [h0]; simp [nx]
      · have := nx_mem h0
        have hm : nx (c.drop (i + 1)) ∈ pgsL c := by
          have hs : (pgsL (c.drop (i + 1))).Sublist (pgsL c) := (List.drop_sublist _ _).map _
          exact hs.subset this
        have := hc.rg _ hm; omega
    refine ev_of (blob_parts_1.j20 ..) ?_
    refine ev_atA (g2.in (p := (m2, .mk [.gp h 0])) (by simp [h2])) rfl (ev_A rfl ?_)
    rw [hnx]
    have g3 : Has sg2 (HH h m s over A ((mm, .map (emb vB l)) :: (lb, .loop y sv 0) :: (H2 ++ R))) := g2.pm fun q => by
      simp only [List.count_cons, List.count_append]; omega
    refine ev_call (part_ok (dp := dp + 1) (at_ := p) (nxt := nx (c.drop (i + 1))) (t := t) hA hO g3 ⟨hpr.1, hpr.2.1⟩ hpr.2.2 hv hnx2 ⟨ht.1, ht.2.1⟩ (by omega)) rfl ?_
    rintro _ sg3 ⟨rfl, g4⟩
    have g5 : Has sg3 ((mm, .map (emb vB l)) :: (lb, .loop y sv 0) :: (H2 ++ HH h m s over A R)) := g4.pm fun q => by
      simp only [List.count_cons, List.count_append]; omega
    refine ev_T (ev_bif rfl (ev_S rfl (ev_I rfl (ev_B rfl (ev_if rfl (ev_A rfl ?_))))))
    refine ev_map g5 0 rfl (ev_O (mGet_emb vB ..) ?_)
    have hno : lk (p : Int) l = none := by
      rw [lk_none]
      intro hmem
      obtain ⟨q, e1, e2⟩ := hl _ hmem
      have e1 : q = p := by omega
      subst e1
      obtain ⟨j, hj⟩ := List.getElem?_of_mem e2
      have hjl : j < i := by
        have := (List.getElem?_eq_some_iff.1 hj).1
        simp [pgsL] at this; omega
      have hj2 : (pgsL c)[j]? = some q := by
        simp only [pgsL, List.map_take, List.getElem?_take] at hj
        rw [if_pos hjl] at hj
        exact hj
      have := (List.getElem?_inj (by simpa [pgsL] using Nat.lt_trans hjl hlt) hc.nd).1 (hj2.trans hpi.symm)
      omega
    rw [hno]
    have hsz : (((tx t).size : Nat) : Int) = (t.length : Int) := by rw [tx_size]
    have hleft : IntKind.i64.wrap (((bodyL (c.drop i)).length : Int) - (((tx t).size : Nat) : Int)) = ((bodyL (c.drop (i + 1))).length : Int) := by
      rw [hsz, hbd, List.length_append]
      have hbl : (bodyL (c.drop (i + 1))).length ≤ 476 * c.length := by
        have : ∀ c : Chain, Cutd c → (bodyL c).length ≤ 476 * c.length := by
          intro c
          induction c with
          | nil => intro _; simp [bodyL]
          | cons x r ih =>
            obtain ⟨p, t⟩ := x
            intro hc
            rw [bodyL_cons, List.length_append, List.length_cons]
            have := ih hc.2.2.2
            have := hc.2.1
            omega
        have hcd : ∀ (c : Chain) (j : Nat), Cutd c → Cutd (c.drop j) := by
          intro c
          induction c with
          | nil => intro j h; simpa using h
          | cons x r ih =>
            intro j h
            cases j with
            | zero => exact h
            | succ j => obtain ⟨p, t⟩ := x; exact ih j h.2.2.2
        have h9 := this _ (hcd c (i + 1) hc.cut)
        rw [List.length_drop] at h9
        omega
      rw [i64_in (by omega)]; omega
    refine ev_B (a := false) rfl (ev_if rfl ?_)
    rw [hleft]
    refine ev_if (by simp) ?_
    have join : Ev (blob_parts_1.J51 (tab N (dp + 5)) N K (mkS [0, 2, 4, 5, 6, 7, 8] [.v (.yl lb) false, .v (.gp m2 0) false, .v (.gm mm) false, .v (vI (bodyL (c.drop (i + 1))).length) false, .v (vI p) false, .v (vS (tx t)) false, .v (vI (nx (c.drop (i + 1)))) false] [none, none, none, none, none, none, none] (.sg sg3))) Q := by
      refine ev_of (blob_parts_1.j51 ..) (ev_A rfl ?_)
      refine ev_map g5 0 rfl (ev_O (mSet_emb vB ..) ?_)
      have g6 := g5.put (n := 0) (.map (emb vB (insM (p : Int) true l))) rfl
      have g7 : Has (sg3.set mm (.map (emb vB (insM (p : Int) true l)))) ((mm, .map (emb vB (insM (p : Int) true l))) :: (lb, .loop y sv 0) :: (H2 ++ HH h m s over A R)) := g6
      refine ev_lpW g7 1 rfl ?_
      have g8 : Has (sg3.set mm (.map (emb vB (insM (p : Int) true l)))) ((lb, .loop y sv 0) :: (H2 ++ ((mm, .map (emb vB (insM (p : Int) true l))) :: HH h m s over A R))) := g7.pm fun q => by
        simp only [List.count_cons, List.count_append]; omega
      refine ev_callY (hY (c.take i) p t H2 _ _ hP2 g8 (by rw [List.length_take]; omega) ?_) ?_
      · have : c.take i ++ [(p, t)] = c.take (i + 1) := by rw [List.take_add_one, hpt]; rfl
        rw [this]; exact List.take_prefix _ _
      rintro _ sg4 ⟨rfl, H3, hP3, g9⟩
      refine ev_B rfl (ev_else (by decide) ?_)
      refine hnext _ hlt ⟨sg4, H3, insM (p : Int) true l, rfl, ?_, ?_, g9.pm fun q => by simp only [List.count_cons, List.count_append]; omega⟩
      · rw [List.take_add_one, hpt]; exact hP3
      · intro x hx
        rcases keys_ins.1 hx with rfl | hx
        · exact ⟨p, rfl, by rw [List.take_add_one, hpt]; simp [pgsL]⟩
        · obtain ⟨q, e1, e2⟩ := hl x hx
          refine ⟨q, e1, ?_⟩
          rw [List.take_add_one]
          simp only [pgsL, List.map_append, List.mem_append] at e2 ⊢
          exact .inl e2
    refine ev_ite (fun hn => ?_) (fun hn => ev_of rfl join)
    refine ev_else ?_ (ev_of rfl join)
    have hn0 : nx (c.drop (i + 1)) ≠ 0 := by simpa using hn
    have hne : c.drop (i + 1) ≠ [] := by rintro e0; rw [e0] at hn0; exact hn0 rfl
    have := ht.2.2 hne
    rw [hsz, this]; decide
  refine ev_ite (fun h0 => ev_ite (fun h3 => ?_) (fun h3 => ?_)) (fun h0 => ?_)
  · refine ev_of rfl (hgo fun e => ?_)
    rw [e] at h3
    exact absurd h3 (by simp [bodyL])
  · refine hstop ?_
    by_cases e : c.drop i = []
    · exact e
    · exfalso
      have := nx_mem e
      have hs : (pgsL (c.drop i)).Sublist (pgsL c) := (List.drop_sublist _ _).map _
      have := (hc.rg _ (hs.subset this)).1
      have h0 : nx (c.drop i) = 0 := by simpa using h0
      omega
  · refine ev_of rfl (hgo fun e => ?_)
    rw [e] at h0
    exact h0 rfl
theorem parts_no {lb m1 m2 p sz : Nat} (hA : St1 s n size pgs A) (hO : OvOk n over) (hp : p ≠ 0) (hb : ¬ ((2 ≤ (p : Int) ∧ (p : Int) < n) ∧ usedS (cur over pgs 1) p = true)) (hN : 200000 < N)
    (h1 : (m1, .mk [vI p, vI sz]) ∈ R) (h2 : (m2, .mk [.gp h 0]) ∈ R) (hh : Has sg (HH h m s over A R)) :
    Ev (tab N (dp + 6) 269 [.yl lb, .gp m1 0, .gp m2 0] sg) (Rp (fun _ _ => False) (fun v sg' => v = stopV 19 ∧ Has sg' (HH h m s over A R))) := by
  refine ev_gen fun Q hQ => ?_
  refine ev_of ((t269 ..).trans (blob_parts_1.main ..)) ?_
  have g1 := hh.new (.map [])
  generalize sg.length = mm at g1 ⊢
  refine ev_atI (g1.in (p := (m1, .mk [vI p, vI sz])) (by simp [h1])) rfl ?_
  refine ev_atI (g1.in (p := (m1, .mk [vI p, vI sz])) (by simp [h1])) rfl ?_
  refine ev_loop 0 (fun i st => ∃ sg', st = mkS [0, 2, 4, 5, 6] [.v (.yl lb) false, .v (.gp m2 0) false, .v (.gm mm) false, .v (vI sz) false, .v (vI p) false] [none, none, none, none, none] (.sg sg') ∧ Has sg' ((mm, .map []) :: HH h m s over A R)) (by omega) ⟨_, rfl, g1⟩ ?_
  rintro i st K hi ⟨sg2, rfl, g2⟩ hnext hexit hret
  refine ev_of (blob_parts_1.r0 ..) (ev_else (by simp; omega) ?_)
  refine ev_jn (blob_parts_1.j20 ..) ?_
  refine ev_atA (g2.in (p := (m2, .mk [.gp h 0])) (by simp [h2])) rfl (ev_A rfl ?_)
  have g3 : Has sg2 (HH h m s over A ((mm, .map []) :: R)) := g2.pm fun q => by simp only [List.count_cons, List.count_append]; omega
  refine ev_call (part_no (dp := dp + 1) hA hO g3 hb (by omega)) rfl ?_
  rintro _ _ ⟨rfl, rfl⟩
  refine ev_T (ev_bif rfl (ev_S rfl (ev_I rfl (ev_B rfl (ev_else (by decide) ?_)))))
  refine ev_atA (g2.in (p := (m2, .mk [.gp h 0])) (by simp [h2])) rfl (ev_A rfl ?_)
  refine ev_callP (stop_ok (k := 19)) rfl (fun _ _ h => h.elim) ?_
  rintro _ _ ⟨rfl, rfl⟩
  exact ev_out (hQ (.pan _ _) ⟨rfl, g2.tail⟩)
end Go.Abs
namespace Go.Abs
open Go
set_option linter.unusedVariables false
set_option maxRecDepth 100000
theorem app1T_gs {bytes n m g : Nat} {sg : Sg} {fl cs : List AVal} {t : Nat} (h : sg[g]? = some (.tmk t false cs)) (hl : cs.length = n) (h0 : 0 < cs.length) (hb : (n + m) * bytes ≤ 35184372088832) :
    app1 (some t) 1 bytes sg (.gs g 1 0 n) m fl = some (.gs sg.length 1 0 (n + m), sg.set g (.mk []) ++ [.tmk t false (cs ++ fl)]) := by
  have e : (okT (some t) (.tmk t false cs) && (Nat.beq cs.length (0 + n * 1) && Nat.blt 0 cs.length)) = true := by
    rw [hl, Nat.mul_one, Nat.zero_add, Nat.beq_refl]
    simp only [okT, Nat.beq_refl, Bool.true_and]
    rw [hl] at h0; exact Nat.ble_eq_true_of_le h0
  have e2 : (Nat.beq 1 1 && (Nat.beq 0 0 || (some t).isNone && Nat.blt 0 (n * 1))) = true := by simp
  have e' : (okT (some t) (.tmk t false cs) && (Nat.beq (Box.tmk t false cs).cells.length (0 + n * 1) && Nat.blt 0 (Box.tmk t false cs).cells.length)) = true := e
  simp only [app1, e2, cond_true, h, withO, e', if_pos hb]
  simp [Box.cells, boxT]
variable {N dp : Nat} {sg : Sg} {h s n size m k : Nat} {A R L : Hp} {pgs : List ByteArray} {over : List (Int × ByteArray)}
def PgP (ob : Nat) (d : Chain) (H : Hp) : Prop := ∃ a Hx, SxH a 1 d.length ((pgsL d).map fun (p : Nat) => vI p) Hx ∧ H = (ob, .mk [a]) :: Hx
theorem y_pages {ob lb p : Nat} {d : Chain} {t : List UInt8} {H : Hp} (hP : PgP ob d H) (hh : Has sg ((lb, .loop 900000 [.gp ob 0] 0) :: (H ++ L))) (hd : d.length ≤ 4000) :
    Ev (tab N (dp + 1) 1900000 [.yl lb, vI (p : Nat), vS (tx t)] sg) (Rt fun v sg' => v = vB true ∧ ∃ H', PgP ob (d ++ [(p, t)]) H' ∧ Has sg' ((lb, .loop 900000 [.gp ob 0] 0) :: (H' ++ L))) := by
  obtain ⟨a, Hx, hx, rfl⟩ := hP
  refine ev_of (t1900000 ..) (ev_Y hh 0 rfl rfl rfl ?_)
  refine ev_of (blob_Pages.y900000 ..) ?_
  refine ev_lpS hh 0 rfl fun sg2 h2 => ?_
  refine ev_ldA h2 1 rfl rfl (ev_bif rfl ?_)
  refine ev_appX hx (L := (lb, .loop 900000 [.gp ob 0] 1) :: (ob, .mk [a]) :: L) (h2.pm fun q => by simp only [List.set_cons_zero, List.count_cons, List.count_append, List.cons_append]; omega) rfl (by decide) (by decide) (by omega) fun a' H' sg3 hx' h3 => ?_
  have h4 : Has sg3 ((lb, .loop 900000 [.gp ob 0] 1) :: (ob, .mk [a]) :: (H' ++ L)) := h3.pm fun q => by simp only [List.count_cons, List.count_append]; omega
  refine ev_A hx'.plain ?_
  refine ev_st h4 1 rfl (by rw [hx'.one]; rfl) (by show 1 ≤ 1; omega) (by show 0 < 1; omega) fun sg4 h5 => ?_
  refine ev_lpE h5 0 rfl fun sg5 h6 => ev_ret ⟨rfl, (ob, .mk [a']) :: H', ⟨a', H', hx'.cast (by simp) (by simp [pgsL]), rfl⟩, ?_⟩
  rw [hx'.one] at h6
  exact h6
theorem pages_of {c : Chain} (hA : St1 s n size pgs A) (hO : OvOk n over) (hc : ChOk n pgs over c) (hh : Has sg (HH h m s over A R)) (hN : 200000 < N) :
    Ev (tab N (dp + 7) 67 [.gp h 0, .agg [vI (nx c), vI (bodyL c).length]] sg) (Rt fun v sg' => ∃ H, SxH v 1 c.length ((pgsL c).map fun (p : Nat) => vI p) H ∧ Has sg' (H ++ HH h m s over A R)) := by
  refine ev_of ((t67 ..).trans (blob_Pages.main ..)) ?_
  have h1 := hh.new (.mk [.sl true 1 []])
  generalize sg.length = ob at h1 ⊢
  refine ev_call (φ := fun v sg' => ∃ m1 m2, v = .clo 269 [] [.gp m1 0, .gp m2 0] ∧ Has sg' ((m1, .mk [vI (nx c), vI (bodyL c).length]) :: (m2, .mk [.gp h 0]) :: (ob, .mk [.sl true 1 []]) :: HH h m s over A R)) ?_ rfl ?_
  · refine ev_of ((t172 ..).trans (blob_parts.main ..)) (ev_ret ⟨_, _, rfl, (h1.new _).new _⟩)
  rintro _ sg2 ⟨m1, m2, rfl, h2⟩
  refine ev_A rfl (ev_O rfl (ev_L2 rfl ?_))
  have h3 := h2.new (.loop 900000 [.gp ob 0] 0)
  generalize sg2.length = lb at h3 ⊢
  refine ev_call (parts_ok (N := N) (dp := dp) (h := h) (m := m) (m1 := m1) (m2 := m2) (lb := lb) (y := 900000) (sv := [.gp ob 0]) (P := PgP ob) (H := [(ob, .mk [.sl true 1 []])]) (R := (m1, .mk [vI (nx c), vI (bodyL c).length]) :: (m2, .mk [.gp h 0]) :: R) hA hO hc hN
    (fun d p t H L sg hP hx hd _ => y_pages (dp := dp + 4) hP hx hd) ⟨_, [], SxH.nil 1, rfl⟩ (by simp) (by simp) (h3.pm fun q => by simp only [List.count_cons, List.count_append, List.count_nil]; omega)) rfl ?_
  rintro _ sg3 ⟨H, ⟨a, Hx, hx, rfl⟩, h4⟩
  refine ev_lpW h4 0 rfl (ev_bif rfl ?_)
  have h5 := h4.put (n := 0) (.mk []) rfl
  refine ev_ldA h5 1 rfl rfl (ev_A (a := a) ?_ (ev_ret ⟨Hx, hx, ?_⟩))
  · obtain ⟨_, ⟨_, _, rfl⟩ | ⟨_, g', rfl, _⟩⟩ := hx <;> rfl
  · have h6 : Has (sg3.set lb (.mk [])) ((lb, .mk []) :: (ob, .mk [a]) :: (m1, .mk [vI (nx c), vI (bodyL c).length]) :: (m2, .mk [.gp h 0]) :: (Hx ++ HH h m s over A R)) := h5.pm fun q => by
      simp only [List.set_cons_zero, List.count_cons, List.count_append]; omega
    exact h6.tail.tail.tail.tail
def GtP (ob : Nat) (d : Chain) (H : Hp) : Prop := (d = [] ∧ H = [(ob, .tmk 227 true [.at (.pointer none), .sl true 1 []])]) ∨
  (0 < (bodyL d).length ∧ ∃ gb, H = [(ob, .mk [.gp ob 0, .gs gb 1 0 (bodyL d).length]), (gb, .tmk 5 false (ofBytes (bodyL d)))])
theorem bodyL_snoc (d : Chain) (p : Nat) (t : List UInt8) : bodyL (d ++ [(p, t)]) = bodyL d ++ t := by simp [bodyL]
theorem bwrite_ok {ob p : Nat} {d : Chain} {t : List UInt8} {H : Hp} (hP : GtP ob d H) (hh : Has sg (H ++ L)) (ht : 1 ≤ t.length ∧ t.length ≤ 476) (hd : (bodyL d).length ≤ 4000000) :
    Ev (tab N (dp + 2) 173 [.gp ob 0, vS (tx t)] sg) (Rt fun v sg' => (∃ k : Int, v = .tup [vI k, .at .nilIface]) ∧ ∃ H', GtP ob (d ++ [(p, t)]) H' ∧ Has sg' (H' ++ L)) := by
  refine ev_of ((t173 ..).trans (strings_Builder_WriteString.main ..)) ?_
  have hs0 : Nat.beq (tx t).size 0 = false := by
    rw [tx_size]
    cases t with
    | nil => simp at ht
    | cons => rfl
  have hsb : (tx t).size * 1 ≤ 35184372088832 := by rw [tx_size]; omega
  rcases hP with ⟨rfl, rfl⟩ | ⟨hpos, gb, rfl⟩
  · have h0 := hh.at (n := 0) rfl
    refine ev_call (φ := fun v sg' => v = .tup [] ∧ Has sg' ((ob, .mk [.gp ob 0, .sl true 1 []]) :: L)) ?_ rfl ?_
    · refine ev_of (t271 ..) ?_
      simp only [ovCopyCheck, h0, Nat.beq_refl, cond_true]
      exact ev_ret ⟨rfl, hh.put (n := 0) _ rfl⟩
    rintro _ sg2 ⟨rfl, h2⟩
    refine ev_ldA h2 0 rfl rfl (ev_bie hs0 (ev_if hsb ?_))
    refine ev_app_nil h2 fun gb sg3 h3 => ?_
    refine ev_A rfl (ev_st h3 1 rfl rfl (by show 2 ≤ 2; omega) (by show 0 < 2; omega) fun sg4 h4 => ?_)
    refine ev_ret ⟨⟨_, rfl⟩, _, .inr ⟨?_, gb, rfl⟩, ?_⟩
    · simp [bodyL]; omega
    · have e1 : bodyL ([] ++ [(p, t)]) = t := by simp [bodyL]
      rw [e1]
      rw [tx_size] at h4
      exact h4.pm fun q => by
        simp only [List.count_cons, List.count_append, List.count_nil]
        show _ = _
        have e2 : List.set ((gb, boxT (some 5) (ofBytes (tx t).data.toList)) :: (ob, Box.mk [.gp ob 0, .sl true 1 []]) :: L) 1 (ob, .mk (splice (Box.mk [.gp ob 0, .sl true 1 []]).cells 1 (AVal.gs gb 1 0 t.length).cells)) = (gb, .tmk 5 false (ofBytes t)) :: (ob, .mk [.gp ob 0, .gs gb 1 0 t.length]) :: L := rfl
        rw [e2]
        simp only [List.count_cons]; omega
  · have h0 := hh.at (n := 0) rfl
    refine ev_call (φ := fun v sg' => v = .tup [] ∧ sg' = sg) ?_ rfl ?_
    · refine ev_of (t271 ..) ?_
      simp only [ovCopyCheck, h0, Nat.beq_refl, cond_true]
      exact ev_ret ⟨rfl, rfl⟩
    rintro _ sgx ⟨rfl, rfl⟩
    refine ev_ldA hh 0 rfl rfl (ev_bie hs0 (ev_if hsb ?_))
    have hg := hh.at (n := 1) rfl
    refine ev_O (app1T_gs hg (by rw [ofB_len]) (by rw [ofB_len]; exact hpos) (by rw [tx_size]; omega)) ?_
    have h3 := (hh.put (n := 1) (.mk []) rfl).new (.tmk 5 false (ofBytes (bodyL d) ++ ofBytes (tx t).data.toList))
    rw [List.length_set] at h3
    refine ev_A rfl (ev_st h3 1 rfl rfl (by show 2 ≤ 2; omega) (by show 0 < 2; omega) fun sg4 h4 => ?_)
    refine ev_ret ⟨⟨_, rfl⟩, _, .inr ⟨?_, sgx.length, rfl⟩, ?_⟩
    · rw [bodyL_snoc, List.length_append]; omega
    · have e1 : ofBytes (bodyL (d ++ [(p, t)])) = ofBytes (bodyL d) ++ ofBytes (tx t).data.toList := by rw [bodyL_snoc]; simp [ofBytes, tx]
      have e2 : (bodyL (d ++ [(p, t)])).length = (bodyL d).length + (tx t).size := by rw [bodyL_snoc, List.length_append, tx_size]
      rw [e1, e2]
      have h5 : Has sg4 ((sgx.length, .tmk 5 false (ofBytes (bodyL d) ++ ofBytes (tx t).data.toList)) :: (ob, .mk [.gp ob 0, .gs sgx.length 1 0 ((bodyL d).length + (tx t).size)]) :: (gb, .mk []) :: L) := h4
      have h6 : Has sg4 ((gb, .mk []) :: ([(ob, .mk [.gp ob 0, .gs sgx.length 1 0 ((bodyL d).length + (tx t).size)]), (sgx.length, .tmk 5 false (ofBytes (bodyL d) ++ ofBytes (tx t).data.toList))] ++ L)) := h5.pm fun q => by
        simp only [List.count_cons, List.count_append, List.count_nil]; omega
      exact h6.tail
theorem str_ok {ob : Nat} {d : Chain} {H : Hp} (hP : GtP ob d H) (hh : Has sg (H ++ L)) (hd : (bodyL d).length ≤ 4000000) : Ev (tab N (dp + 1) 174 [.gp ob 0] sg) (Rt fun v sg' => v = vS (tx (bodyL d)) ∧ Has sg' L) := by
  refine ev_of (t174 ..) ?_
  rcases hP with ⟨rfl, rfl⟩ | ⟨hpos, gb, rfl⟩
  · have h0 := hh.at (n := 0) rfl
    simp only [ovBString, h0, bStr]
    exact ev_ret ⟨rfl, hh.tail⟩
  · have h0 := hh.at (n := 0) rfl
    have h1 := hh.at (n := 1) rfl
    have hall : ∀ l : List UInt8, (ofBytes l).all byteOk = true := by
      intro l
      rw [List.all_eq_true]
      intro a ha
      simp only [ofBytes, List.mem_map] at ha
      obtain ⟨b, _, rfl⟩ := ha
      have := b.toNat_lt
      simp only [byteOk, Bool.and_eq_true, decide_eq_true_eq]
      omega
    have e : (Nat.beq (ofBytes (bodyL d)).length (bodyL d).length && (Nat.blt 0 (bodyL d).length && (Nat.ble (bodyL d).length 1099511627776 && (ofBytes (bodyL d)).all byteOk))) = true := by
      rw [ofB_len, hall, Nat.beq_refl]
      simp only [Bool.true_and, Bool.and_true, Bool.and_eq_true]
      exact ⟨Nat.ble_eq_true_of_le hpos, Nat.ble_eq_true_of_le (by omega)⟩
    simp only [ovBString, h0, bStr, h1, Nat.beq_refl, Bool.true_and, e, cond_true, bytes_of]
    exact ev_ret ⟨rfl, (hh.put (n := 1) (.mk []) rfl).tail.tail⟩
theorem cutd_prefix {d c : Chain} {p : Nat} {t : List UInt8} (hc : Cutd c) (h : (d ++ [(p, t)]) <+: c) : 1 ≤ t.length ∧ t.length ≤ 476 := by
  obtain ⟨r, rfl⟩ := h
  have := cutd_at (c := d ++ [(p, t)] ++ r) (j := d.length) (p := p) (t := t) hc (by simp)
  exact ⟨this.1, this.2.1⟩
theorem bodyL_le : ∀ {c : Chain}, Cutd c → (bodyL c).length ≤ 476 * c.length := by
  intro c
  induction c with
  | nil => intro _; simp [bodyL]
  | cons x r ih =>
    obtain ⟨p, t⟩ := x
    intro hc
    rw [bodyL_cons, List.length_append, List.length_cons]
    have := ih hc.2.2.2
    have := hc.2.1
    omega
theorem cutd_left : ∀ {a b : Chain}, Cutd (a ++ b) → ∀ x, x ∈ a → x.2.length ≤ 476
  | (p, t) :: r, b, h, x, hx => by
    rcases List.mem_cons.1 hx with rfl | hx
    · exact h.2.1
    · exact cutd_left (a := r) (b := b) h.2.2.2 x hx
theorem body_pre {a : Chain} (h : ∀ x, x ∈ a → x.2.length ≤ 476) : (bodyL a).length ≤ 476 * a.length := by
  induction a with
  | nil => simp [bodyL]
  | cons x r ih =>
    obtain ⟨p, t⟩ := x
    rw [bodyL_cons, List.length_append, List.length_cons]
    have := ih fun y hy => h y (by simp [hy])
    have := h (p, t) (by simp)
    simp only at this
    omega
theorem y_get {ob lb p : Nat} {d : Chain} {t : List UInt8} {H : Hp} (hP : GtP ob d H) (hh : Has sg ((lb, .loop 900001 [.gp ob 0] 0) :: (H ++ L))) (ht : 1 ≤ t.length ∧ t.length ≤ 476) (hd : (bodyL d).length ≤ 4000000) :
    Ev (tab N (dp + 3) 1900001 [.yl lb, vI (p : Nat), vS (tx t)] sg) (Rt fun v sg' => v = vB true ∧ ∃ H', GtP ob (d ++ [(p, t)]) H' ∧ Has sg' ((lb, .loop 900001 [.gp ob 0] 0) :: (H' ++ L))) := by
  refine ev_of (t1900001 ..) (ev_Y hh 0 rfl rfl rfl ?_)
  refine ev_of (blob_Get.y900001 ..) ?_
  refine ev_lpS hh 0 rfl fun sg2 h2 => ?_
  have h3 : Has sg2 (H ++ ((lb, .loop 900001 [.gp ob 0] 1) :: L)) := h2.pm fun q => by simp only [List.set_cons_zero, List.count_cons, List.count_append]; omega
  refine ev_call (bwrite_ok (dp := dp) (p := p) hP h3 ht hd) rfl ?_
  rintro _ sg3 ⟨⟨k, rfl⟩, H', hP', h4⟩
  refine ev_T (ev_bif rfl (ev_I rfl (ev_A rfl ?_)))
  have h5 : Has sg3 ((lb, .loop 900001 [.gp ob 0] 1) :: (H' ++ L)) := h4.pm fun q => by simp only [List.count_cons, List.count_append]; omega
  refine ev_lpE h5 0 rfl fun sg4 h6 => ev_ret ⟨rfl, H', hP', h6⟩
theorem get_of {c : Chain} (hA : St1 s n size pgs A) (hO : OvOk n over) (hc : ChOk n pgs over c) (hh : Has sg (HH h m s over A R)) (hN : 200000 < N) (hn : c.length ≤ 4000) :
    Ev (tab N (dp + 7) 68 [.gp h 0, .agg [vI (nx c), vI (bodyL c).length]] sg) (Rt fun v sg' => v = vS (tx (bodyL c)) ∧ Has sg' (HH h m s over A R)) := by
  refine ev_of ((t68 ..).trans (blob_Get.main ..)) ?_
  have h1 := hh.new (.tmk 227 true [.at (.pointer none), .sl true 1 []])
  generalize sg.length = ob at h1 ⊢
  refine ev_call (φ := fun v sg' => ∃ m1 m2, v = .clo 269 [] [.gp m1 0, .gp m2 0] ∧ Has sg' ((m1, .mk [vI (nx c), vI (bodyL c).length]) :: (m2, .mk [.gp h 0]) :: (ob, .tmk 227 true [.at (.pointer none), .sl true 1 []]) :: HH h m s over A R)) ?_ rfl ?_
  · refine ev_of ((t172 ..).trans (blob_parts.main ..)) (ev_ret ⟨_, _, rfl, (h1.new _).new _⟩)
  rintro _ sg2 ⟨m1, m2, rfl, h2⟩
  refine ev_A rfl (ev_O rfl (ev_L2 rfl ?_))
  have h3 := h2.new (.loop 900001 [.gp ob 0] 0)
  generalize sg2.length = lb at h3 ⊢
  refine ev_call (parts_ok (N := N) (dp := dp) (h := h) (m := m) (m1 := m1) (m2 := m2) (lb := lb) (y := 900001) (sv := [.gp ob 0]) (P := GtP ob) (H := [(ob, .tmk 227 true [.at (.pointer none), .sl true 1 []])]) (R := (m1, .mk [vI (nx c), vI (bodyL c).length]) :: (m2, .mk [.gp h 0]) :: R) hA hO hc hN
    (fun d p t H L sg hP hx hd hpre => y_get (dp := dp + 2) hP hx (cutd_prefix hc.cut hpre) (by
      have : (bodyL d).length ≤ 476 * d.length := body_pre fun x hx => by
        obtain ⟨r, rfl⟩ := hpre
        refine cutd_left (a := d) (b := [(p, t)] ++ r) ?_ x hx
        have := hc.cut
        rwa [List.append_assoc] at this
      omega)) (.inl ⟨rfl, rfl⟩) (by simp) (by simp) (h3.pm fun q => by simp only [List.count_cons, List.count_append, List.count_nil]; omega)) rfl ?_
  rintro _ sg3 ⟨H, hP, h4⟩
  refine ev_lpW h4 0 rfl (ev_bif rfl ?_)
  have h5 := h4.put (n := 0) (.mk []) rfl
  have h6 : Has (sg3.set lb (.mk [])) (H ++ ((lb, .mk []) :: (m1, .mk [vI (nx c), vI (bodyL c).length]) :: (m2, .mk [.gp h 0]) :: HH h m s over A R)) := h5.pm fun q => by
    simp only [List.set_cons_zero, List.count_cons, List.count_append]; omega
  refine ev_call (str_ok (dp := dp + 5) hP h6 (by have := bodyL_le hc.cut; omega)) rfl ?_
  rintro _ sg4 ⟨rfl, h7⟩
  exact ev_S rfl (ev_ret ⟨rfl, h7.tail.tail.tail⟩)
theorem get_none {p sz : Nat} (hA : St1 s n size pgs A) (hO : OvOk n over) (hp : p ≠ 0) (hb : ¬ ((2 ≤ (p : Int) ∧ (p : Int) < n) ∧ usedS (cur over pgs 1) p = true)) (hh : Has sg (HH h m s over A R)) (hN : 200000 < N) :
    Ev (tab N (dp + 7) 68 [.gp h 0, .agg [vI p, vI sz]] sg) (Rp (fun _ _ => False) (fun v sg' => v = stopV 19 ∧ Has sg' (HH h m s over A R))) := by
  refine ev_of ((t68 ..).trans (blob_Get.main ..)) ?_
  have h1 := hh.new (.tmk 227 true [.at (.pointer none), .sl true 1 []])
  generalize sg.length = ob at h1 ⊢
  refine ev_call (φ := fun v sg' => ∃ m1 m2, v = .clo 269 [] [.gp m1 0, .gp m2 0] ∧ Has sg' ((m1, .mk [vI p, vI sz]) :: (m2, .mk [.gp h 0]) :: (ob, .tmk 227 true [.at (.pointer none), .sl true 1 []]) :: HH h m s over A R)) ?_ rfl ?_
  · refine ev_of ((t172 ..).trans (blob_parts.main ..)) (ev_ret ⟨_, _, rfl, (h1.new _).new _⟩)
  rintro _ sg2 ⟨m1, m2, rfl, h2⟩
  refine ev_A rfl (ev_O rfl (ev_L2 rfl ?_))
  have h3 := h2.new (.loop 900001 [.gp ob 0] 0)
  generalize sg2.length = lb at h3 ⊢
  have h4 : Has (sg2 ++ [.loop 900001 [.gp ob 0] 0]) (HH h m s over A ((m1, .mk [vI p, vI sz]) :: (m2, .mk [.gp h 0]) :: (lb, .loop 900001 [.gp ob 0] 0) :: (ob, .tmk 227 true [.at (.pointer none), .sl true 1 []]) :: R)) := h3.pm fun q => by
    simp only [List.count_cons, List.count_append]; omega
  refine ev_callP (parts_no (N := N) (dp := dp) hA hO hp hb hN (m1 := m1) (m2 := m2) (sz := sz) (by simp) (by simp) h4) rfl (fun _ _ h => h.elim) ?_
  rintro _ sg3 ⟨rfl, h5⟩
  refine ⟨_, rfl, rfl, ?_⟩
  have h6 : Has sg3 ([(m1, .mk [vI p, vI sz]), (m2, .mk [.gp h 0]), (lb, .loop 900001 [.gp ob 0] 0), (ob, .tmk 227 true [.at (.pointer none), .sl true 1 []])] ++ HH h m s over A R) := h5.pm fun q => by
    simp only [List.count_cons, List.count_append, List.count_nil]; omega
  exact h6.drop _
structure Gvn (n : Nat) (pgs : List ByteArray) (o o' : List (Int × ByteArray)) (ps : List Nat) : Prop where
  ok : OvOk n o'
  bit : ∀ x : Nat, usedS (cur o' pgs 1) x = (usedS (cur o pgs 1) x && decide (x ∉ ps))
  oth : ∀ i : Int, i ≠ 1 → cur o' pgs i = cur o pgs i
  key : ∀ x, x ∈ o'.map (·.1) → x = 1 ∨ x ∈ o.map (·.1)
theorem Gvn.snoc {o o' : List (Int × ByteArray)} {ps : List Nat} {x : Nat} (h : Gvn n pgs o o' ps) (hp : pgs.length = n) (hs : ∀ t, t ∈ pgs → t.size = 480) (hn : 8 ≤ n ∧ n ≤ 3840) (hx : x < n) : Gvn n pgs o (insM 1 (setS (cur o' pgs 1) x false) o') (ps ++ [x]) := by
  have hb := cur_size (i := 1) h.ok hp hs ⟨by omega, by omega⟩
  have hok : okI (cur o' pgs 1) (x : Int) = true := (okI_nat hb _).2 ⟨by omega, by omega⟩
  refine ⟨h.ok.ins ⟨by omega, by omega⟩ (set_size hok false), fun y => ?_, fun i h1 => ?_, fun y hy => ?_⟩
  · rw [cur_ins, if_pos rfl, used_set hok]
    by_cases e : y = x
    · subst e; simp
    · rw [if_neg (by omega), h.bit]; simp [e]
  · rw [cur_ins, if_neg h1]; exact h.oth i h1
  · rcases keys_ins.1 hy with rfl | hy
    · exact .inl rfl
    · exact h.key y hy
theorem drop_of {c : Chain} (hA : St1 s n size pgs A) (hO : OvOk n over) (hc : ChOk n pgs over c) (hh : Has sg (HH h m s over A R)) (hN : 200000 < N) (hn : c.length ≤ 4000) :
    Ev (tab N (dp + 8) 64 [.gp h 0, .agg [vI (nx c), vI (bodyL c).length]] sg) (Rt fun v sg' => ∃ o', Gvn n pgs over o' (pgsL c) ∧ Has sg' (HH h m s o' A R)) := by
  obtain ⟨f1, f2, f3, f4⟩ := hA.facts
  refine ev_gen fun Q hQ => ?_
  refine ev_of ((t64 ..).trans (blob_Drop.main ..)) ?_
  refine ev_call (pages_of (dp := dp) hA hO hc hh hN) rfl ?_
  rintro v sg1 ⟨H, hx, h1⟩
  refine ev_O hx.len ?_
  refine ev_loop c.length (fun i st => ∃ sg' o', st = mkS [0, 8, 9, 10] [.v (.gp h 0) false, .v v false, .v (vI c.length) false, .v (vI i) false] [none, none, none, none] (.sg sg') ∧ Gvn n pgs over o' (pgsL (c.take i)) ∧ Has sg' (H ++ HH h m s o' A R)) (by omega)
    ⟨sg1, over, rfl, ⟨hO, fun x => by simp [pgsL], fun _ _ => rfl, fun _ h => .inr h⟩, h1⟩ ?_
  rintro i st K hi ⟨sg2, o2, rfl, hG, h2⟩ hnext hexit hret
  refine ev_of (blob_Drop.r0 ..) (ev_ite (fun hlt => ?_) (fun hge => ?_))
  · have hlt : i < c.length := by have : (i : Int) < c.length := by simpa using hlt
                                  omega
    obtain ⟨⟨p, t⟩, hpt⟩ : ∃ q, c[i]? = some q := ⟨_, List.getElem?_eq_getElem hlt⟩
    have hpi : (pgsL c)[i]? = some p := by simp [pgsL, hpt]
    have hpr := hc.rg p (List.mem_of_getElem? hpi)
    have htk : pgsL (c.take (i + 1)) = pgsL (c.take i) ++ [p] := by rw [List.take_add_one, hpt]; simp [pgsL]
    have hnot : p ∉ pgsL (c.take i) := by
      have hsub : (pgsL (c.take (i + 1))).Sublist (pgsL c) := (List.take_sublist _ _).map _
      have := hsub.nodup hc.nd
      rw [htk, List.nodup_append] at this
      intro hm
      exact this.2.2 p hm p (by simp) rfl
    refine ev_elXI hx h2 (fun q hq => by simp [hq]) (i := i) (v := p) (by simp [hpi]) ?_
    have h3 : Has sg2 (HH h m s o2 A (H ++ R)) := h2.pm fun q => by simp only [List.count_cons, List.count_append]; omega
    refine ev_callP (give_ok (dp := dp + 1) (i := (p : Int)) hA hG.ok h3 (by omega)) rfl ?_ ?_
    · rintro _ sg3 ⟨_, _, h4⟩
      rw [i64_nat (by omega)]
      refine hnext _ hlt ⟨sg3, insM 1 (setS (cur o2 pgs 1) p false) o2, rfl, ?_, h4.pm fun q => by simp only [List.count_cons, List.count_append]; omega⟩
      rw [htk]
      exact hG.snoc f1 f2 ⟨f3, f4⟩ hpr.2.1
    · rintro _ _ ⟨hno, _⟩
      refine absurd ⟨⟨by omega, by omega⟩, ?_⟩ hno
      rw [hG.bit, hpr.2.2]
      simp [hnot]
  · have he : i = c.length := by have : ¬ (i : Int) < c.length := by simpa using hge
                                 omega
    subst he
    rw [List.take_length] at hG
    refine hexit _ _ ?_
    exact ev_of (blob_Drop.k0_1 ..) (ev_out (hQ (.ret _ _) ⟨o2, hG, h2.drop H⟩))
end Go.Abs
namespace Go.Abs
open Go
set_option linter.unusedVariables false
set_option maxRecDepth 100000
variable {N dp : Nat} {sg : Sg} {h s n size m k : Nat} {A R L : Hp} {pgs : List ByteArray} {over : List (Int × ByteArray)}
def textL (s : List UInt8) (n : Nat) : List UInt8 := (List.range n).map fun i => s.getD (i % s.length) 0
theorem textL_len (s : List UInt8) (n : Nat) : (textL s n).length = n := by simp [textL]
theorem textL_succ (s : List UInt8) (n : Nat) : textL s (n + 1) = textL s n ++ [s.getD (n % s.length) 0] := by simp [textL, List.range_succ]
theorem btext_ok {s : List UInt8} {n : Nat} (hs : s ≠ []) (h1 : 1 ≤ n) (h2 : n ≤ 5000) (hN : 5001 < N) : Ev (tab N (dp + 1) 60 [vS (tx s), vI n] sg) (Rt fun v _ => v = vS (tx (textL s n))) := by
  refine ev_of ((t60 ..).trans (law14_text.main ..)) ?_
  have hsl : 0 < s.length := List.length_pos_iff.2 hs
  have hne : ¬ eqS (tx s) ⟨#[]⟩ = true := fun e => hs (tx_inj ((eqS_iff.1 e).trans tx_nil.symm))
  refine ev_else hne (ev_if ⟨by omega, by omega, by omega⟩ ?_)
  have e0 : (List.replicate ((n : Int)).toNat [v8 0]).flatten = ofBytes (textL s 0) ++ List.replicate (n - 0) (v8 0) := by
    simp [textL, ofBytes, List.flatten_replicate_singleton]
  have h0 : sg.length = sg.length := rfl
  have g0 : (sg ++ [Box.mk (List.replicate ((n : Int)).toNat [v8 0]).flatten])[sg.length]? = some (.mk (ofBytes (textL s 0) ++ List.replicate (n - 0) (v8 0))) := by rw [e0]; simp
  generalize sg ++ [Box.mk (List.replicate ((n : Int)).toNat [v8 0]).flatten] = sg0 at g0 ⊢
  generalize sg.length = g at g0 ⊢
  have en : ((n : Int).toNat : Int) = n := by omega
  rw [en, Int.toNat_natCast]
  refine ev_loop n (fun i st => ∃ sg', st = mkS [0, 5, 12, 13] [.v (vS (tx s)) false, .v (.gs g 1 0 n) false, .v (vI n) false, .v (vI i) false] [none, none, none, none] (.sg sg') ∧
    sg'[g]? = some (.mk (ofBytes (textL s i) ++ List.replicate (n - i) (v8 0)))) (by omega) ⟨_, rfl, g0⟩ ?_
  rintro i st K hi ⟨sg1, rfl, g1⟩ hnext hexit hret
  have hcl : (ofBytes (textL s i) ++ List.replicate (n - i) (v8 0)).length = n := by simp [ofB_len, textL_len]; omega
  refine ev_of (law14_text.r0 ..) (ev_ite (fun hlt => ?_) (fun hge => ?_))
  · have hlt : i < n := by simpa using hlt
    have et : ((i : Nat) : Int).tmod ((tx s).size : Int) = ((i % s.length : Nat) : Int) := by rw [tx_size]; exact Int.ofNat_tmod i s.length
    have hm : i % s.length < s.length := Nat.mod_lt _ hsl
    rw [et]
    refine ev_else (by rw [tx_size]; omega) (ev_if ⟨by omega, by rw [tx_size]; omega⟩ ?_)
    refine ev_elem (by omega) (by omega) ?_
    have e1 : 0 + ((i : Nat) : Int).toNat * 1 = i := by omega
    rw [e1, i64_nat (by omega)]
    refine ev_stA g1 rfl (Nat.le_trans (show i + 1 ≤ n by omega) (Nat.le_of_eq hcl.symm)) (Nat.lt_of_lt_of_eq (show 0 < n by omega) hcl.symm) ?_
    refine hnext _ hlt ⟨_, rfl, ?_⟩
    rw [List.getElem?_set_self (lt_of_at g1)]
    congr 2
    rw [textL_succ]
    have e2 : (tx s).data.toList.getD (((i % s.length : Nat) : Int)).toNat 0 = s.getD (i % s.length) 0 := by rw [tx_list, Int.toNat_natCast]
    rw [e2]
    have e3 : n - i = (n - (i + 1)) + 1 := by omega
    rw [e3, List.replicate_succ]
    have e4 : ofBytes (textL s i ++ [s.getD (i % s.length) 0]) = ofBytes (textL s i) ++ [v8 ((s.getD (i % s.length) 0).toNat : Int)] := by simp [ofBytes]
    rw [e4]
    have e5 : (ofBytes (textL s i)).length = i := by rw [ofB_len, textL_len]
    generalize s.getD (i % s.length) 0 = x
    show splice (ofBytes (textL s i) ++ v8 0 :: List.replicate (n - (i + 1)) (v8 0)) i [v8 (x.toNat : Int)] = _
    have e7 : ∀ (A B : List AVal) (x y : AVal), A.length = i → splice (A ++ x :: B) i [y] = A ++ [y] ++ B := by
      intro A B x y hA
      subst hA
      simp [splice]
    exact e7 _ _ _ _ e5
  · have he : i = n := by have : ¬ i < n := by simpa using hge
                          omega
    subst he
    refine hexit _ _ ?_
    refine ev_of (law14_text.k0_1 ..) (ev_A rfl (ev_bif rfl ?_))
    refine ev_O (flatG_gs g1 (Nat.le_trans (show 0 + i * 1 ≤ i by omega) (Nat.le_of_eq hcl.symm)) (Nat.lt_of_lt_of_eq (show 0 < i by omega) hcl.symm)) ?_
    refine ev_O (a := textL s i) ?_ (ev_ret rfl)
    have e6 : ((Box.mk (ofBytes (textL s i) ++ List.replicate (i - i) (v8 0))).cells.drop 0).take (i * 1) = ofBytes (textL s i) := by
      show ((ofBytes (textL s i) ++ List.replicate (i - i) (v8 0)).drop 0).take (i * 1) = _
      rw [Nat.sub_self, List.replicate_zero, List.append_nil, List.drop_zero, Nat.mul_one]
      exact List.take_of_length_le (by rw [ofB_len, textL_len]; exact Nat.le_refl _)
    rw [e6]
    exact bytes_of _
theorem need_ok {x : Nat} (h1 : 1 ≤ x) (h2 : x ≤ 1000000000) : Ev (tab N (dp + 1) 50 [vI x] sg) (Rt fun v _ => v = vI ((x + 475) / 476 : Nat)) := by
  refine ev_of ((t50 ..).trans (blob_Need.main ..)) (ev_else (by simp; omega) (ev_else (by decide) (ev_ret ?_)))
  have e : IntKind.i64.wrap ((x : Int) - 1) = ((x - 1 : Nat) : Int) := by rw [i64_in (by omega)]; omega
  have e2 : (((x - 1 : Nat) : Int)).tdiv 476 = (((x - 1) / 476 : Nat) : Int) := Int.ofNat_tdiv (x - 1) 476
  rw [e, e2, i64_in (n := (((x - 1) / 476 : Nat) : Int)) (by omega), i64_in (by omega)]
  congr 2
  omega
theorem view_any {f : FuncId} {first cap : List AVal} {P : Hp → Prop} {P' : Int → Hp → Prop} (hs : Has sg (A ++ R)) (hf : Nat.blt f yBase = true)
    (hcall : ∀ h m sg', Has sg' (HH h m s [] A R) → Ev (tab N (dp + 9) f (first ++ (.gp h 0 :: cap)) sg') (Rp
      (fun _ sg2 => ∃ over R2, P R2 ∧ Has sg2 (HH h m s over A R2)) (fun v sg2 => ∃ k R2, v = stopV k ∧ P' k R2 ∧ Has sg2 (A ++ R2)))) :
    Ev (tab N (dp + 11) 65 [.gp s 0, .clo f first cap] sg) (Rt fun v sg2 => (v = vI 0 ∧ ∃ R2, P R2 ∧ Has sg2 (A ++ R2)) ∨ (∃ k R2, v = vI k ∧ P' k R2 ∧ Has sg2 (A ++ R2))) := by
  refine ev_of ((t65 ..).trans (heap_View.main ..)) (ev_if (by decide) (ev_else (by decide) ?_))
  have h1 := hs.new (.map [])
  have h2 := h1.new (.mk [.gp s 0, .gm sg.length])
  generalize sg.length = m at h2 ⊢
  generalize (sg ++ [Box.map []]).length = h at h2 ⊢
  refine ev_call (φ := fun v sg2 => (v = vI 0 ∧ ∃ R2, P R2 ∧ Has sg2 (A ++ R2)) ∨ (∃ k R2, v = vI k ∧ P' k R2 ∧ Has sg2 (A ++ R2))) ?_ rfl ?_
  · obtain ⟨o, e1, e2⟩ := hcall h m _ h2
    refine ev_of (t121 ..) ?_
    simp only [ovTry, callC, hf, cond_true]
    rw [e1]
    cases o with
    | ret v sg2 =>
      obtain ⟨over, R2, hP, h3⟩ := e2
      exact ⟨_, rfl, .inl ⟨rfl, R2, hP, h3.tail.tail⟩⟩
    | pan v sg2 =>
      obtain ⟨k, R2, rfl, hP, h3⟩ := e2
      exact ⟨_, rfl, .inr ⟨k, R2, rfl, hP, h3⟩⟩
  · rintro _ sg2 (⟨rfl, h3⟩ | ⟨k, R2, rfl, h3⟩)
    · exact ev_I rfl (ev_ret (.inl ⟨rfl, h3⟩))
    · exact ev_I rfl (ev_ret (.inr ⟨k, R2, rfl, h3⟩))
end Go.Abs
namespace Go.Abs
open Go
set_option linter.unusedVariables false
set_option maxRecDepth 100000
section
variable {κ α : Type} [DecidableEq κ] {kv : κ → AVal} (f : α → AVal)
def embK (kv : κ → AVal) (f : α → AVal) (l : List (κ × α)) : List (AVal × AVal) := l.map fun p => (kv p.1, f p.2)
def lkK (k : κ) : List (κ × α) → Option α
  | [] => none
  | (k', v) :: l => if k = k' then some v else lkK k l
def insK (k : κ) (v : α) : List (κ × α) → List (κ × α)
  | [] => [(k, v)]
  | (k', v') :: l => if k = k' then (k, v) :: l else (k', v') :: insK k v l
def delK (k : κ) : List (κ × α) → List (κ × α)
  | [] => []
  | (k', v') :: l => if k = k' then l else (k', v') :: delK k l
theorem mGet_K (hk : ∀ a b, keyIs (kv a) (kv b) = some (decide (a = b))) (k : κ) : ∀ l, mGet (kv k) (embK kv f l) = some ((lkK k l).map f)
  | [] => rfl
  | (k', v) :: l => by
    have ih := mGet_K hk k l
    simp only [embK] at ih
    simp only [embK, List.map_cons, mGet, hk, lkK]
    by_cases h : k = k'
    · simp [h]
    · simp only [h, decide_false, if_false, ih]
theorem mSet_K (hk : ∀ a b, keyIs (kv a) (kv b) = some (decide (a = b))) (k : κ) (v : α) : ∀ l, mSet (kv k) (f v) (embK kv f l) = some (embK kv f (insK k v l))
  | [] => rfl
  | (k', v') :: l => by
    have ih := mSet_K hk k v l
    simp only [embK] at ih
    simp only [embK, List.map_cons, mSet, hk, insK]
    by_cases h : k = k'
    · simp [h]
    · simp only [h, decide_false, if_false, ih, List.map_cons]
theorem mDel_K (hk : ∀ a b, keyIs (kv a) (kv b) = some (decide (a = b))) (k : κ) : ∀ l, mDel (kv k) (embK kv f l) = some (embK kv f (delK k l))
  | [] => rfl
  | (k', v') :: l => by
    have ih := mDel_K hk k l
    simp only [embK] at ih
    simp only [embK, List.map_cons, mDel, hk, delK]
    by_cases h : k = k'
    · simp [h]
    · simp only [h, decide_false, if_false, ih, List.map_cons]
theorem lkK_none {k : κ} : ∀ {l : List (κ × α)}, lkK k l = none ↔ k ∉ l.map (·.1)
  | [] => by simp [lkK]
  | (k', v') :: l => by
    simp only [lkK, List.map_cons, List.mem_cons, not_or]
    by_cases h : k = k'
    · simp [h]
    · simp [h, lkK_none (l := l)]
theorem lkK_some {k : κ} {v : α} : ∀ {l : List (κ × α)}, (l.map (·.1)).Nodup → (k, v) ∈ l → lkK k l = some v
  | (k', v') :: l, hn, h => by
    simp only [List.map_cons, List.nodup_cons] at hn
    simp only [lkK]
    rcases List.mem_cons.1 h with h | h
    · cases h; simp
    · have : k ≠ k' := fun e => hn.1 (e ▸ List.mem_map.2 ⟨_, h, rfl⟩)
      rw [if_neg this]; exact lkK_some hn.2 h
theorem insK_new {k : κ} {v : α} : ∀ {l : List (κ × α)}, k ∉ l.map (·.1) → insK k v l = l ++ [(k, v)]
  | [], _ => rfl
  | (k', v') :: l, h => by
    simp only [List.map_cons, List.mem_cons, not_or] at h
    simp only [insK, if_neg h.1, insK_new h.2, List.cons_append]
theorem delK_at {k : κ} {v : α} : ∀ {a b : List (κ × α)}, k ∉ a.map (·.1) → delK k (a ++ (k, v) :: b) = a ++ b
  | [], b, _ => by simp [delK]
  | (k', v') :: a, b, h => by
    simp only [List.map_cons, List.mem_cons, not_or] at h
    simp only [List.cons_append, delK, if_neg h.1, delK_at h.2]
end
def kvP (p : Nat × Nat) : AVal := .agg [vI p.1, vI p.2]
theorem kvP_is (a b : Nat × Nat) : keyIs (kvP a) (kvP b) = some (decide (a = b)) := by
  obtain ⟨a1, a2⟩ := a
  obtain ⟨b1, b2⟩ := b
  simp only [kvP, keyIs, keysIs, keyI1, kEq, cond_true, Prod.mk.injEq]
  by_cases h1 : a1 = b1
  · by_cases h2 : a2 = b2
    · simp [h1, h2]
    · have : ((a2 : Int) == (b2 : Int)) = false := by rw [beq_eq_false_iff_ne]; omega
      simp [h1, h2, this]
  · have : ((a1 : Int) == (b1 : Int)) = false := by rw [beq_eq_false_iff_ne]; omega
    simp [h1, this]
variable {n : Nat} {pgs pgs' : List ByteArray} {o o' : List (Int × ByteArray)}
def usedL (s : ByteArray) : Nat → Nat → List Int
  | 0, _ => []
  | n + 1, i => if usedS s (i : Int) = true then (i : Int) :: usedL s n (i + 1) else usedL s n (i + 1)
theorem usedL_len (s : ByteArray) : ∀ n i, (usedL s n i).length = cnt s n i
  | 0, _ => rfl
  | n + 1, i => by
    simp only [usedL, cnt, one1]
    split
    · rw [List.length_cons, usedL_len s n]; omega
    · rw [usedL_len s n]; omega
theorem usedL_mem {s : ByteArray} {x : Int} : ∀ {n i : Nat}, x ∈ usedL s n i ↔ ((i : Int) ≤ x ∧ x < ((i + n : Nat) : Int)) ∧ usedS s x = true
  | 0, i => by simp [usedL]; omega
  | n + 1, i => by
    have ih := usedL_mem (s := s) (x := x) (n := n) (i := i + 1)
    simp only [usedL]
    split
    · rename_i hu
      rw [List.mem_cons, ih]
      constructor
      · rintro (rfl | ⟨h1, h2⟩)
        · exact ⟨⟨by omega, by omega⟩, hu⟩
        · exact ⟨⟨by omega, by omega⟩, h2⟩
      · rintro ⟨h1, h2⟩
        by_cases he : x = i
        · exact .inl he
        · exact .inr ⟨⟨by omega, by omega⟩, h2⟩
    · rename_i hu
      rw [ih]
      constructor
      · rintro ⟨h1, h2⟩
        exact ⟨⟨by omega, by omega⟩, h2⟩
      · rintro ⟨h1, h2⟩
        refine ⟨⟨?_, by omega⟩, h2⟩
        by_cases he : x = i
        · subst he; exact absurd h2 hu
        · omega
theorem usedL_nodup (s : ByteArray) : ∀ n i, (usedL s n i).Nodup
  | 0, _ => List.nodup_nil
  | n + 1, i => by
    simp only [usedL]
    split
    · rw [List.nodup_cons]
      refine ⟨fun hm => ?_, usedL_nodup s n (i + 1)⟩
      have := (usedL_mem.1 hm).1
      omega
    · exact usedL_nodup s n (i + 1)
def flat (cs : List Chain) : List Nat := (cs.map pgsL).flatten
structure Lv (n : Nat) (pgs : List ByteArray) (cs : List Chain) : Prop where
  ne : ∀ c, c ∈ cs → c ≠ [] ∧ Chn (cur [] pgs) c ∧ Cutd c
  nd : (flat cs).Nodup
  rg : ∀ x, x ∈ flat cs → 2 ≤ x ∧ x < n
  us : ∀ x : Nat, 2 ≤ x → x < n → (usedS (cur [] pgs 1) x = true ↔ x ∈ flat cs)
theorem mem_flat {cs : List Chain} {c : Chain} {x : Nat} (hc : c ∈ cs) (hx : x ∈ pgsL c) : x ∈ flat cs := List.mem_flatten.2 ⟨_, List.mem_map.2 ⟨c, hc, rfl⟩, hx⟩
theorem Lv.ok {cs : List Chain} (h : Lv n pgs cs) {c : Chain} (hc : c ∈ cs) : ChOk n pgs [] c := by
  obtain ⟨h1, h2, h3⟩ := h.ne c hc
  refine ⟨h2, h3, ?_, fun x hx => ?_⟩
  · have : (pgsL c).Sublist (flat cs) := List.sublist_flatten_of_mem (List.mem_map.2 ⟨c, hc, rfl⟩)
    exact this.nodup h.nd
  · have hm := mem_flat hc hx
    have hr := h.rg x hm
    exact ⟨hr.1, hr.2, (h.us x hr.1 hr.2).2 hm⟩
theorem Lv.nxs {cs : List Chain} (h : Lv n pgs cs) : (cs.map nx).Nodup := by
  have hs : (cs.map nx).Sublist (flat cs) := by
    have hne := fun c hc => (h.ne c hc).1
    clear h
    induction cs with
    | nil => exact List.Sublist.slnil
    | cons c cs ih =>
      have h1 := ih fun c hc => hne c (by simp [hc])
      have h2 := nx_mem (hne c (by simp))
      simp only [List.map_cons, flat, List.flatten_cons] at h1 ⊢
      exact List.Sublist.append (List.singleton_sublist.2 h2) h1
  exact hs.nodup h.nd
def kc (c : Chain) : Nat × Nat := (nx c, (bodyL c).length)
theorem Lv.kcs {cs : List Chain} (h : Lv n pgs cs) : (cs.map kc).Nodup := by
  have := h.nxs
  rw [List.nodup_iff_pairwise_ne, List.pairwise_map] at this ⊢
  exact this.imp fun hab e => hab (congrArg Prod.fst e)
theorem Lv.keep {cs : List Chain} (h : Lv n pgs cs) {c : Chain} (hc : c ∈ cs) (ho : ∀ i : Nat, i < n → pgs'.getD i ⟨#[]⟩ = cur o' pgs (i : Int)) (hk : ∀ x : Nat, x ∈ pgsL c → cur o' pgs (x : Int) = cur [] pgs (x : Int)) : Chn (cur [] pgs') c :=
  (h.ne c hc).2.1.congr fun p hp => by
    have := h.rg p (mem_flat hc hp)
    show pgs.getD ((p : Nat) : Int).toNat ⟨#[]⟩ = pgs'.getD ((p : Nat) : Int).toNat ⟨#[]⟩
    rw [Int.toNat_natCast, ho p this.2, hk p hp]; rfl
theorem Lv.put {cs : List Chain} (h : Lv n pgs cs) {ps : List Nat} {c : Chain} (ht : Tkn n pgs [] o' ps) (hn : 8 ≤ n) (hps : pgsL c = ps) (hc : Chn (cur o' pgs) c) (hcut : Cutd c) (hne : c ≠ []) (ho : ∀ i : Nat, i < n → pgs'.getD i ⟨#[]⟩ = cur o' pgs (i : Int)) : Lv n pgs' (cs ++ [c]) := by
  have hfl : flat (cs ++ [c]) = flat cs ++ ps := by simp [flat, hps]
  have hnew : ∀ x, x ∈ ps → x ∉ flat cs := fun x hx hm => by
    have := ht.rg x hx
    have := (h.us x this.1 this.2.1).2 hm
    simp_all
  have hb1 : cur [] pgs' 1 = cur o' pgs 1 := ho 1 (by omega)
  refine ⟨fun d hd => ?_, ?_, fun x hx => ?_, fun x h2 hx => ?_⟩
  · rcases List.mem_append.1 hd with hd | hd
    · refine ⟨(h.ne d hd).1, h.keep hd ho fun x hx => ht.oth x ?_ fun p hp e => ?_, (h.ne d hd).2.2⟩
      · have := h.rg x (mem_flat hd hx); omega
      · have : x = p := by omega
        exact hnew p hp (this ▸ mem_flat hd hx)
    · simp only [List.mem_singleton] at hd
      subst hd
      refine ⟨hne, hc.congr fun p hp => ?_, hcut⟩
      rw [hps] at hp
      exact (ho p (ht.rg p hp).2.1).symm
  · rw [hfl, List.nodup_append]
    refine ⟨h.nd, ht.nd, ?_⟩
    rintro a ha b hb rfl
    exact hnew a hb ha
  · rw [hfl, List.mem_append] at hx
    rcases hx with hx | hx
    · exact h.rg x hx
    · have := ht.rg x hx; omega
  · rw [hb1, ht.bit, hfl, List.mem_append, Bool.or_eq_true, decide_eq_true_eq, h.us x h2 hx]
theorem flat_app (a b : List Chain) : flat (a ++ b) = flat a ++ flat b := by simp [flat]
theorem flat_cons (c : Chain) (b : List Chain) : flat (c :: b) = pgsL c ++ flat b := by simp [flat]
theorem Lv.drop {a b : List Chain} {c : Chain} (h : Lv n pgs (a ++ c :: b)) (hg : Gvn n pgs [] o' (pgsL c)) (hn : 8 ≤ n) (ho : ∀ i : Nat, i < n → pgs'.getD i ⟨#[]⟩ = cur o' pgs (i : Int)) : Lv n pgs' (a ++ b) := by
  have hb1 : cur [] pgs' 1 = cur o' pgs 1 := ho 1 (by omega)
  have hpm : (flat (a ++ c :: b)).Perm (pgsL c ++ flat (a ++ b)) := by
    rw [flat_app, flat_cons, flat_app]
    exact List.perm_append_comm_assoc _ _ _
  have hnd := hpm.nodup_iff.1 h.nd
  rw [List.nodup_append] at hnd
  have hsub : ∀ x, x ∈ flat (a ++ b) → x ∈ flat (a ++ c :: b) := fun x hx => hpm.mem_iff.2 (List.mem_append.2 (.inr hx))
  have hmem : ∀ d, d ∈ a ++ b → d ∈ a ++ c :: b := fun d hd => by
    rcases List.mem_append.1 hd with hd | hd <;> simp [hd]
  refine ⟨fun d hd => ⟨(h.ne d (hmem d hd)).1, h.keep (hmem d hd) ho fun x hx => hg.oth x ?_, (h.ne d (hmem d hd)).2.2⟩, hnd.2.1, fun x hx => h.rg x (hsub x hx), fun x h2 hx => ?_⟩
  · have := h.rg x (mem_flat (hmem d hd) hx); omega
  · rw [hb1, hg.bit, Bool.and_eq_true, decide_eq_true_eq, h.us x h2 hx, hpm.mem_iff, List.mem_append]
    constructor
    · rintro ⟨h1 | h1, h3⟩
      · exact absurd h1 h3
      · exact h1
    · intro h1
      exact ⟨.inr h1, fun h3 => hnd.2.2 x h3 x h1 rfl⟩
theorem Lv.many {cs : List Chain} (h : Lv n pgs cs) (hn : 8 ≤ n) : cnt (cur [] pgs 1) (n - 2) 2 = (flat cs).length := by
  have h1 := usedL_len (cur [] pgs 1) (n - 2) 2
  have h2 := usedL_nodup (cur [] pgs 1) (n - 2) 2
  have h3 : ((flat cs).map fun (x : Nat) => (x : Int)).Nodup := by
    rw [List.nodup_iff_pairwise_ne, List.pairwise_map]
    exact h.nd.imp fun hab e => hab (by omega)
  have e9 : ((flat cs).map fun (x : Nat) => (x : Int)).length = (flat cs).length := List.length_map ..
  rw [← h1, ← e9]
  refine Nat.le_antisymm (h2.length_le_of_subset fun x hx => ?_) (h3.length_le_of_subset fun x hx => ?_)
  · obtain ⟨ha, hb⟩ := usedL_mem.1 hx
    obtain ⟨y, rfl⟩ := Int.eq_ofNat_of_zero_le (show 0 ≤ x by omega)
    exact List.mem_map.2 ⟨y, (h.us y (by omega) (by omega)).1 hb, rfl⟩
  · obtain ⟨y, hy, rfl⟩ := List.mem_map.1 hx
    have := h.rg y hy
    exact usedL_mem.2 ⟨⟨by omega, by omega⟩, (h.us y this.1 this.2).2 hy⟩
theorem Lv.new (hn : 8 ≤ n) : Lv n (List.replicate n (zeros 480)) [] := by
  refine ⟨by simp, by simp [flat], by simp [flat], fun x h2 hx => ?_⟩
  have : cur [] (List.replicate n (zeros 480)) 1 = zeros 480 := by
    show (List.replicate n (zeros 480)).getD 1 ⟨#[]⟩ = _
    rw [List.getD_eq_getElem?_getD, List.getElem?_replicate, if_pos (by omega)]; rfl
  rw [this, used_zeros]
  simp [flat]
end Go.Abs
namespace Go.Abs
open Go
set_option linter.unusedVariables false
set_option maxRecDepth 100000
def bmL (cs : List Chain) : List ((Nat × Nat) × Chain) := cs.map fun c => (kc c, c)
def fB (c : Chain) : AVal := vS (tx (bodyL c))
theorem bm_keys (cs : List Chain) : (bmL cs).map (·.1) = cs.map kc := by simp [bmL]
theorem lk_bm {cs : List Chain} (hn : (cs.map kc).Nodup) {k : Nat × Nat} {c : Chain} : lkK k (bmL cs) = some c ↔ c ∈ cs ∧ kc c = k := by
  constructor
  · intro h
    by_cases hk : k ∈ (bmL cs).map (·.1)
    · obtain ⟨⟨k', d⟩, hd, e⟩ := List.mem_map.1 hk
      simp only at e; subst e
      have h2 := lkK_some (by rw [bm_keys]; exact hn) hd
      rw [h] at h2
      cases h2
      obtain ⟨e', he', hx⟩ := List.mem_map.1 hd
      cases hx
      exact ⟨he', rfl⟩
    · rw [lkK_none.2 hk] at h; cases h
  · rintro ⟨h1, rfl⟩
    exact lkK_some (by rw [bm_keys]; exact hn) (List.mem_map.2 ⟨c, h1, rfl⟩)
def vis (cs : List Chain) (ev : List (Nat × Nat)) : List Chain := ev.filterMap fun k => lkK k (bmL cs)
theorem vis_perm {cs : List Chain} {ev : List (Nat × Nat)} (hn : (cs.map kc).Nodup) (he : ev.Nodup) (hc : ∀ c, c ∈ cs → kc c ∈ ev) : (vis cs ev).Perm cs := by
  have hcs : cs.Nodup := by
    rw [List.nodup_iff_pairwise_ne, List.pairwise_map] at hn
    exact hn.imp fun hab e => hab (congrArg kc e)
  refine (List.perm_ext_iff_of_nodup ?_ hcs).2 fun c => ?_
  · unfold vis
    rw [List.nodup_iff_pairwise_ne, List.pairwise_filterMap]
    refine he.imp fun {a a'} hab b hb b' hb' e => ?_
    subst e
    exact hab (((lk_bm hn).1 hb).2.symm.trans ((lk_bm hn).1 hb').2)
  · unfold vis
    rw [List.mem_filterMap]
    constructor
    · rintro ⟨k, _, hk⟩; exact ((lk_bm hn).1 hk).1
    · intro h; exact ⟨kc c, hc c h, (lk_bm hn).2 ⟨h, rfl⟩⟩
def evC (ev : List (Nat × Nat)) : List AVal := (ev.map fun k => [vI k.1, vI k.2]).flatten
theorem evC_at : ∀ {ev : List (Nat × Nat)} {i : Nat} {k : Nat × Nat}, ev[i]? = some k → ((evC ev).drop (i * 2)).take 2 = [vI k.1, vI k.2]
  | x :: ev, 0, k, h => by cases h; rfl
  | x :: ev, i + 1, k, h => by
    have := evC_at (ev := ev) (i := i) h
    have e : (i + 1) * 2 = i * 2 + 2 := by omega
    rw [e]
    show (([vI x.1, vI x.2] ++ evC ev).drop (i * 2 + 2)).take 2 = _
    rw [Nat.add_comm, ← List.drop_drop]
    exact this
def mtL (l : List Nat) : List (Int × Bool) := l.map fun (x : Nat) => ((x : Int), true)
theorem flat_sub {a b : List Chain} (h : a.Sublist b) : (flat a).Sublist (flat b) := by
  induction h with
  | slnil => exact List.Sublist.refl _
  | cons x _ ih => rw [flat_cons]; exact ih.trans (List.sublist_append_right _ _)
  | cons_cons x _ ih => rw [flat_cons, flat_cons]; exact List.Sublist.append (List.Sublist.refl _) ih
theorem mtL_none {l : List Nat} {x : Nat} (h : x ∉ l) : lk (x : Int) (mtL l) = none := by
  rw [lk_none]
  intro hm
  simp only [mtL, List.map_map, List.mem_map, Function.comp] at hm
  obtain ⟨y, hy, e⟩ := hm
  exact h ((by omega : y = x) ▸ hy)
theorem ins_new {α : Type} {k : Int} {v : α} : ∀ {l : List (Int × α)}, k ∉ l.map (·.1) → insM k v l = l ++ [(k, v)]
  | [], _ => rfl
  | (k', v') :: l, h => by
    simp only [List.map_cons, List.mem_cons, not_or] at h
    simp only [insM, if_neg h.1, ins_new h.2, List.cons_append]
theorem mtL_ins {l : List Nat} {x : Nat} (h : x ∉ l) : insM (x : Int) true (mtL l) = mtL (l ++ [x]) := by
  rw [ins_new (lk_none.1 (mtL_none h))]; simp [mtL]
variable {N dp : Nat} {sg : Sg} {h s n size m k : Nat} {A R L : Hp} {pgs : List ByteArray} {over : List (Int × ByteArray)}
theorem look_ok {cs : List Chain} {ev : List (Nat × Nat)} {m1 m2 m3 m4 m5 mb mt : Nat} {aE : AVal} {HE : Hp} (hA : St1 s n size pgs A) (hL : Lv n pgs cs) (he : ev.Nodup) (hce : ∀ c, c ∈ cs → kc c ∈ ev) (hx : SxH aE 2 ev.length (evC ev) HE) (hfew : ev.length ≤ 1000)
    (r0 : ∀ q, q ∈ HE → q ∈ R) (r1 : (m1, .mk [aE]) ∈ R) (r2 : (m2, .mk [.gm mb]) ∈ R) (r4 : (m4, .mk [.gm mt]) ∈ R) (r5 : (m5, .mk [vI n]) ∈ R) (rb : (mb, .map (embK kvP fB (bmL cs))) ∈ R)
    (hh : Has sg ((m3, .mk [vB true]) :: (mt, .map []) :: HH h m s [] A R)) (hN : 200000 < N) :
    Ev (tab N (dp + 9) 66 [.gp h 0, .gp m1 0, .gp m2 0, .gp m3 0, .gp m4 0, .gp m5 0] sg) (Rt fun _ sg' => ∃ l, Has sg' ((m3, .mk [vB true]) :: (mt, .map l) :: HH h m s [] A R)) := by
  obtain ⟨f1, f2, f3, f4⟩ := hA.facts
  have hO : OvOk n [] := ⟨by simp, by simp⟩
  have hvp := vis_perm hL.kcs he hce
  have hfv : (flat (vis cs ev)).Perm (flat cs) := (hvp.map pgsL).flatten
  have hfnd := hfv.nodup_iff.2 hL.nd
  refine ev_gen fun Q hQ => ?_
  refine ev_of ((t66 ..).trans (law14_BlobBack_3.main ..)) ?_
  refine ev_atA (hh.in (p := (m1, .mk [aE])) (by simp [r1])) rfl (ev_O hx.len ?_)
  refine ev_loop ev.length (fun i st => ∃ sg', st = mkS [0, 2, 3, 4, 5, 14, 15, 16] [.v (.gp h 0) false, .v (.gp m2 0) false, .v (.gp m3 0) false, .v (.gp m4 0) false, .v (.gp m5 0) false, .v aE false, .v (vI ev.length) false, .v (vI i) false]
      [none, none, none, none, none, none, none, none] (.sg sg') ∧ Has sg' ((m3, .mk [vB true]) :: (mt, .map (emb vB (mtL (flat (vis cs (ev.take i)))))) :: HH h m s [] A R)) (by omega) ⟨_, rfl, by simpa [vis, flat, mtL, emb] using hh⟩ ?_
  rintro i st K hi ⟨sg1, rfl, h1⟩ hnext hexit hret
  refine ev_of (law14_BlobBack_3.r0 ..) (ev_ite (fun hlt => ?_) (fun hge => ?_))
  · have hlt : i < ev.length := by have : (i : Int) < ev.length := by simpa using hlt
                                   omega
    obtain ⟨k, hk⟩ : ∃ k, ev[i]? = some k := ⟨_, List.getElem?_eq_getElem hlt⟩
    refine ev_elXG hx h1 (fun q hq => by simp [r0 q hq]) hlt (evC_at hk) (ev_bif rfl (ev_L2 (l' := [vI k.1, vI k.2]) rfl ?_))
    refine ev_atA (h1.in (p := (m2, .mk [.gm mb])) (by simp [r2])) rfl (ev_bif rfl (ev_L2 (l' := [vI k.1, vI k.2]) rfl (ev_bif rfl (ev_A rfl ?_))))
    refine ev_atM (h1.in (p := (mb, .map (embK kvP fB (bmL cs)))) (by simp [rb])) (ev_O (mGet_K fB kvP_is k (bmL cs)) ?_)
    have htk : vis cs (ev.take (i + 1)) = vis cs (ev.take i) ++ (lkK k (bmL cs)).toList := by
      unfold vis
      rw [List.take_add_one, hk, List.filterMap_append]
      cases hq : lkK k (bmL cs) <;> simp [hq]
    cases hlk : lkK k (bmL cs) with
    | none =>
      refine ev_if rfl ?_
      rw [i64_nat (by omega)]
      refine hnext _ hlt ⟨sg1, rfl, ?_⟩
      rw [htk, hlk, Option.toList_none, List.append_nil]
      exact h1
    | some c =>
      obtain ⟨hcm, rfl⟩ := (lk_bm hL.kcs).1 hlk
      have hco := hL.ok hcm
      have hcl : c.length ≤ 3840 := by
        have h9 : (pgsL c).length ≤ (flat cs).length := (List.sublist_flatten_of_mem (List.mem_map.2 ⟨c, hcm, rfl⟩)).length_le
        have h10 := hL.many f3
        have h11 := cnt_le (cur [] pgs 1) (n - 2) 2
        have : (pgsL c).length = c.length := by simp [pgsL]
        omega
      have hcut := hco.cut
      have hbl := bodyL_le hcut
      have hpos := hcut.pos (hL.ne c hcm).1
      refine ev_else (by simp [hasV]) (ev_bif rfl (ev_L2 (l' := [vI (kc c).1, vI (kc c).2]) rfl ?_))
      have h2 : Has sg1 (HH h m s [] A ((m3, .mk [vB true]) :: (mt, .map (emb vB (mtL (flat (vis cs (ev.take i)))))) :: R)) := h1.pm fun q => by simp only [List.count_cons, List.count_append]; omega
      refine ev_call (pages_of (dp := dp + 1) hA hO hco h2 hN) rfl ?_
      rintro a sg2 ⟨H, hxa, h3⟩
      refine ev_atB (h3.in (p := (m3, .mk [vB true])) (by simp)) rfl (ev_if rfl (ev_bif rfl (ev_L2 (l' := [vI (kc c).1, vI (kc c).2]) rfl ?_)))
      have h4 : Has sg2 (HH h m s [] A (H ++ ((m3, .mk [vB true]) :: (mt, .map (emb vB (mtL (flat (vis cs (ev.take i)))))) :: R))) := h3.pm fun q => by simp only [List.count_cons, List.count_append]; omega
      refine ev_call (get_of (dp := dp + 1) hA hO hco h4 hN (by omega)) rfl ?_
      rintro _ sg3 ⟨rfl, h5⟩
      refine ev_S rfl (ev_A (a := fB c) rfl (ev_S (a := tx (bodyL c)) rfl (ev_if (eqS_iff.2 rfl) (ev_O hxa.len (ev_S (a := tx (bodyL c)) rfl ?_)))))
      have ew : (((tx (bodyL c)).size : Nat) : Int) = (((bodyL c).length : Nat) : Int) := by rw [tx_size]
      rw [ew]
      refine ev_call (need_ok (dp := dp + 7) (x := (bodyL c).length) hpos (by omega)) rfl ?_
      rintro _ _ rfl
      refine ev_I rfl ?_
      have eb : (((c.length : Nat) : Int) == (((bodyL c).length + 475) / 476 : Nat)) = true := by rw [← hcut.many]; exact beq_self_eq_true _
      rw [eb]
      have h6 : Has sg3 ((m3, .mk [vB true]) :: (mt, .map (emb vB (mtL (flat (vis cs (ev.take i)))))) :: (H ++ HH h m s [] A R)) := h5.pm fun q => by simp only [List.count_cons, List.count_append]; omega
      refine ev_st h6 0 rfl rfl (by show 1 ≤ 1; omega) (by show 0 < 1; omega) fun sg4 h7 => ev_O hxa.len ?_
      have hfl : flat (vis cs (ev.take (i + 1))) = flat (vis cs (ev.take i)) ++ pgsL c := by rw [htk, hlk, flat_app]; simp [flat]
      have hpre : (flat (vis cs (ev.take i)) ++ pgsL c).Nodup := by
        rw [← hfl]
        have hs : (vis cs (ev.take (i + 1))).Sublist (vis cs ev) := (List.take_sublist _ _).filterMap _
        exact (flat_sub hs).nodup hfnd
      refine ev_loop c.length (fun j st => ∃ sg', st = mkS [0, 2, 3, 4, 5, 14, 15, 16, 47, 48, 49] [.v (.gp h 0) false, .v (.gp m2 0) false, .v (.gp m3 0) false, .v (.gp m4 0) false, .v (.gp m5 0) false, .v aE false, .v (vI ev.length) false, .v (vI i) false, .v a false, .v (vI c.length) false, .v (vI j) false]
        [none, none, none, none, none, none, none, none, none, none, none] (.sg sg') ∧ Has sg' ((m3, .mk [vB true]) :: (mt, .map (emb vB (mtL (flat (vis cs (ev.take i)) ++ pgsL (c.take j))))) :: (H ++ HH h m s [] A R))) (by omega)
        ⟨sg4, rfl, by
          have h7' : Has sg4 ((m3, .mk [vB true]) :: (mt, .map (emb vB (mtL (flat (vis cs (ev.take i)))))) :: (H ++ HH h m s [] A R)) := h7
          simpa [pgsL] using h7'⟩ ?_
      rintro j st K2 hj ⟨sg5, rfl, h8⟩ hnext2 hexit2 hret2
      refine ev_of (law14_BlobBack_3.r1 ..) (ev_ite (fun hlt2 => ?_) (fun hge2 => ?_))
      · have hlt2 : j < c.length := by have : (j : Int) < c.length := by simpa using hlt2
                                       omega
        obtain ⟨⟨p, t⟩, hpt⟩ : ∃ q, c[j]? = some q := ⟨_, List.getElem?_eq_getElem hlt2⟩
        have hpj : (pgsL c)[j]? = some p := by simp [pgsL, hpt]
        have htk2 : pgsL (c.take (j + 1)) = pgsL (c.take j) ++ [p] := by rw [List.take_add_one, hpt]; simp [pgsL]
        have hnot : p ∉ flat (vis cs (ev.take i)) ++ pgsL (c.take j) := by
          have hsub : (flat (vis cs (ev.take i)) ++ pgsL (c.take (j + 1))).Sublist (flat (vis cs (ev.take i)) ++ pgsL c) := List.Sublist.append (List.Sublist.refl _) ((List.take_sublist _ _).map _)
          have := hsub.nodup hpre
          rw [htk2, ← List.append_assoc, List.nodup_append] at this
          intro hm
          exact this.2.2 p hm p (by simp) rfl
        refine ev_elXI hxa h8 (fun q hq => by simp [hq]) (i := j) (v := p) (by simp [hpj]) ?_
        refine ev_ldB h8 0 rfl rfl (ev_if rfl ?_)
        refine ev_atA (h8.in (p := (m4, .mk [.gm mt])) (by simp [r4])) rfl (ev_A rfl ?_)
        refine ev_map h8 1 rfl (ev_O (mGet_emb vB ..) ?_)
        rw [mtL_none hnot]
        refine ev_B (a := false) rfl ?_
        refine ev_st h8 0 rfl rfl (by show 1 ≤ 1; omega) (by show 0 < 1; omega) fun sg6 h9 => ?_
        refine ev_atA (h9.in (p := (m4, .mk [.gm mt])) (by simp [r4])) rfl (ev_A rfl ?_)
        refine ev_map h9 1 rfl (ev_O (mSet_emb vB ..) ?_)
        rw [i64_nat (by omega)]
        refine hnext2 _ hlt2 ⟨_, rfl, ?_⟩
        have h10 := h9.put (n := 1) (.map (emb vB (insM (p : Int) true (mtL (flat (vis cs (ev.take i)) ++ pgsL (c.take j)))))) rfl
        rw [mtL_ins hnot, List.append_assoc, ← htk2] at h10
        rw [mtL_ins hnot, List.append_assoc, ← htk2]
        exact h10
      · have he2 : j = c.length := by have : ¬ (j : Int) < c.length := by simpa using hge2
                                      omega
        subst he2
        refine hexit2 _ _ ?_
        refine ev_of (law14_BlobBack_3.k1_1 ..) ?_
        rw [i64_nat (by omega)]
        refine hnext _ hlt ⟨sg5, rfl, ?_⟩
        rw [hfl]
        rw [List.take_length] at h8
        have h9 : Has sg5 (H ++ ((m3, .mk [vB true]) :: (mt, .map (emb vB (mtL (flat (vis cs (ev.take i)) ++ pgsL c)))) :: HH h m s [] A R)) := h8.pm fun q => by simp only [List.count_cons, List.count_append]; omega
        exact h9.drop H
  · have hie : i = ev.length := by have : ¬ (i : Int) < ev.length := by simpa using hge
                                   omega
    subst hie
    rw [List.take_length] at h1
    refine hexit _ _ ?_
    refine ev_of (law14_BlobBack_3.k0_1 ..) (ev_ldB h1 0 rfl rfl (ev_if rfl ?_))
    have h2 : Has sg1 (HH h m s [] A ((m3, .mk [vB true]) :: (mt, .map (emb vB (mtL (flat (vis cs ev))))) :: R)) := h1.pm fun q => by simp only [List.count_cons, List.count_append]; omega
    refine ev_call (hfree_ok (dp := dp + 4) hA hO h2 (by omega)) rfl ?_
    rintro _ _ ⟨rfl, rfl⟩
    refine ev_I rfl ?_
    refine ev_atI (h1.in (p := (m5, .mk [vI n])) (by simp [r5])) rfl ?_
    refine ev_atA (h1.in (p := (m4, .mk [.gm mt])) (by simp [r4])) rfl (ev_A rfl ?_)
    refine ev_map h1 1 rfl ?_
    have e1 : ((emb vB (mtL (flat (vis cs ev)))).length : Nat) = (flat cs).length := by simp [emb, mtL, hfv.length_eq]
    have e2 := hL.many f3
    have e3 := cnt_le (cur [] pgs 1) (n - 2) 2
    have e4 : ((((n : Int) - 2) - ((cnt (cur [] pgs 1) (n - 2) 2 : Nat) : Int)) == IntKind.i64.wrap (IntKind.i64.wrap ((n : Int) - 2) - (((emb vB (mtL (flat (vis cs ev)))).length : Nat) : Int))) = true := by
      rw [e1, ← e2, i64_in (n := (n : Int) - 2) (by omega), i64_in (by omega)]
      exact beq_self_eq_true _
    rw [e4]
    refine ev_st h1 0 rfl rfl (by show 1 ≤ 1; omega) (by show 0 < 1; omega) fun sg2 h3 => ?_
    exact ev_out (hQ (.ret _ _) ⟨_, h3⟩)
end Go.Abs
