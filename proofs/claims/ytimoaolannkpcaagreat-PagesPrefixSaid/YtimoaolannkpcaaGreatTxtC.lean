/- What the functions of the program come to, one after another: several texts joined. -/
import Derived.Test.YtimoaolannkpcaaGreatTxtB
set_option linter.unusedVariables false
set_option linter.unusedSimpArgs false
set_option linter.unusedSectionVars false
namespace Go.Abs
open Go
set_option linter.unusedVariables false
set_option maxRecDepth 100000
variable {N dp : Nat} {sg : Sg} {s d p m n k size g w : Nat} {jv : AVal} {wt : Int} {D : ADisk} {R : Hp}
theorem set_mid {α : Type} {a b : List α} {i : Nat} (h : a.length = b.length) (hi : i < a.length) : (a.take i ++ b.drop i).set i a[i] = a.take (i + 1) ++ b.drop (i + 1) := by
  have e1 : b.drop i = b[i]'(by omega) :: b.drop (i + 1) := List.drop_eq_getElem_cons (by omega)
  have e2 : (a.take i).length = i := by rw [List.length_take]; omega
  rw [e1, List.set_append_right _ _ (by omega), e2, Nat.sub_self, List.set_cons_zero]
  have e3 : a.take (i + 1) = a.take i ++ [a[i]] := by rw [List.take_add_one, List.getElem?_eq_getElem hi]; rfl
  rw [e3, List.append_assoc]; rfl
theorem sread_eq {pgs homes : List (List UInt8)} (h : Has sg ((s, stB d size p n m jv wt) :: (p, pgB pgs) :: (dkH d g w D ++ R))) (hD : DOk (1 + size + n) k D) (hk : k ≤ 100000) (hd : D.down = false) (hpl : pgs.length = n) (hhl : homes.length = n)
    (hsz : ∀ t, t ∈ homes → t.length = 480) (hn2 : n ≤ 3840) (hs2 : size ≤ 1024) (hN : 1000000 < N) (hh : ∀ i (hi : i < n), (appl D.wr D.safe)[1 + size + i]? = some (tx (homeL i (homes[i]'(by omega))))) :
    Ev (tab N (dp + 6) 136 [.gp s 0] sg) (Rt fun v sg' => v = vI 0 ∧ Has sg' ((s, stB d size p n m jv wt) :: (p, pgB homes) :: (dkH d g w D ++ R))) := by
  refine ev_of ((t136 ..).trans (pages_Store_read.main ..)) ?_
  have hf := hD.few
  refine ev_ldA h 0 rfl rfl (ev_O (a := n) rfl ?_)
  refine ev_loop n (fun i st => ∃ sg', st = mkS [0, 10, 11] [.v (.gp s 0) false, .v (vI n) false, .v (vI i) false] [none, none, none] (.sg sg') ∧
    Has sg' ((s, stB d size p n m jv wt) :: (p, pgB (homes.take i ++ pgs.drop i)) :: (dkH d g w D ++ R))) (by omega) ⟨_, rfl, h⟩ ?_
  rintro i st K hi ⟨sg1, rfl, h1⟩ hnext hexit hret
  refine ev_of (pages_Store_read.r0 ..) ?_
  refine ev_ite (fun hlt => ?_) (fun hge => ?_)
  · have hlt : i < n := by simpa using hlt
    refine ev_ldA h1 0 rfl rfl ?_
    refine ev_call (shome_ok (i := 0) h1 rfl hs2 (by omega)) rfl ?_
    rintro _ sg2 ⟨rfl, rfl⟩
    refine ev_I rfl (ev_A rfl ?_)
    refine ev_call (dread_ok (Has.sw [_, _] (dkH d g w D) h1) hd (by rw [hD.len]; omega) (by omega) (by omega)) rfl ?_
    rintro _ sg3 ⟨rfl, h3⟩
    replace h3 := Has.sw (dkH d g w D) [_, _] h3
    rw [hh i hlt]
    refine ev_T (ev_bif rfl (ev_S rfl (ev_I rfl (ev_else (by decide) ?_))))
    refine ev_ldA h3 0 rfl rfl ?_
    have hz : (homes[i]'(by omega)).length = 480 := hsz _ (List.getElem_mem _)
    refine ev_call (ofhome_eq (N := N) (dp := dp) (p := i) (by omega) hz (by omega)) rfl ?_
    rintro _ _ ⟨rfl, _⟩
    refine ev_T (ev_bif rfl (ev_S rfl (ev_I rfl ?_)))
    refine ev_elem (by omega) (Int.ofNat_lt.2 hlt) ?_
    have hl : (homes.take i ++ pgs.drop i).length = n := by rw [List.length_append, List.length_take, List.length_drop]; omega
    refine ev_st h3 1 rfl rfl ?_ ?_ fun sg4 h4 => ?_
    · show 0 + ((i : Nat) : Int).toNat * 1 + 1 ≤ (((homes.take i ++ pgs.drop i).map tx).map vS).length
      rw [List.length_map, List.length_map, hl]; simp; omega
    · show 0 < (((homes.take i ++ pgs.drop i).map tx).map vS).length
      rw [List.length_map, List.length_map, hl]; omega
    replace h4 : Has sg4 ((s, stB d size p n m jv wt) :: (p, .mk (splice (((homes.take i ++ pgs.drop i).map tx).map vS) (0 + ((i : Nat) : Int).toNat * 1) (vS (tx (homes[i]'(by omega)))).cells)) :: (dkH d g w D ++ R)) := h4
    rw [splice_map vS rfl (by rw [List.length_map, hl]; exact hlt), ← List.map_set, set_mid (by omega) (by omega)] at h4
    refine ev_else (by decide) ?_
    rw [i64_nat (by omega)]
    exact hnext _ hlt ⟨_, rfl, h4⟩
  · have hge : i = n := by
      have : n ≤ i := by simpa using hge
      omega
    subst hge
    refine hexit _ _ ?_
    refine ev_of (pages_Store_read.k0_2 ..) (ev_ret ⟨rfl, ?_⟩)
    have e1 : homes.take i ++ pgs.drop i = homes := by rw [List.take_of_length_le (by omega), List.drop_of_length_le (by omega), List.append_nil]
    rw [e1] at h1
    exact h1
end Go.Abs
namespace Go.Abs
open Go
set_option linter.unusedVariables false
set_option maxRecDepth 100000
variable {N dp : Nat} {sg : Sg} {s d p m n k size g w ep : Nat} {jv : AVal} {wt : Int} {D : ADisk} {R : Hp}
theorem popen_eq (h : Has sg (dkH d g w D ++ R)) (hD : DOk (1 + size + n) k D) (hk : k ≤ 100000) (hd : D.down = false) (he : ep < 2 ^ 64) (hn1 : 8 ≤ n) (hn2 : n ≤ 3840) (hs1 : 4 ≤ size) (hs2 : size ≤ 1024) (hN : 1000000 < N)
    (hh : (appl D.wr D.safe)[0]? = some (tx (headS ep n size).simg)) :
    Ev (tab N (dp + 5) 135 [.gp d 0] sg) (Rt fun v sg' => ∃ s p m, v = .tup [.gp s 0, vU ep, vI 0] ∧
      Has sg' ((s, stB d size p n m (.at (.pointer none)) 0) :: (p, pgB (List.replicate n (List.replicate 480 0))) :: (m, .map (emb tV [])) :: (dkH d g w D ++ R))) := by
  have hf := hD.few
  have hok := headS_ok (ep := ep) (n := n) (size := size) he (by omega) (by omega)
  refine ev_of ((t135 ..).trans (pages_open.main ..)) ?_
  refine ev_call (dread_ok (i := 0) h hd (by rw [hD.len]; omega) (by omega) (by omega)) rfl ?_
  rintro _ sg1 ⟨rfl, h1⟩
  rw [hh]
  refine ev_T (ev_bif rfl (ev_S rfl (ev_I rfl (ev_else (by decide) ?_))))
  refine ev_call (open_seal (N := N) (dp := dp) hok (by omega) (has_nil [])) rfl ?_
  rintro _ _ ⟨rfl, _⟩
  refine ev_T (ev_bif rfl (ev_Gx rfl (ev_I rfl (ev_bif rfl (ev_bif rfl (ev_L2 rfl (ev_else (by decide) ?_)))))))
  refine ev_I rfl (ev_I rfl ?_)
  refine ev_call (size_ok (N := N) (dp := dp + 2) (a := n) (b := size)) rfl ?_
  rintro _ _ ⟨rfl, _⟩
  rw [if_pos ⟨by omega, by omega, by omega, by omega⟩]
  refine ev_T (ev_bif rfl (ev_I rfl (ev_I rfl ?_)))
  refine ev_I rfl (ev_I rfl (ev_I rfl ?_))
  refine ev_call (head_eq (N := N) (dp := dp) (n := n) (size := size) (ep := ep) he (by omega) (by omega) (by omega)) rfl ?_
  rintro _ _ rfl
  refine ev_T (ev_bif rfl (ev_S rfl (ev_I rfl (ev_if rfl ?_))))
  refine ev_call (len_ok h1) rfl ?_
  rintro _ sg2 ⟨rfl, rfl⟩
  rw [hD.len]
  refine ev_I rfl (ev_if (by simp <;> omega) ?_)
  have e1 : eqS (tx (headS ep n size).simg) (tx (headS ep n size).simg) = true := eqT_iff.2 rfl
  refine ev_else (fun hq => by
    have hq' : (!eqS (tx (headS ep n size).simg) (tx (headS ep n size).simg)) = true := hq
    rw [e1] at hq'; cases hq') ?_
  refine ev_I rfl (ev_I rfl ?_)
  refine ev_call (held_ok (N := N) (dp := dp) (n := n) (size := size) h1 (by omega) hn2 (by omega)) rfl ?_
  rintro _ sg3 ⟨s, p, m, rfl, h3⟩
  refine ev_I rfl (ev_A rfl (ev_ret ⟨s, p, m, rfl, ?_⟩))
  have e2 : (List.replicate n (List.replicate 480 (0 : UInt8))).map tx = List.replicate n (zeros 480) := by rw [List.map_replicate]; rfl
  unfold pgB
  rw [e2]
  exact h3
end Go.Abs
namespace Go.Abs
open Go
set_option linter.unusedVariables false
set_option maxRecDepth 100000
variable {N dp : Nat} {sg : Sg} {s d p m n size t : Nat} {jv : AVal} {wt : Int} {R : Hp}
theorem setPg_len : ∀ (l : List AIm) (g : List (List UInt8)), (setPg l g).length = g.length
  | [], _ => rfl
  | x :: l, g => by
    show (setPg l (g.set x.1 x.2)).length = _
    rw [setPg_len l, List.length_set]
theorem insAll_ok {n : Nat} : ∀ {l : List (Int × ByteArray)} {f : List (Int × Unit)}, (∀ q, q ∈ l → 0 ≤ q.1 ∧ q.1 < (n : Int)) → FrOk n f → FrOk n (insAll l f)
  | [], f, _, h => h
  | x :: l, f, hl, h => insAll_ok (l := l) (f := insM x.1 () f) (fun q hq => hl q (by simp [hq])) (h.ins (hl x (by simp)))
def pgAll (ts : List (List AIm)) (g : List (List UInt8)) : List (List UInt8) := ts.foldl (fun g l => setPg l g) g
def frAll (ts : List (List AIm)) (f : List (Int × Unit)) : List (Int × Unit) := ts.foldl (fun f l => insAll (imL l) f) f
theorem pgAll_snoc (ts : List (List AIm)) (l : List AIm) (g : List (List UInt8)) : pgAll (ts ++ [l]) g = setPg l (pgAll ts g) := by simp [pgAll]
theorem frAll_snoc (ts : List (List AIm)) (l : List AIm) (g : List (Int × Unit)) : frAll (ts ++ [l]) g = insAll (imL l) (frAll ts g) := by simp [frAll]
theorem pgAll_len : ∀ (ts : List (List AIm)) (g : List (List UInt8)), (pgAll ts g).length = g.length
  | [], _ => rfl
  | l :: ts, g => (pgAll_len ts (setPg l g)).trans (setPg_len l g)
theorem frAll_ok {n : Nat} : ∀ {ts : List (List AIm)} {f : List (Int × Unit)}, (∀ l, l ∈ ts → AImOk n l) → FrOk n f → FrOk n (frAll ts f)
  | [], f, _, h => h
  | l :: ts, f, hl, h => frAll_ok (ts := ts) (f := insAll (imL l) f) (fun q hq => hl q (by simp [hq])) (insAll_ok (fun q hq => ((hl l (by simp)).im.rg q hq).1) h)
theorem replay_loop {ts : List (List AIm)} {vs : List AVal} {pgs : List (List UInt8)} {lf : List (Int × Unit)} (hlen : vs.length = ts.length)
    (hv : ∀ i (h1 : i < ts.length), ∃ H, ImH (vs[i]'(by omega)) (imL ts[i]) H ∧ ∀ q, q ∈ H → q ∈ R) (hok : ∀ l, l ∈ ts → AImOk n l) (hpl : pgs.length = n) (hfr : FrOk n lf) (hn2 : n ≤ 3840) (hts : ts.length ≤ 100000) (hN : 1000000 < N)
    (h : Has sg ((s, stB d size p n m jv wt) :: (p, pgB pgs) :: (m, .map (emb tV lf)) :: (t, .mk vs) :: R)) :
    Ev (iter (pages_Store_replay.R0 (tab N (dp + 4)) N) N (mkS [0, 25, 26, 27] [.v (.gp s 0) false, .v (.gs t 1 0 ts.length) false, .v (vI ts.length) false, .v (vI 0) false] [none, none, none, none] (.sg sg)) (pages_Store_replay.K0 (tab N (dp + 4)) N))
      (Rt fun v sg' => v = vI 0 ∧ Has sg' ((s, stB d size p n m jv wt) :: (p, pgB (pgAll ts pgs)) :: (m, .map (emb tV (frAll ts lf))) :: (t, .mk vs) :: R)) := by
  refine ev_loop ts.length (fun i st => ∃ sg', st = mkS [0, 25, 26, 27] [.v (.gp s 0) false, .v (.gs t 1 0 ts.length) false, .v (vI ts.length) false, .v (vI i) false] [none, none, none, none] (.sg sg') ∧
    Has sg' ((s, stB d size p n m jv wt) :: (p, pgB (pgAll (ts.take i) pgs)) :: (m, .map (emb tV (frAll (ts.take i) lf))) :: (t, .mk vs) :: R)) (by omega) ⟨_, rfl, h⟩ ?_
  rintro i st K hi ⟨sg1, rfl, h1⟩ hnext hexit hret
  refine ev_of (pages_Store_replay.r0 ..) ?_
  refine ev_ite (fun hlt => ?_) (fun hge => ?_)
  · have hlt : i < ts.length := by simpa using hlt
    obtain ⟨H, hI, hH⟩ := hv i hlt
    have hl := hok ts[i] (List.getElem_mem hlt)
    have e1 : ts.take (i + 1) = ts.take i ++ [ts[i]] := by rw [List.take_add_one, List.getElem?_eq_getElem hlt]; rfl
    have hln : (imL ts[i]).length ≤ n := imOk_len hl.im
    refine ev_elem (by omega) (Int.ofNat_lt.2 hlt) ?_
    refine ev_ldA (a := vs[i]'(by omega)) h1 3 rfl ?_ ?_
    · show vs[0 + ((i : Nat) : Int).toNat * 1]? = _
      simp [List.getElem?_eq_getElem (show i < vs.length by omega)]
    refine ev_A hI.plain ?_
    refine ev_call (sthas_ok (i := 0) hI (fun q hq => by simp [hH q hq]) h1 rfl hl.im (by omega) (by omega)) rfl ?_
    rintro _ sg2 ⟨rfl, h2⟩
    refine ev_B rfl (ev_else (by decide) (ev_A hI.plain ?_))
    refine ev_call (change_eq (dp := dp + 3) hI (fun q hq => List.mem_cons_of_mem _ (hH q hq)) h2 (by rw [List.length_map, pgAll_len]; exact hpl) (frAll_ok (fun l hl => hok l (List.mem_of_mem_take hl)) hfr) hl.im (by omega) (by omega)) rfl ?_
    rintro _ sg3 h3
    rw [setIm_tx] at h3
    rw [i64_nat (by omega)]
    refine hnext _ hlt ⟨_, rfl, ?_⟩
    rw [e1, pgAll_snoc, frAll_snoc]
    exact h3
  · have hge : i = ts.length := by
      have : ts.length ≤ i := by simpa using hge
      omega
    subst hge
    rw [List.take_length] at h1
    refine hexit _ _ ?_
    exact ev_of (pages_Store_replay.k0_2 ..) (ev_ret ⟨rfl, h1⟩)
end Go.Abs
namespace Go.Abs
open Go
set_option linter.unusedVariables false
/-- The next transaction: c tells what stands in a sector (none: nothing that opens). -/
def nextM (c : Nat → Option ASec) (size ep number : Nat) : Nat → Nat → List AIm → Option (List AIm × Nat)
  | 0, _, _ => none
  | f + 1, pos, im => if pos < size then match c (1 + pos) with
      | none => none
      | some s => if s.ep = ep ∧ s.num = number then
          if s.kind = 2 ∧ s.many = im.length ∧ s.pos < 3840 then nextM c size ep number f (pos + 1) (im ++ [(s.pos, s.body)])
          else if s.kind = 3 ∧ s.many = im.length ∧ s.pos = 0 ∧ s.body = List.replicate s.body.length 0 then some (im, pos + 1) else none
        else none
    else none
def scanM (c : Nat → Option ASec) (size ep : Nat) : Nat → Nat → Nat → List (List AIm)
  | 0, _, _ => []
  | f + 1, number, pos => match nextM c size ep number (size + 1) pos [] with
    | none => []
    | some (im, pos') => if im = [] then [] else im :: scanM c size ep f (number + 1) pos'
/-- A transaction stands at a position. -/
structure TxAt (c : Nat → Option ASec) (ep num pos : Nat) (l : List AIm) : Prop where
  im : ∀ i (h : i < l.length), c (1 + (pos + i)) = some ⟨2, ep, num + 1, l[i].1, i, l[i].2⟩
  en : c (1 + (pos + l.length)) = some ⟨3, ep, num + 1, 0, l.length, List.replicate 480 0⟩
theorem next_at {c : Nat → Option ASec} {size ep num pos : Nat} {l : List AIm} (h : TxAt c ep num pos l) (hp : ∀ q, q ∈ l → q.1 < 3840) (hs : pos + l.length < size) :
    ∀ (k f i : Nat), i + k = l.length → k < f → nextM c size ep (num + 1) f (pos + i) (l.take i) = some (l, pos + l.length + 1)
  | k, 0, i, _, hf => by omega
  | 0, f + 1, i, hi, hf => by
    have hi' : i = l.length := by omega
    subst hi'
    have e1 : ¬ ((3 : Nat) = 2 ∧ l.length = (l.take l.length).length ∧ 0 < 3840) := fun h => absurd h.1 (by decide)
    have e2 : (3 : Nat) = 3 ∧ l.length = (l.take l.length).length ∧ 0 = 0 ∧ List.replicate 480 (0 : UInt8) = List.replicate (List.replicate 480 (0 : UInt8)).length 0 :=
      ⟨rfl, by rw [List.take_length], rfl, by rw [List.length_replicate]⟩
    rw [nextM, if_pos hs, h.en]
    dsimp only
    rw [if_pos ⟨rfl, rfl⟩, if_neg e1, if_pos e2, List.take_length]
  | k + 1, f + 1, i, hi, hf => by
    have hlt : i < l.length := by omega
    have e1 : pos + i < size := by omega
    have e2 : (2 : Nat) = 2 ∧ i = (l.take i).length ∧ l[i].1 < 3840 := ⟨rfl, by rw [List.length_take]; omega, hp _ (List.getElem_mem hlt)⟩
    have e3 : l.take i ++ [(l[i].1, l[i].2)] = l.take (i + 1) := by rw [List.take_add_one, List.getElem?_eq_getElem hlt]; rfl
    rw [nextM, if_pos e1, show 1 + (pos + i) = 1 + (pos + i) from rfl, h.im i hlt]
    dsimp only
    rw [if_pos ⟨rfl, rfl⟩, if_pos e2, e3]
    exact next_at h hp hs k f (i + 1) (by omega) (by omega)
end Go.Abs
namespace Go.Abs
open Go
set_option linter.unusedVariables false
set_option maxRecDepth 100000
/-- The bytes of a sector that says this (none: blank). -/
def secL (o : Option ASec) : List UInt8 := match o with
  | none => List.replicate 512 0
  | some s => s.simg
def opV (o : Option ASec) : AVal := match o with
  | none => .tup [secV 0 0 0 0 0 ⟨#[]⟩, vI 19]
  | some s => .tup [s.V, vI 0]
variable {N dp : Nat} {sg : Sg} {d g w n k : Nat} {D : ADisk} {R : Hp}
theorem open_sec {o : Option ASec} (ho : ∀ s, o = some s → s.Ok) (hN : 10 < N) (h : Has sg R) : Ev (tab N (dp + 4) 240 [vS (tx (secL o))] sg) (Rt fun v sg' => v = opV o ∧ Has sg' R) := by
  cases o with
  | none => exact open_zero hN h
  | some s => exact open_seal (ho s rfl) hN h
/-- What a disk's sectors say, with what waits. -/
structure Says (D : ADisk) (a b : Nat) (c : Nat → Option ASec) : Prop where
  ok : ∀ i, a ≤ i → i < b → ∀ s, c i = some s → s.Ok
  eq : ∀ i, a ≤ i → i < b → (appl D.wr D.safe)[i]? = some (tx (secL (c i)))
theorem says_read {a b i : Nat} {c : Nat → Option ASec} (hc : Says D a b c) (h1 : a ≤ i) (h2 : i < b) (h : Has sg (dkH d g w D ++ R)) (hD : DOk n k D) (hd : D.down = false) (hb : b ≤ n) (hk : k ≤ 100000) (hN : 1000000 < N) :
    Ev (tab N (dp + 4) 239 [.gp d 0, vI i] sg) (Rt fun v sg' => v = .tup [vS (tx (secL (c i))), vI 0] ∧ Has sg' (dkH d g w D ++ R)) := by
  have hf := hD.few
  refine (dread_ok h hd (by rw [hD.len]; omega) (by omega) (by omega)).imt ?_
  rintro v sg' ⟨rfl, h3⟩
  rw [hc.eq i h1 h2]
  exact ⟨rfl, h3⟩
end Go.Abs
namespace Go.Abs
open Go
set_option linter.unusedVariables false
set_option maxRecDepth 100000
def snB (d size ep pos : Nat) : Box := .mk [.gp d 0, vI size, vU ep, vI pos]
variable {N dp : Nat} {sg : Sg} {sc d g w n k size ep pos number : Nat} {D : ADisk} {R : Hp} {c : Nat → Option ASec}
theorem jpage_dec {p : Nat} : Ev (tab N (dp + 1) 246 [vI p] sg) (Rt fun v _ => v = vB (decide (p < 3840))) := by
  refine ev_of ((t246 ..).trans (journal_page.main ..)) ?_
  refine ev_if (by simp) (ev_ret ?_)
  have : decide ((p : Int) < 3840) = decide (p < 3840) := by
    by_cases h : p < 3840
    · rw [decide_eq_true h, decide_eq_true (by omega)]
    · rw [decide_eq_false h, decide_eq_false (by omega)]
  rw [this]
theorem nbne {a b : Nat} : ((a : Int) != (b : Int)) = true ↔ a ≠ b := by
  simp; omega
theorem nbnf {a b : Nat} : ((a : Int) != (b : Int)) = false ↔ a = b := by
  simp; omega
theorem nbeq {a b : Nat} : ((a : Int) == (b : Int)) = true ↔ a = b := by
  simp; omega
/-- A sector's cells. -/
abbrev secC (s : ASec) : List AVal := [vI s.kind, vU s.ep, vU s.num, vI s.pos, vI s.many, vS (tx s.body)]
def IsEnd (s : ASec) (len : Nat) : Prop := s.kind = 3 ∧ s.many = len ∧ s.pos = 0 ∧ s.body = List.replicate s.body.length 0
def IsIm (s : ASec) (len : Nat) : Prop := s.kind = 2 ∧ s.many = len ∧ s.pos < 3840
section
variable {Q : Out → Prop} {s : ASec} {len : Nat} {T Y kapp : Option Out} {a2 : AVal}
theorem end_in (hno : (s.pos = 0 ∧ s.body = List.replicate s.body.length 0 → False) → Ev T Q) (hy : s.pos = 0 ∧ s.body = List.replicate s.body.length 0 → Ev Y Q) :
    Ev (withI IntKind.i64 (secC s)[3]? fun (n : Int) => if (n == (0 : Int)) = true then
      withS (secC s)[5]? fun (b : ByteArray) => withOut (bif Nat.blt 333 1000000 then tab N (dp + 2) 333 [.at (.string b)] [] else none)
        (fun v _ => withB (some v) fun (b : Bool) => if b = true then Y else T) (fun _ _ => none) else T) Q := by
  refine ev_I rfl (ev_ite (fun h => ?_) (fun h => ?_))
  · have h : s.pos = 0 := nbeq.1 h
    refine ev_S rfl (ev_call (noughts_eq (N := N) (dp := dp) (l := s.body)) rfl ?_)
    rintro _ _ rfl
    refine ev_B rfl (ev_ite (fun hb => hy ⟨h, of_decide_eq_true hb⟩) (fun hb => hno fun q => ?_))
    exact hb (decide_eq_true q.2)
  · exact hno fun q => h (nbeq.2 q.1)
theorem end_a (hno : ¬ IsEnd s len → Ev T Q) (hy : IsEnd s len → Ev Y Q) :
    Ev (withI IntKind.i64 (secC s)[0]? fun (n : Int) => if (n == (3 : Int)) = true then withI IntKind.i64 (secC s)[4]? fun (n : Int) => if (n == (len : Int)) = true then
      withI IntKind.i64 (secC s)[3]? fun (n : Int) => if (n == (0 : Int)) = true then
      withS (secC s)[5]? fun (b : ByteArray) => withOut (bif Nat.blt 333 1000000 then tab N (dp + 2) 333 [.at (.string b)] [] else none)
        (fun v _ => withB (some v) fun (b : Bool) => if b = true then Y else T) (fun _ _ => none) else T else T else T) Q := by
  refine ev_I rfl (ev_ite (fun h => ?_) (fun h => hno fun q => h (nbeq.2 q.1)))
  have h : s.kind = 3 := nbeq.1 h
  refine ev_I rfl (ev_ite (fun h2 => ?_) (fun h2 => hno fun q => h2 (nbeq.2 q.2.1)))
  have h2 : s.many = len := nbeq.1 h2
  exact end_in (fun q => hno fun e => q e.2.2) (fun q => hy ⟨h, h2, q⟩)
theorem end_b (hl : lenV a2 = some len) (hno : ¬ IsEnd s len → Ev T Q) (hy : IsEnd s len → Ev Y Q) :
    Ev (withI IntKind.i64 (secC s)[0]? fun (n : Int) => if (n == (3 : Int)) = true then withI IntKind.i64 (secC s)[4]? fun (n : Int) => withO (lenV a2) fun (n_3 : Nat) => if (n == (n_3 : Int)) = true then
      withI IntKind.i64 (secC s)[3]? fun (n : Int) => if (n == (0 : Int)) = true then
      withS (secC s)[5]? fun (b : ByteArray) => withOut (bif Nat.blt 333 1000000 then tab N (dp + 2) 333 [.at (.string b)] [] else none)
        (fun v _ => withB (some v) fun (b : Bool) => if b = true then Y else T) (fun _ _ => none) else T else T else T) Q := by
  refine ev_I rfl (ev_ite (fun h => ?_) (fun h => hno fun q => h (nbeq.2 q.1)))
  have h : s.kind = 3 := nbeq.1 h
  refine ev_I rfl (ev_O hl (ev_ite (fun h2 => ?_) (fun h2 => hno fun q => h2 (nbeq.2 q.2.1))))
  have h2 : s.many = len := nbeq.1 h2
  exact end_in (fun q => hno fun e => q e.2.2) (fun q => hy ⟨h, h2, q⟩)
theorem im_a (hT : ¬ IsIm s len → Ev T Q) (ha : IsIm s len → Ev kapp Q) :
    Ev (withI IntKind.i64 (secC s)[0]? fun (n : Int) => if (n == (2 : Int)) = true then withI IntKind.i64 (secC s)[4]? fun (n : Int) => if (n == (len : Int)) = true then
      withI IntKind.i64 (secC s)[3]? fun (n : Int) => withOut (bif Nat.blt 246 1000000 then tab N (dp + 1) 246 [.at (.int .i64 n)] [] else none)
        (fun v _ => withB (some v) fun (b : Bool) => if b = true then kapp else T) (fun _ _ => none) else T else T) Q := by
  refine ev_I rfl (ev_ite (fun h => ?_) (fun h => hT fun q => h (nbeq.2 q.1)))
  have h : s.kind = 2 := nbeq.1 h
  refine ev_I rfl (ev_ite (fun h2 => ?_) (fun h2 => hT fun q => h2 (nbeq.2 q.2.1)))
  have h2 : s.many = len := nbeq.1 h2
  refine ev_I rfl (ev_call (jpage_dec (N := N) (dp := dp) (p := s.pos)) rfl ?_)
  rintro _ _ rfl
  exact ev_B rfl (ev_ite (fun hb => ha ⟨h, h2, of_decide_eq_true hb⟩) (fun hb => hT fun q => hb (decide_eq_true q.2.2)))
theorem im_b (hl : lenV a2 = some len) (hT : ¬ IsIm s len → Ev T Q) (ha : IsIm s len → Ev kapp Q) :
    Ev (withI IntKind.i64 (secC s)[0]? fun (n : Int) => if (n == (2 : Int)) = true then withI IntKind.i64 (secC s)[4]? fun (n : Int) => withO (lenV a2) fun (n_3 : Nat) => if (n == (n_3 : Int)) = true then
      withI IntKind.i64 (secC s)[3]? fun (n : Int) => withOut (bif Nat.blt 246 1000000 then tab N (dp + 1) 246 [.at (.int .i64 n)] [] else none)
        (fun v _ => withB (some v) fun (b : Bool) => if b = true then kapp else T) (fun _ _ => none) else T else T) Q := by
  refine ev_I rfl (ev_ite (fun h => ?_) (fun h => hT fun q => h (nbeq.2 q.1)))
  have h : s.kind = 2 := nbeq.1 h
  refine ev_I rfl (ev_O hl (ev_ite (fun h2 => ?_) (fun h2 => hT fun q => h2 (nbeq.2 q.2.1))))
  have h2 : s.many = len := nbeq.1 h2
  refine ev_I rfl (ev_call (jpage_dec (N := N) (dp := dp) (p := s.pos)) rfl ?_)
  rintro _ _ rfl
  exact ev_B rfl (ev_ite (fun hb => ha ⟨h, h2, of_decide_eq_true hb⟩) (fun hb => hT fun q => hb (decide_eq_true q.2.2)))
end
/-- What the next transaction is. -/
def NextQ (sc d g w size ep : Nat) (D : ADisk) (R : Hp) (pos : Nat) (o : Option (List AIm × Nat)) (v : AVal) (sg' : Sg) : Prop := match o with
  | none => v = .tup [.sl true 2 [], vI 0] ∧ Has sg' ((sc, snB d size ep pos) :: (dkH d g w D ++ R))
  | some (im, pos') => ∃ a H, v = .tup [a, vI 0] ∧ ImH a (imL im) H ∧ Has sg' (H ++ ((sc, snB d size ep pos') :: (dkH d g w D ++ R)))
/-- The state of the scan: no images yet, or some in a box. -/
inductive NextSt (sc d g w size ep number : Nat) (D : ADisk) (R : Hp) (pos at_ : Nat) : List AIm → St → Prop
  | zero {sg' : Sg} (h : Has sg' ((sc, snB d size ep pos) :: (dkH d g w D ++ R))) : NextSt sc d g w size ep number D R pos at_ []
      (mkS [0, 1, 6, 7] [.v (.gp sc 0) false, .v (vU number) false, .v (.sl true 2 []) true, .v (vI at_) false] [none, none, none, none] (.sg sg'))
  | some {sg' : Sg} {b : Nat} {im : List AIm} (hne : im ≠ []) (h : Has sg' ((b, .mk (flatI (imL im))) :: (sc, snB d size ep pos) :: (dkH d g w D ++ R))) : NextSt sc d g w size ep number D R pos at_ im
      (mkS [0, 1, 6, 7] [.v (.gp sc 0) false, .v (vU number) false, .v (.gs b 2 0 im.length) false, .v (vI at_) false] [none, none, none, none] (.sg sg'))
/-- What one sector makes of the scan. -/
def stepM (c : Nat → Option ASec) (size ep number f pos : Nat) (im : List AIm) (s : ASec) : Option (List AIm × Nat) :=
  if s.ep = ep ∧ s.num = number then
    if s.kind = 2 ∧ s.many = im.length ∧ s.pos < 3840 then nextM c size ep number f (pos + 1) (im ++ [(s.pos, s.body)])
    else if s.kind = 3 ∧ s.many = im.length ∧ s.pos = 0 ∧ s.body = List.replicate s.body.length 0 then some (im, pos + 1) else none
  else none
theorem next_out {f : Nat} {im : List AIm} (h : ¬ pos < size) : nextM c size ep number (f + 1) pos im = none := by rw [nextM, if_neg h]
theorem next_none {f : Nat} {im : List AIm} (h : pos < size) (hc : c (1 + pos) = none) : nextM c size ep number (f + 1) pos im = none := by rw [nextM, if_pos h, hc]
theorem next_some {f : Nat} {im : List AIm} {s : ASec} (h : pos < size) (hc : c (1 + pos) = some s) : nextM c size ep number (f + 1) pos im = stepM c size ep number f pos im s := by rw [nextM, if_pos h, hc]; rfl
theorem step_other {f : Nat} {im : List AIm} {s : ASec} (h : ¬ (s.ep = ep ∧ s.num = number)) : stepM c size ep number f pos im s = none := if_neg h
theorem step_im {f : Nat} {im : List AIm} {s : ASec} (h : s.ep = ep ∧ s.num = number) (hi : IsIm s im.length) : stepM c size ep number f pos im s = nextM c size ep number f (pos + 1) (im ++ [(s.pos, s.body)]) := by
  unfold stepM; rw [if_pos h]; exact if_pos hi
theorem step_end {f : Nat} {im : List AIm} {s : ASec} (h : s.ep = ep ∧ s.num = number) (hi : ¬ IsIm s im.length) (he : IsEnd s im.length) : stepM c size ep number f pos im s = some (im, pos + 1) := by
  unfold stepM; rw [if_pos h]; exact (if_neg hi).trans (if_pos he)
theorem step_no2 {f : Nat} {im : List AIm} {s : ASec} (hi : ¬ IsIm s im.length) (he : ¬ IsEnd s im.length) : stepM c size ep number f pos im s = none := by
  unfold stepM; split
  · exact (if_neg hi).trans (if_neg he)
  · rfl
theorem imL_snoc (im : List AIm) (x : AIm) : imL (im ++ [x]) = imL im ++ [((x.1 : Int), tx x.2)] := by simp [imL]
theorem next_eq (h : Has sg ((sc, snB d size ep pos) :: (dkH d g w D ++ R))) (hD : DOk n k D) (hd : D.down = false) (hc : Says D 1 (1 + size) c) (hn : 1 + size ≤ n) (hs2 : size ≤ 1024) (hpos : pos ≤ size) (hk : k ≤ 100000) (hN : 1000000 < N) :
    Ev (tab N (dp + 5) 330 [.gp sc 0, vU number] sg) (Rt (NextQ sc d g w size ep D R pos (nextM c size ep number (size + 1) pos []))) := by
  refine ev_of ((t330 ..).trans (journal_scanner_next.main ..)) ?_
  refine ev_ldI h 0 rfl rfl ?_
  refine ev_loop (size - pos) (fun i st => ∃ im, im.length ≤ i ∧ NextSt sc d g w size ep number D R pos (pos + i) im st ∧
    nextM c size ep number (size + 1 - i) (pos + i) im = nextM c size ep number (size + 1) pos []) (by omega) ⟨[], Nat.le_refl _, .zero h, rfl⟩ ?_
  rintro i st K hi ⟨im, hil, hst, hnx⟩ hnext hexit hret
  obtain ⟨f, hf⟩ : ∃ f, size + 1 - i = f + 1 := ⟨size - i, by omega⟩
  have hf2 : size + 1 - (i + 1) = f := by omega
  rw [hf] at hnx
  rw [← hnx] at hret hexit hnext ⊢
  cases hst with
  | @zero sg1 h1 =>
    have hno : ∀ {sg' : Sg}, Has sg' ((sc, snB d size ep pos) :: (dkH d g w D ++ R)) → nextM c size ep number (f + 1) (pos + i) [] = none →
        Ev (K .ret (mkS [4, 5] [.v (.sl true 2 []) true, .v (vI 0) false] [none, none] (.sg sg'))) (Rt (NextQ sc d g w size ep D R pos (nextM c size ep number (f + 1) (pos + i) []))) := fun h2 e => by
      refine hret _ ?_
      rw [e]
      exact ev_of (journal_scanner_next.k0_1 ..) (ev_ret ⟨rfl, h2⟩)
    refine ev_of (journal_scanner_next.r0 ..) ?_
    refine ev_ldI h1 0 rfl rfl (ev_ite (fun hlt => ?_) (fun hge => ?_))
    · have hlt : pos + i < size := by
        have : ((pos + i : Nat) : Int) < size := by simpa using hlt
        omega
      refine ev_ldA h1 0 rfl rfl (ev_A rfl ?_)
      have e1 : IntKind.i64.wrap ((1 : Int) + ((pos + i : Nat) : Int)) = ((1 + (pos + i) : Nat) : Int) := by
        rw [i64_in (by omega)]; omega
      rw [e1]
      refine ev_call (says_read (N := N) (dp := dp) (i := 1 + (pos + i)) hc (by omega) (by omega) (Has.rot (A := dkH d g w D) h1) hD hd hn hk hN) rfl ?_
      rintro _ sg2 ⟨rfl, h2⟩
      replace h2 := h2.tor
      refine ev_T (ev_bif rfl (ev_S rfl (ev_I rfl (ev_else (by decide) ?_))))
      refine ev_call (open_sec (N := N) (dp := dp) (hc.ok (1 + (pos + i)) (by omega) (by omega)) (by omega) (has_nil [])) rfl ?_
      rintro _ _ ⟨rfl, _⟩
      cases hx : c (1 + (pos + i)) with
      | none =>
        refine ev_T (ev_bif rfl (ev_Gx rfl (ev_I rfl (ev_bif rfl (ev_bif rfl (ev_L2 rfl (ev_else (by decide) ?_)))))))
        exact hno h2 (next_none hlt hx)
      | some s =>
        have hsk := hc.ok _ (by omega) (by omega) s hx
        refine ev_T (ev_bif rfl (ev_Gx rfl (ev_I rfl (ev_bif rfl (ev_bif rfl (ev_L2 (l' := secC s) rfl (ev_if rfl ?_)))))))
        refine ev_I rfl (ev_ldI h2 0 rfl rfl (ev_ite (fun he => ?_) (fun he => hno h2 ((next_some hlt hx).trans (step_other fun q => he (nbnf.2 q.1))))))
        replace he : s.ep = ep := nbnf.1 he
        refine ev_I rfl (ev_ite (fun hm => hno h2 ((next_some hlt hx).trans (step_other fun q => nbne.1 hm q.2))) (fun hm => ?_))
        replace hm : s.num = number := Decidable.not_not.1 fun q => hm (nbne.2 q)
        have hen := next_some (ep := ep) (number := number) (f := f) (im := []) hlt hx
        refine im_a (s := s) (len := ([] : List AVal).length) (fun hni => ?_) (fun hyi => ?_)
        · refine end_a (s := s) (len := ([] : List AVal).length) (fun hne => hno h2 (hen.trans (step_no2 hni hne))) (fun hye => ?_)
          refine ev_st h2 0 rfl rfl (Nat.le_of_ble_eq_true rfl) (Nat.succ_pos _) fun sg3 h3 => ?_
          rw [i64_nat (by omega)] at h3
          refine hret _ ?_
          rw [hen.trans (step_end ⟨he, hm⟩ hni hye)]
          exact ev_of (journal_scanner_next.k0_2 ..) (ev_ret ⟨_, [], rfl, .inl ⟨true, rfl, rfl⟩, h3⟩)
        · refine ev_I rfl (ev_S rfl (ev_bif rfl ?_))
          have h4 := h2.new (Box.mk [vI s.pos, vS (tx s.body)])
          refine ev_O (flatG_gs (h4.at (n := 0) rfl) (Nat.le_of_ble_eq_true rfl) (Nat.succ_pos _)) ?_
          refine ev_bie rfl (ev_if (show (1 : Nat) * 24 ≤ 35184372088832 by decide) ?_)
          refine ev_app_nil h4 fun b sg3 h5 => ?_
          have h6 : Has sg3 ((b, .mk (flatI (imL [(s.pos, s.body)]))) :: (sc, snB d size ep pos) :: (dkH d g w D ++ R)) := h5.sub (.cons_cons _ (.cons _ (List.Sublist.refl _)))
          rw [i64_nat (by omega)]
          refine hnext _ (by omega) ⟨[(s.pos, s.body)], by simp, .some (by simp) h6, ?_⟩
          rw [hf2, hen, step_im ⟨he, hm⟩ hyi]
          rfl
    · have hge : ¬ pos + i < size := fun q => hge (by simp; omega)
      refine hexit _ _ ?_
      rw [next_out hge]
      exact ev_of (journal_scanner_next.k0_3 ..) (ev_ret ⟨rfl, h1⟩)
  | @some sg1 b im hne h1 =>
    have hlp : 0 < im.length := List.length_pos_iff.2 hne
    have hno : ∀ {sg' : Sg}, Has sg' ((b, .mk (flatI (imL im))) :: (sc, snB d size ep pos) :: (dkH d g w D ++ R)) → nextM c size ep number (f + 1) (pos + i) im = none →
        Ev (K .ret (mkS [4, 5] [.v (.sl true 2 []) true, .v (vI 0) false] [none, none] (.sg sg'))) (Rt (NextQ sc d g w size ep D R pos (nextM c size ep number (f + 1) (pos + i) im))) := fun h2 e => by
      refine hret _ ?_
      rw [e]
      exact ev_of (journal_scanner_next.k0_1 ..) (ev_ret ⟨rfl, h2.tail⟩)
    have hlv : lenV (.gs b 2 0 im.length) = some im.length := rfl
    refine ev_of (journal_scanner_next.r0_2 ..) ?_
    refine ev_ldI h1 1 rfl rfl (ev_ite (fun hlt => ?_) (fun hge => ?_))
    · have hlt : pos + i < size := by
        have : ((pos + i : Nat) : Int) < size := by simpa using hlt
        omega
      refine ev_ldA h1 1 rfl rfl (ev_A rfl ?_)
      have e1 : IntKind.i64.wrap ((1 : Int) + ((pos + i : Nat) : Int)) = ((1 + (pos + i) : Nat) : Int) := by
        rw [i64_in (by omega)]; omega
      rw [e1]
      refine ev_call (says_read (N := N) (dp := dp) (i := 1 + (pos + i)) hc (by omega) (by omega) (Has.sw [_, _] (dkH d g w D) h1) hD hd hn hk hN) rfl ?_
      rintro _ sg2 ⟨rfl, h2⟩
      replace h2 := Has.sw (dkH d g w D) [_, _] h2
      refine ev_T (ev_bif rfl (ev_S rfl (ev_I rfl (ev_else (by decide) ?_))))
      refine ev_call (open_sec (N := N) (dp := dp) (hc.ok (1 + (pos + i)) (by omega) (by omega)) (by omega) (has_nil [])) rfl ?_
      rintro _ _ ⟨rfl, _⟩
      cases hx : c (1 + (pos + i)) with
      | none =>
        refine ev_T (ev_bif rfl (ev_Gx rfl (ev_I rfl (ev_bif rfl (ev_bif rfl (ev_L2 rfl (ev_else (by decide) ?_)))))))
        exact hno h2 (next_none hlt hx)
      | some s =>
        have hsk := hc.ok _ (by omega) (by omega) s hx
        refine ev_T (ev_bif rfl (ev_Gx rfl (ev_I rfl (ev_bif rfl (ev_bif rfl (ev_L2 (l' := secC s) rfl (ev_if rfl ?_)))))))
        refine ev_I rfl (ev_ldI h2 1 rfl rfl (ev_ite (fun he => ?_) (fun he => hno h2 ((next_some hlt hx).trans (step_other fun q => he (nbnf.2 q.1))))))
        replace he : s.ep = ep := nbnf.1 he
        refine ev_I rfl (ev_ite (fun hm => hno h2 ((next_some hlt hx).trans (step_other fun q => nbne.1 hm q.2))) (fun hm => ?_))
        replace hm : s.num = number := Decidable.not_not.1 fun q => hm (nbne.2 q)
        have hen := next_some (ep := ep) (number := number) (f := f) (im := im) hlt hx
        refine im_b (s := s) hlv (fun hni => ?_) (fun hyi => ?_)
        · refine end_b (s := s) hlv (fun hne => hno h2 (hen.trans (step_no2 hni hne))) (fun hye => ?_)
          refine ev_st h2 1 rfl rfl (Nat.le_of_ble_eq_true rfl) (Nat.succ_pos _) fun sg3 h3 => ?_
          rw [i64_nat (by omega)] at h3
          refine hret _ ?_
          rw [hen.trans (step_end ⟨he, hm⟩ hni hye)]
          refine ev_of (journal_scanner_next.k0_4 ..) (ev_A rfl (ev_ret ⟨_, [(b, .mk (flatI (imL im)))], rfl, .inr ⟨b, ?_, rfl⟩, h3⟩))
          rw [imL_len]
        · refine ev_I rfl (ev_S rfl (ev_bif rfl ?_))
          have h4 := h2.new (Box.mk [vI s.pos, vS (tx s.body)])
          refine ev_O (flatG_gs (h4.at (n := 0) rfl) (Nat.le_of_ble_eq_true rfl) (Nat.succ_pos _)) ?_
          refine ev_bie rfl (ev_if (show (1 : Nat) * 24 ≤ 35184372088832 by decide) ?_)
          have hfl : (flatI (imL im)).length = im.length * 2 := by rw [flatI_len, imL_len]; omega
          refine ev_app_gs h4 1 rfl hfl (by omega) (by omega) fun b2 sg3 h5 => ?_
          have h6 : Has sg3 ((b2, .mk (flatI (imL im) ++ [vI s.pos, vS (tx s.body)])) :: (sc, snB d size ep pos) :: (dkH d g w D ++ R)) := h5.sub (.cons_cons _ (.cons _ (.cons _ (List.Sublist.refl _))))
          have e3 : flatI (imL im) ++ [vI s.pos, vS (tx s.body)] = flatI (imL (im ++ [(s.pos, s.body)])) := by rw [imL_snoc, flatI_app]
          rw [e3] at h6
          rw [i64_nat (by omega)]
          have e4 : AVal.gs b2 2 0 (im.length + 1) = .gs b2 2 0 (im ++ [(s.pos, s.body)]).length := by rw [List.length_append]; rfl
          rw [e4]
          refine hnext _ (by omega) ⟨im ++ [(s.pos, s.body)], by rw [List.length_append]; simp; omega, .some (by simp) h6, ?_⟩
          rw [hf2, hen, step_im ⟨he, hm⟩ hyi]
          rfl
    · have hge : ¬ pos + i < size := fun q => hge (by simp; omega)
      refine hexit _ _ ?_
      rw [next_out hge]
      exact ev_of (journal_scanner_next.k0_3 ..) (ev_ret ⟨rfl, h1.tail⟩)
end Go.Abs
namespace Go.Abs
open Go
set_option linter.unusedVariables false
set_option maxRecDepth 100000
open Classical in
theorem Has.pm {sg : Sg} {L M : Hp} (h : Has sg L) (e : ∀ x, L.count x = M.count x) : Has sg M := h.perm (List.perm_iff_count.2 e)
section
variable {c : Nat → Option ASec} {size ep number : Nat}
theorem next_len : ∀ {f pos : Nat} {im im' : List AIm} {pos' : Nat}, nextM c size ep number f pos im = some (im', pos') → pos' ≤ size ∧ pos' + im.length = pos + im'.length + 1
  | 0, pos, im, im', pos', h => by simp [nextM] at h
  | f + 1, pos, im, im', pos', h => by
    rcases Nat.lt_or_ge pos size with hlt | hge
    · cases hx : c (1 + pos) with
      | none => rw [next_none hlt hx] at h; cases h
      | some s =>
        rw [next_some hlt hx] at h
        unfold stepM at h
        split at h
        · split at h
          · have := next_len h
            rw [List.length_append, List.length_singleton] at this
            omega
          · split at h
            · injection h with h; injection h with h1 h2; subst h1 h2; omega
            · cases h
        · cases h
    · rw [next_out (by omega)] at h; cases h
end
variable {N dp : Nat} {sg : Sg} {sc d g w n k size ep pos number : Nat} {D : ADisk} {R : Hp} {c : Nat → Option ASec}
/-- Values that are lists of images, each in a box of its own or by value. -/
def TsH (vs : List AVal) (ts : List (List AIm)) (HH : Hp) : Prop := vs.length = ts.length ∧ ∀ i (h1 : i < ts.length) (h2 : i < vs.length), ∃ H, ImH vs[i] (imL ts[i]) H ∧ ∀ q, q ∈ H → q ∈ HH
theorem tsH_nil : TsH [] [] [] := ⟨rfl, fun i h1 => absurd h1 (by simp)⟩
theorem TsH.snoc {vs : List AVal} {ts : List (List AIm)} {HH H : Hp} {a : AVal} {l : List AIm} (h : TsH vs ts HH) (hI : ImH a (imL l) H) : TsH (vs ++ [a]) (ts ++ [l]) (H ++ HH) := by
  obtain ⟨h0, h⟩ := h
  refine ⟨by simp [h0], fun i h1 h2 => ?_⟩
  rcases Nat.lt_or_ge i ts.length with hlt | hge
  · obtain ⟨H', e1, e2⟩ := h i hlt (by omega)
    refine ⟨H', ?_, fun q hq => by simp [e2 q hq]⟩
    rw [List.getElem_append_left (by omega), List.getElem_append_left (by omega)]
    exact e1
  · have : i = ts.length := by
      rw [List.length_append] at h1; simp at h1; omega
    subst this
    refine ⟨H, ?_, fun q hq => by simp [hq]⟩
    rw [List.getElem_append_right (by omega), List.getElem_append_right (by omega)]
    simpa [h0] using hI
/-- What all transactions are. -/
def ScanQ (d g w : Nat) (D : ADisk) (R : Hp) (ts : List (List AIm)) (v : AVal) (sg' : Sg) : Prop :=
  (ts = [] ∧ v = .tup [.sl true 1 [], vI 0] ∧ Has sg' (dkH d g w D ++ R)) ∨
  (ts ≠ [] ∧ ∃ t vs HH, v = .tup [.gs t 1 0 ts.length, vI 0] ∧ TsH vs ts HH ∧ Has sg' ((t, .mk vs) :: (HH ++ (dkH d g w D ++ R))))
inductive ScanSt (sc d g w size ep : Nat) (D : ADisk) (R : Hp) (pos number : Nat) : List (List AIm) → St → Prop
  | zero {sg' : Sg} (h : Has sg' ((sc, snB d size ep pos) :: (dkH d g w D ++ R))) : ScanSt sc d g w size ep D R pos number []
      (mkS [10, 11, 12] [.v (.gp sc 0) false, .v (.sl true 1 []) true, .v (vU number) false] [none, none, none] (.sg sg'))
  | some {sg' : Sg} {t : Nat} {vs : List AVal} {HH : Hp} {ts : List (List AIm)} (hne : ts ≠ []) (hT : TsH vs ts HH) (h : Has sg' ((sc, snB d size ep pos) :: (dkH d g w D ++ ((t, .mk vs) :: (HH ++ R))))) : ScanSt sc d g w size ep D R pos number ts
      (mkS [10, 11, 12] [.v (.gp sc 0) false, .v (.gs t 1 0 ts.length) false, .v (vU number) false] [none, none, none] (.sg sg'))
theorem imh_one {a : AVal} {l : List (Int × ByteArray)} {H : Hp} (h : ImH a l H) : a.cells ++ [] = [a] ∧ (allSz 1 [a] && Nat.blt 0 1) = true := by
  rcases h with ⟨nn, rfl, rfl⟩ | ⟨g, rfl, rfl⟩ <;> exact ⟨rfl, rfl⟩
theorem scan_eq (h : Has sg (dkH d g w D ++ R)) (hD : DOk n k D) (hd : D.down = false) (hc : Says D 1 (1 + size) c) (hn : 1 + size ≤ n) (hs1 : 4 ≤ size) (hs2 : size ≤ 1024) (hk : k ≤ 100000) (hN : 1000000 < N) :
    Ev (tab N (dp + 6) 243 [.gp d 0, vI size, vU ep] sg) (Rt (ScanQ d g w D R (scanM c size ep (size + 1) 1 0))) := by
  refine ev_of ((t243 ..).trans (journal_Scan.main ..)) ?_
  refine ev_call (jopen_eq (N := N) (dp := dp + 3) h hD hs1 hs2 (by omega)) rfl ?_
  rintro _ sg1 ⟨j, rfl, h1⟩
  refine ev_T (ev_bif rfl (ev_A rfl (ev_I rfl (ev_else (by decide) ?_))))
  refine ev_loop size (fun i st => ∃ dn pos, i * 2 ≤ pos ∧ pos ≤ size ∧ dn.length = i ∧ ScanSt sg1.length d g w size ep D R pos (i + 1) dn st ∧
    dn ++ scanM c size ep (size + 1 - i) (i + 1) pos = scanM c size ep (size + 1) 1 0) (by omega) ⟨[], 0, by omega, by omega, rfl, .zero (h1.tail.new _), rfl⟩ ?_
  rintro i st K hi ⟨dn, pos, hip, hps, hdl, hst, hsc⟩ hnext hexit hret
  obtain ⟨f, hf⟩ : ∃ f, size + 1 - i = f + 1 := ⟨size - i, by omega⟩
  have hf2 : size + 1 - (i + 1) = f := by omega
  rw [hf] at hsc
  rw [← hsc] at hret hexit hnext ⊢
  have eU : IntKind.u64.wrap (((i + 1 : Nat) : Int) + 1) = ((i + 1 + 1 : Nat) : Int) := by
    rw [Go.IntWalk.u64_in _ (by omega)]; omega
  have hstop : ∀ {im : List AIm} {p : Nat}, nextM c size ep (i + 1) (size + 1) pos [] = some (im, p) → im = [] → scanM c size ep (f + 1) (i + 1) pos = [] := fun e1 e2 => by
    rw [scanM, e1, e2]; rfl
  have hstop2 : nextM c size ep (i + 1) (size + 1) pos [] = none → scanM c size ep (f + 1) (i + 1) pos = [] := fun e1 => by
    rw [scanM, e1]
  have hgo : ∀ {im : List AIm} {p : Nat}, nextM c size ep (i + 1) (size + 1) pos [] = some (im, p) → im ≠ [] → scanM c size ep (f + 1) (i + 1) pos = im :: scanM c size ep f (i + 1 + 1) p := fun e1 e2 => by
    rw [scanM, e1]; exact if_neg e2
  cases hst with
  | @zero sg2 h2 =>
    refine ev_of (journal_Scan.r0 ..) ?_
    refine ev_call (next_eq (N := N) (dp := dp) h2 hD hd hc hn hs2 hps hk hN) rfl ?_
    intro v sg3 hq
    have hend : scanM c size ep (f + 1) (i + 1) pos = [] → Has sg3 (dkH d g w D ++ R) →
        Ev (K .ret (mkS [6, 7] [.v (.sl true 1 []) false, .v (vI 0) false] [none, none] (.sg sg3))) (Rt (ScanQ d g w D R ([] ++ scanM c size ep (f + 1) (i + 1) pos))) := fun e1 h3 => by
      refine hret _ (ev_of (journal_Scan.k0_2 ..) (ev_ret ?_))
      rw [e1]
      exact .inl ⟨rfl, rfl, h3⟩
    cases hx : nextM c size ep (i + 1) (size + 1) pos [] with
    | none =>
      rw [hx] at hq
      obtain ⟨rfl, h3⟩ := hq
      refine ev_T (ev_bif rfl (ev_A rfl (ev_I rfl (ev_else (by decide) (ev_O (a := 0) rfl (ev_if rfl ?_))))))
      exact hend (hstop2 hx) h3.tail
    | some r =>
      obtain ⟨im, pos'⟩ := r
      rw [hx] at hq
      obtain ⟨a, H, rfl, hI, h3⟩ := hq
      refine ev_T (ev_bif rfl (ev_A rfl (ev_I rfl (ev_else (by decide) (ev_O hI.len ?_)))))
      rw [imL_len]
      by_cases him : im = []
      · refine ev_if (by rw [him]; rfl) ?_
        exact hend (hstop hx him) (h3.drop _).tail
      · have hlp : 0 < im.length := List.length_pos_iff.2 him
        have hnl := next_len hx
        simp only [List.length_nil] at hnl
        refine ev_else (by simp; exact him) (ev_A hI.plain (ev_bif (imh_one hI).2 ?_))
        rw [(imh_one hI).1]
        have h4 := h3.new (Box.mk [a])
        refine ev_O (flatG_gs (h4.at (n := 0) rfl) (Nat.le_of_ble_eq_true rfl) (Nat.succ_pos _)) ?_
        refine ev_bie rfl (ev_if (show (1 : Nat) * 24 ≤ 35184372088832 by decide) ?_)
        refine ev_app_nil h4 fun t sg4 h5 => ?_
        rw [eU]
        have h6 : Has sg4 ((t, .mk [a]) :: (H ++ ((sg1.length, snB d size ep pos') :: (dkH d g w D ++ R)))) := h5.sub (.cons_cons _ (.cons _ (List.Sublist.refl _)))
        have h7 : Has sg4 ((sg1.length, snB d size ep pos') :: (dkH d g w D ++ ((t, .mk [a]) :: ((H ++ []) ++ R)))) := h6.pm fun x => by
          simp only [List.count_cons, List.count_append, List.count_nil]; omega
        refine hnext _ (by omega) ⟨[im], pos', by omega, by omega, by simp [← hdl], .some (t := t) (vs := [] ++ [a]) (ts := [im]) (by simp) (tsH_nil.snoc hI) h7, ?_⟩
        rw [hf2, hgo hx him]
        rfl
  | @some sg2 t vs HH ts hne hT h2 =>
    have htl : 0 < dn.length := List.length_pos_iff.2 hne
    refine ev_of (journal_Scan.r0_2 ..) ?_
    refine ev_call (next_eq (N := N) (dp := dp) h2 hD hd hc hn hs2 hps hk hN) rfl ?_
    intro v sg3 hq
    have hend : scanM c size ep (f + 1) (i + 1) pos = [] → Has sg3 ((t, .mk vs) :: (HH ++ (dkH d g w D ++ R))) →
        Ev (K .ret (mkS [6, 7] [.v (.gs t 1 0 dn.length) false, .v (vI 0) false] [none, none] (.sg sg3))) (Rt (ScanQ d g w D R (dn ++ scanM c size ep (f + 1) (i + 1) pos))) := fun e1 h3 => by
      refine hret _ (ev_of (journal_Scan.k0_3 ..) (ev_A rfl (ev_ret ?_)))
      rw [e1, List.append_nil]
      exact .inr ⟨hne, t, vs, HH, rfl, hT, h3⟩
    cases hx : nextM c size ep (i + 1) (size + 1) pos [] with
    | none =>
      rw [hx] at hq
      obtain ⟨rfl, h3⟩ := hq
      refine ev_T (ev_bif rfl (ev_A rfl (ev_I rfl (ev_else (by decide) (ev_O (a := 0) rfl (ev_if rfl ?_))))))
      exact hend (hstop2 hx) (h3.tail.pm fun x => by simp only [List.count_cons, List.count_append, List.count_nil]; omega)
    | some r =>
      obtain ⟨im, pos'⟩ := r
      rw [hx] at hq
      obtain ⟨a, H, rfl, hI, h3⟩ := hq
      refine ev_T (ev_bif rfl (ev_A rfl (ev_I rfl (ev_else (by decide) (ev_O hI.len ?_)))))
      rw [imL_len]
      by_cases him : im = []
      · refine ev_if (by rw [him]; rfl) ?_
        exact hend (hstop hx him) ((h3.drop _).tail.pm fun x => by simp only [List.count_cons, List.count_append, List.count_nil]; omega)
      · have hlp : 0 < im.length := List.length_pos_iff.2 him
        have hnl := next_len hx
        simp only [List.length_nil] at hnl
        refine ev_else (by simp; exact him) (ev_A hI.plain (ev_bif (imh_one hI).2 ?_))
        rw [(imh_one hI).1]
        have h4 := h3.new (Box.mk [a])
        refine ev_O (flatG_gs (h4.at (n := 0) rfl) (Nat.le_of_ble_eq_true rfl) (Nat.succ_pos _)) ?_
        refine ev_bie rfl (ev_if (show (1 : Nat) * 24 ≤ 35184372088832 by decide) ?_)
        have h5 : Has (sg3 ++ [Box.mk [a]]) ((t, .mk vs) :: (sg3.length, Box.mk [a]) :: (sg1.length, snB d size ep pos') :: (H ++ (dkH d g w D ++ (HH ++ R)))) := h4.pm fun x => by
          simp only [List.count_cons, List.count_append, List.count_nil]; omega
        refine ev_app_gs h5 0 rfl (by rw [hT.1]; omega) (by rw [hT.1]; omega) (by omega) fun t2 sg4 h6 => ?_
        rw [eU]
        have h6' : Has sg4 ((t2, .mk (vs ++ [a])) :: (sg1.length, snB d size ep pos') :: (H ++ (dkH d g w D ++ (HH ++ R)))) := h6.sub (.cons_cons _ (.cons _ (.cons _ (List.Sublist.refl _))))
        have h7 : Has sg4 ((sg1.length, snB d size ep pos') :: (dkH d g w D ++ ((t2, .mk (vs ++ [a])) :: ((H ++ HH) ++ R)))) := h6'.pm fun x => by
          simp only [List.count_cons, List.count_append, List.count_nil]; omega
        have e4 : AVal.gs t2 1 0 (dn.length + 1) = .gs t2 1 0 (dn ++ [im]).length := by rw [List.length_append]; rfl
        rw [e4]
        refine hnext _ (by omega) ⟨dn ++ [im], pos', by omega, by omega, by rw [List.length_append, hdl]; rfl, .some (t := t2) (vs := vs ++ [a]) (ts := dn ++ [im]) (by simp) (hT.snoc hI) h7, ?_⟩
        rw [hf2, hgo hx him, List.append_assoc]
        rfl
end Go.Abs
namespace Go.Abs
open Go
set_option linter.unusedVariables false
set_option maxRecDepth 100000
theorem scan_len {c : Nat → Option ASec} {size ep : Nat} : ∀ {f number pos : Nat}, (scanM c size ep f number pos).length ≤ f
  | 0, _, _ => Nat.le_refl _
  | f + 1, number, pos => by
    rw [scanM]
    split
    · simp
    · split
      · simp
      · rw [List.length_cons]; exact Nat.succ_le_succ scan_len
variable {N dp : Nat} {sg : Sg} {s d p m n k size g w ep : Nat} {jv : AVal} {wt : Int} {D : ADisk} {R : Hp} {c : Nat → Option ASec} {ts : List (List AIm)}
theorem replay_eq {pgs : List (List UInt8)} {lf : List (Int × Unit)} (h : Has sg ((s, stB d size p n m jv wt) :: (p, pgB pgs) :: (m, .map (emb tV lf)) :: (dkH d g w D ++ R))) (hD : DOk (1 + size + n) k D) (hd : D.down = false) (hc : Says D 1 (1 + size) c)
    (hs1 : 4 ≤ size) (hs2 : size ≤ 1024) (hk : k ≤ 100000) (hN : 1000000 < N) (hpl : pgs.length = n) (hfr : FrOk n lf) (hn2 : n ≤ 3840) (hts : scanM c size ep (size + 1) 1 0 = ts) (hok : ∀ l, l ∈ ts → AImOk n l) :
    Ev (tab N (dp + 7) 137 [.gp s 0, vU ep] sg) (Rt fun v sg' => v = vI 0 ∧ Has sg' ((s, stB d size p n m jv wt) :: (p, pgB (pgAll ts pgs)) :: (m, .map (emb tV (frAll ts lf))) :: (dkH d g w D ++ R))) := by
  have htl : ts.length ≤ size + 1 := by rw [← hts]; exact scan_len
  refine ev_of ((t137 ..).trans (pages_Store_replay.main ..)) ?_
  refine ev_ldA h 0 rfl rfl ?_
  refine ev_ldI h 0 rfl rfl (ev_A rfl ?_)
  refine ev_call (scan_eq (N := N) (dp := dp) (ep := ep) (Has.sw [_, _, _] (dkH d g w D) h) hD hd hc (by omega) hs1 hs2 hk hN) rfl ?_
  intro v sg1 hq
  rw [hts] at hq
  rcases hq with ⟨rfl, rfl, h1⟩ | ⟨hne, t, vs, HH, rfl, hT, h1⟩
  · replace h1 := Has.sw (dkH d g w D) [_, _, _] h1
    refine ev_T (ev_bif rfl (ev_A rfl (ev_I rfl (ev_else (by decide) (ev_O (a := 0) rfl ?_)))))
    refine ev_loop 0 (fun i st => st = mkS [0, 25, 26, 27] [.v (.gp s 0) false, .v (.sl true 1 []) false, .v (vI 0) false, .v (vI 0) false] [none, none, none, none] (.sg sg1)) (by omega) rfl ?_
    rintro i st K hi rfl hnext hexit hret
    refine ev_of (pages_Store_replay.r0 ..) (ev_else (by decide) (hexit _ _ ?_))
    exact ev_of (pages_Store_replay.k0_2 ..) (ev_ret ⟨rfl, h1⟩)
  · refine ev_T (ev_bif rfl (ev_A rfl (ev_I rfl (ev_else (by decide) (ev_O (a := ts.length) rfl ?_)))))
    have h2 : Has sg1 ((s, stB d size p n m jv wt) :: (p, pgB pgs) :: (m, .map (emb tV lf)) :: (t, .mk vs) :: (HH ++ (dkH d g w D ++ R))) := h1.pm fun x => by
      simp only [List.count_cons, List.count_append, List.count_nil]; omega
    refine (replay_loop (dp := dp + 2) (ts := ts) hT.1 (fun i h1 => ?_) hok hpl hfr hn2 (by omega) hN h2).imt ?_
    · obtain ⟨H, e1, e2⟩ := hT.2 i h1 (by rw [hT.1]; exact h1)
      exact ⟨H, e1, fun q hq => by simp [e2 q hq]⟩
    · rintro v sg' ⟨rfl, h3⟩
      refine ⟨rfl, ?_⟩
      have h4 : Has sg' ((t, .mk vs) :: (HH ++ ((s, stB d size p n m jv wt) :: (p, pgB (pgAll ts pgs)) :: (m, .map (emb tV (frAll ts lf))) :: (dkH d g w D ++ R)))) := h3.pm fun x => by
        simp only [List.count_cons, List.count_append, List.count_nil]; omega
      exact h4.tail.drop _
/-- What a disk holds: its head, its pages' home sectors, what its journal's sectors say. -/
structure Disk (D : ADisk) (n size ep : Nat) (homes : List (List UInt8)) (c : Nat → Option ASec) : Prop where
  head : (appl D.wr D.safe)[0]? = some (tx (headS ep n size).simg)
  len : homes.length = n
  sz : ∀ t, t ∈ homes → t.length = 480
  home : ∀ i (hi : i < n) (h2 : i < homes.length), (appl D.wr D.safe)[1 + size + i]? = some (tx (homeL i homes[i]))
  says : Says D 1 (1 + size) c
theorem setPg_sz : ∀ {l : List AIm} {g : List (List UInt8)}, (∀ q, q ∈ l → q.2.length = 480) → (∀ t, t ∈ g → t.length = 480) → ∀ t, t ∈ setPg l g → t.length = 480
  | [], g, _, h => h
  | x :: l, g, hl, h => setPg_sz (l := l) (g := g.set x.1 x.2) (fun q hq => hl q (by simp [hq])) fun t ht => by
    rcases List.mem_or_eq_of_mem_set ht with h1 | h1
    · exact h t h1
    · rw [h1]; exact hl x (by simp)
theorem pgAll_sz : ∀ {ts : List (List AIm)} {g : List (List UInt8)}, (∀ l, l ∈ ts → ∀ q, q ∈ l → q.2.length = 480) → (∀ t, t ∈ g → t.length = 480) → ∀ t, t ∈ pgAll ts g → t.length = 480
  | [], g, _, h => h
  | l :: ts, g, hl, h => pgAll_sz (ts := ts) (g := setPg l g) (fun q hq => hl q (by simp [hq])) (setPg_sz (hl l (by simp)) h)
/-- The checkpoint at the end of a load. -/
def ldM (ep n size : Nat) (homes : List (List UInt8)) (ts : List (List AIm)) (D : ADisk) : Int × ADisk := ckM (ep + 1) n size (pgAll ts homes) (sortI ((frAll ts []).map (·.1))) D
def ldS (ep n size : Nat) (homes : List (List UInt8)) (ts : List (List AIm)) (D : ADisk) : APg := ⟨n, size, pgAll ts homes, [], ep + 1, 0, 0, 0, (ldM ep n size homes ts D).2⟩
theorem pload_eq {homes : List (List UInt8)} (h : Has sg (dkH d g w D ++ R)) (hD : DOk (1 + size + n) k D) (hd : D.down = false) (hH : Disk D n size ep homes c) (he : ep < 2 ^ 62)
    (hn1 : 8 ≤ n) (hn2 : n ≤ 3840) (hs1 : 4 ≤ size) (hs2 : size ≤ 1024) (hk : k ≤ 10000) (hN : 1000000 < N) (hts : scanM c size ep (size + 1) 1 0 = ts) (hok : ∀ l, l ∈ ts → AImOk n l) :
    Ev (tab N (dp + 8) 30 [.gp d 0] sg) (Rt fun v sg' =>
      ((ldM ep n size homes ts D).1 = 0 → ∃ s A, v = .tup [.gp s 0, vI 0] ∧ StE s d g (ldS ep n size homes ts D) A ∧ Has sg' (A ++ R)) ∧
      ((ldM ep n size homes ts D).1 ≠ 0 → v = .tup [.at (.pointer none), vI (ldM ep n size homes ts D).1] ∧ ∃ w', Has sg' (dkH d g w' (ldM ep n size homes ts D).2 ++ R))) := by
  have hfr0 : FrOk n ([] : List (Int × Unit)) := ⟨by simp, by simp⟩
  refine ev_of ((t30 ..).trans (pages_Load.main ..)) (ev_else (by decide) ?_)
  refine ev_call (popen_eq (N := N) (dp := dp + 2) h hD (by omega) hd (by omega) hn1 hn2 hs1 hs2 hN hH.head) rfl ?_
  rintro _ sg1 ⟨s, p, m, rfl, h1⟩
  refine ev_T (ev_bif rfl (ev_A rfl (ev_I rfl (ev_I rfl (ev_else (by decide) (ev_A rfl ?_))))))
  have h2 : Has sg1 ((s, stB d size p n m (.at (.pointer none)) 0) :: (p, pgB (List.replicate n (List.replicate 480 0))) :: (dkH d g w D ++ ((m, .map (emb tV [])) :: R))) := h1.pm fun x => by
    simp only [List.count_cons, List.count_append, List.count_nil]; omega
  refine ev_call (sread_eq (N := N) (dp := dp + 1) h2 hD (by omega) hd (by rw [List.length_replicate]) hH.len hH.sz hn2 hs2 hN fun i hi => hH.home i hi (by rw [hH.len]; exact hi)) rfl ?_
  rintro _ sg2 ⟨rfl, h3⟩
  refine ev_I rfl (ev_else (by decide) (ev_A rfl ?_))
  have h4 : Has sg2 ((s, stB d size p n m (.at (.pointer none)) 0) :: (p, pgB homes) :: (m, .map (emb tV [])) :: (dkH d g w D ++ R)) := h3.pm fun x => by
    simp only [List.count_cons, List.count_append, List.count_nil]; omega
  refine ev_call (replay_eq (N := N) (dp := dp) (ep := ep) h4 hD hd hH.says hs1 hs2 (by omega) hN hH.len hfr0 hn2 hts hok) rfl ?_
  rintro _ sg3 ⟨rfl, h5⟩
  refine ev_I rfl (ev_else (by decide) (ev_A rfl ?_))
  have e1 : IntKind.u64.wrap ((ep : Int) + 1) = ((ep + 1 : Nat) : Int) := by
    rw [Go.IntWalk.u64_in _ (by omega)]; omega
  rw [e1]
  refine ev_call (checkpoint_eq (N := N) (dp := dp + 1) (ep := ep + 1) h5 hD hk ((pgAll_len ..).trans hH.len) (frAll_ok hok hfr0) (pgAll_sz (fun l hl q hq => ((hok l hl).rg q hq).2) hH.sz) (by omega) hn1 hn2 hs1 hs2 hN) rfl ?_
  rintro _ sg4 ⟨rfl, hz, hnz⟩
  by_cases e0 : (ldM ep n size homes ts D).1 = 0
  · obtain ⟨j, w', h6⟩ := hz e0
    refine ev_I rfl (ev_else (eq_bne e0) (ev_A rfl (ev_ret ⟨fun _ => ⟨s, _, rfl, ⟨p, m, j, w', rfl⟩, h6⟩, fun hne => absurd e0 hne⟩)))
  · obtain ⟨w', h6⟩ := hnz e0
    exact ev_I rfl (ev_if (ne_bne e0) (ev_ret ⟨fun h0 => absurd h0 e0, fun _ => ⟨rfl, w', h6.tail.tail.tail⟩⟩))
end Go.Abs
