/- What the functions of the program come to, one after another: several texts joined. -/
import Derived.Test.YtimoaolannkpcaaGreatTxtC
import Derived.Test.YtimoaolannkpcaaGreatRsP
import Derived.Test.YtimoaolannkpcaaGreatRsQ
set_option linter.unusedVariables false
set_option linter.unusedSimpArgs false
set_option linter.unusedSectionVars false
namespace Go.Abs
open Go
set_option linter.unusedVariables false
/-- What may stand at a place, whichever writes are kept. -/
def Poss (S : List ByteArray) (W : List (Nat × ByteArray)) (i : Nat) (x : ByteArray) : Prop := S[i]? = some x ∨ (i, x) ∈ W
theorem applK_poss {keep : Nat → Bool} {W : List (Nat × ByteArray)} {S : List ByteArray} {i : Nat} {x : ByteArray} : ∀ {k : Nat}, (applK keep W k S)[i]? = some x → Poss S W i x
  | 0, h => .inl h
  | k + 1, h => by
    simp only [applK] at h
    split at h
    · rename_i p hp
      split at h
      · rw [List.getElem?_set] at h
        split at h
        · rename_i e
          split at h
          · injection h with h
            refine .inr ?_
            subst h e
            exact List.mem_of_getElem? hp
          · cases h
        · exact applK_poss h
      · exact applK_poss h
    · exact applK_poss h
theorem appl_app (W V : List (Nat × ByteArray)) (S : List ByteArray) : appl (W ++ V) S = appl V (appl W S) := by simp [appl]
/-- Where nothing is written, all stays. -/
theorem appl_off {i : Nat} : ∀ {W : List (Nat × ByteArray)} {S : List ByteArray}, (∀ p, p ∈ W → p.1 ≠ i) → (appl W S)[i]? = S[i]?
  | [], _, _ => rfl
  | p :: W, S, h => by
    have h1 : (appl W (S.set p.1 p.2))[i]? = (S.set p.1 p.2)[i]? := appl_off fun q hq => h q (by simp [hq])
    rw [List.getElem?_set_ne (h p (by simp))] at h1
    exact h1
/-- Where only one thing is written, it stands. -/
theorem appl_on {i : Nat} {x : ByteArray} : ∀ {W : List (Nat × ByteArray)} {S : List ByteArray}, i < S.length → (i, x) ∈ W → (∀ y, (i, y) ∈ W → y = x) → (appl W S)[i]? = some x
  | [], _, _, h, _ => by cases h
  | p :: W, S, hi, h, hu => by
    show (appl W (S.set p.1 p.2))[i]? = some x
    by_cases hm : (i, x) ∈ W
    · exact appl_on (by rw [List.length_set]; exact hi) hm fun y hy => hu y (by simp [hy])
    · rcases List.mem_cons.1 h with rfl | h
      · rw [appl_off]
        · simp [hi]
        · rintro ⟨j, y⟩ hy rfl
          have := hu y (by simp [hy])
          subst this
          exact hm hy
      · exact absurd h hm
/-- Bytes of a sector of an elder epoch, or blank. -/
def OldB (e : Nat) (x : ByteArray) : Prop := ∃ o : Option ASec, (∀ s, o = some s → s.Ok ∧ s.ep < e) ∧ x = tx (secL o)
theorem OldB.mono {e e' : Nat} {x : ByteArray} (h : OldB e x) (he : e ≤ e') : OldB e' x := by
  obtain ⟨o, h1, h2⟩ := h
  exact ⟨o, fun s hs => ⟨(h1 s hs).1, Nat.lt_of_lt_of_le (h1 s hs).2 he⟩, h2⟩
/-- A sector of a transaction. -/
def secOf (ep num : Nat) (l : List AIm) (i : Nat) : ASec :=
  if h : i < l.length then ⟨2, ep, num + 1, l[i].1, i, l[i].2⟩ else ⟨3, ep, num + 1, 0, l.length, List.replicate 480 0⟩
theorem secOf_ep {ep num : Nat} {l : List AIm} {i : Nat} : (secOf ep num l i).ep = ep := by unfold secOf; split <;> rfl
theorem secOf_ok {ep num i n : Nat} {l : List AIm} (h : AImOk n l) (hn : n ≤ 3840) (h1 : ep < 2 ^ 62) (h2 : num < 2 ^ 62) (h3 : l.length ≤ 3840) : (secOf ep num l i).Ok := by
  unfold secOf
  split
  · rename_i hi
    have := h.rg _ (List.getElem_mem hi)
    exact ⟨(by decide : 1 ≤ 2), (by decide : 2 ≤ 4), by show ep < 2 ^ 64; omega, by show num + 1 < 2 ^ 64; omega, by show l[i].1 ≤ 65535; omega, by show i ≤ 65535; omega, this.2⟩
  · exact ⟨(by decide : 1 ≤ 3), (by decide : 3 ≤ 4), by show ep < 2 ^ 64; omega, by show num + 1 < 2 ^ 64; omega, (by decide : 0 ≤ 65535), by show l.length ≤ 65535; omega, List.length_replicate ..⟩
theorem imgW_eq (ep pos num : Nat) : ∀ (l' l : List AIm) (i : Nat), l'.drop i = l → imgW ep pos num i l = (List.range' i l.length).map fun i => (1 + pos + i, (secOf ep num l' i).simg)
  | l', [], i, _ => rfl
  | l', x :: l, i, h => by
    have hi : i < l'.length := by
      rcases Nat.lt_or_ge i l'.length with h1 | h1
      · exact h1
      · rw [List.drop_of_length_le h1] at h; cases h
    have h1 := List.drop_eq_getElem_cons hi
    rw [h] at h1
    injection h1 with h2 h3
    rw [imgW, List.length_cons, List.range'_succ, List.map_cons, imgW_eq ep pos num l' l (i + 1) h3.symm]
    congr 2
    unfold secOf
    rw [dif_pos hi, ← h2]
theorem txW_eq (ep pos num : Nat) (l : List AIm) : txW ep pos num l = (List.range (l.length + 1)).map fun i => (1 + pos + i, (secOf ep num l i).simg) := by
  have e1 : endW ep pos num l.length = (1 + pos + l.length, (secOf ep num l l.length).simg) := by
    unfold endW secOf; rw [dif_neg (by omega)]
  rw [txW, imgW_eq ep pos num l l 0 rfl, e1, List.range_succ, List.map_append, List.range_eq_range']
  rfl
theorem txAt_iff {c : Nat → Option ASec} {ep num pos : Nat} {l : List AIm} (h : ∀ i, i ≤ l.length → c (1 + (pos + i)) = some (secOf ep num l i)) : TxAt c ep num pos l := by
  refine ⟨fun i hi => ?_, ?_⟩
  · rw [h i (by omega)]; unfold secOf; rw [dif_pos hi]
  · rw [h _ (Nat.le_refl _)]; unfold secOf; rw [dif_neg (by omega)]
/-- The sectors of a list of transactions, one after another. -/
def strm (ep : Nat) : Nat → Nat → List (List AIm) → Nat → Option ASec
  | _, _, [], _ => none
  | num, pos, l :: ts, q => if q < pos + l.length + 1 then some (secOf ep num l (q - pos)) else strm ep (num + 1) (pos + l.length + 1) ts q
/-- Where they end. -/
def endp : Nat → List (List AIm) → Nat
  | pos, [] => pos
  | pos, l :: ts => endp (pos + l.length + 1) ts
theorem endp_le : ∀ {ts : List (List AIm)} {pos : Nat}, pos + ts.length ≤ endp pos ts
  | [], pos => Nat.le_refl _
  | l :: ts, pos => by
    have := endp_le (ts := ts) (pos := pos + l.length + 1)
    simp only [endp, List.length_cons]; omega
theorem endp_snoc (l : List AIm) : ∀ {ts : List (List AIm)} {pos : Nat}, endp pos (ts ++ [l]) = endp pos ts + l.length + 1
  | [], pos => rfl
  | x :: ts, pos => endp_snoc l (ts := ts)
theorem endp_take {ts : List (List AIm)} : ∀ {k pos : Nat}, endp pos (ts.take k) ≤ endp pos ts := by
  induction ts with
  | nil => intro k pos; simp
  | cons l ts ih =>
    intro k pos
    cases k with
    | zero => have := endp_le (ts := l :: ts) (pos := pos); simp only [List.take_zero, endp] at *; omega
    | succ k => exact ih
theorem strm_lt {ep : Nat} : ∀ {ts : List (List AIm)} {num pos q : Nat} {s : ASec}, strm ep num pos ts q = some s → q < endp pos ts
  | [], _, _, _, _, h => by cases h
  | l :: ts, num, pos, q, s, h => by
    rw [strm] at h
    split at h
    · rename_i hq
      have := endp_le (ts := ts) (pos := pos + l.length + 1)
      simp only [endp]; omega
    · exact strm_lt (ts := ts) h
theorem strm_none {ep : Nat} : ∀ {ts : List (List AIm)} {num pos q : Nat}, endp pos ts ≤ q → strm ep num pos ts q = none
  | [], _, _, _, _ => rfl
  | l :: ts, num, pos, q, h => by
    have := endp_le (ts := ts) (pos := pos + l.length + 1)
    simp only [endp] at h
    rw [strm, if_neg (by omega)]
    exact strm_none h
theorem strm_snoc_lt {ep : Nat} {l : List AIm} : ∀ {ts : List (List AIm)} {num pos q : Nat}, pos ≤ q → q < endp pos ts → strm ep num pos (ts ++ [l]) q = strm ep num pos ts q
  | [], num, pos, q, h1, h2 => absurd h2 (by simp only [endp]; omega)
  | x :: ts, num, pos, q, h1, h2 => by
    rw [List.cons_append, strm, strm]
    by_cases h : q < pos + x.length + 1
    · rw [if_pos h, if_pos h]
    · rw [if_neg h, if_neg h]
      exact strm_snoc_lt (by omega) h2
theorem strm_snoc_ge {ep : Nat} {l : List AIm} : ∀ {ts : List (List AIm)} {num pos q : Nat}, endp pos ts ≤ q → q < endp pos ts + l.length + 1 → strm ep num pos (ts ++ [l]) q = some (secOf ep (num + ts.length) l (q - endp pos ts))
  | [], num, pos, q, h1, h2 => by
    have h2' : q < pos + l.length + 1 := h2
    rw [List.nil_append, strm, if_pos h2']
    rfl
  | x :: ts, num, pos, q, h1, h2 => by
    have hle := endp_le (ts := ts) (pos := pos + x.length + 1)
    have h1' : endp (pos + x.length + 1) ts ≤ q := h1
    rw [List.cons_append, strm, if_neg (by omega), strm_snoc_ge h1' h2]
    have e : num + 1 + ts.length = num + (ts.length + 1) := by omega
    rw [e]
    rfl
/-- Old: blank, or of an elder epoch. -/
def Old (e : Nat) (o : Option ASec) : Prop := ∀ s, o = some s → s.ep < e
theorem next_old {c : Nat → Option ASec} {size ep number f pos : Nat} {im : List AIm} (h : Old ep (c (1 + pos))) : nextM c size ep number (f + 1) pos im = none := by
  rcases Nat.lt_or_ge pos size with h1 | h1
  · cases hx : c (1 + pos) with
    | none => exact next_none h1 hx
    | some s =>
      rw [next_some h1 hx]
      refine step_other fun q => ?_
      have := h s hx
      omega
  · exact next_out (by omega)
/-- A transaction of which a sector is old is not read. -/
theorem next_torn {c : Nat → Option ASec} {size ep num pos : Nat} {l : List AIm} (hp : ∀ q, q ∈ l → q.1 < 3840) (hs : pos + l.length < size) {i0 : Nat} (hi0 : i0 ≤ l.length) (ho : Old ep (c (1 + (pos + i0))))
    (hc : ∀ i, i < i0 → c (1 + (pos + i)) = some (secOf ep num l i) ∨ Old ep (c (1 + (pos + i)))) :
    ∀ (f i : Nat), i ≤ i0 → nextM c size ep (num + 1) f (pos + i) (l.take i) = none
  | 0, i, _ => by rw [nextM]
  | f + 1, i, hi => by
    by_cases e : i = i0
    · subst e; exact next_old ho
    · rcases hc i (by omega) with h1 | h1
      · have hlt : i < l.length := by omega
        rw [next_some (by omega) h1, step_im]
        · have e2 : l.take i ++ [((secOf ep num l i).pos, (secOf ep num l i).body)] = l.take (i + 1) := by
            unfold secOf; rw [dif_pos hlt, List.take_add_one, List.getElem?_eq_getElem hlt]; rfl
          rw [e2]
          exact next_torn hp hs hi0 ho hc f (i + 1) (by omega)
        · unfold secOf; rw [dif_pos hlt]; exact ⟨rfl, rfl⟩
        · unfold secOf; rw [dif_pos hlt]; exact ⟨rfl, by rw [List.length_take]; show i = _; omega, hp _ (List.getElem_mem hlt)⟩
      · exact next_old h1
/-- What is scanned: a first part of the transactions, all those that are safe among them. -/
theorem scan_strm {c : Nat → Option ASec} {size ep K : Nat} : ∀ {ts : List (List AIm)} {num pos f : Nat}, (∀ l, l ∈ ts → l ≠ [] ∧ ∀ q, q ∈ l → q.1 < 3840) → endp pos ts ≤ size → ts.length < f →
    (∀ q s, pos ≤ q → strm ep num pos ts q = some s → c (1 + q) = some s ∨ (K ≤ q ∧ Old ep (c (1 + q)))) →
    nextM c size ep (num + ts.length + 1) (size + 1) (endp pos ts) [] = none →
    ∃ j, j ≤ ts.length ∧ scanM c size ep f (num + 1) pos = ts.take j ∧ ∀ k, k ≤ ts.length → endp pos (ts.take k) ≤ K → k ≤ j
  | ts, num, pos, 0, _, _, hf, _, _ => absurd hf (by omega)
  | [], num, pos, f + 1, _, _, hf, hc, hend => by
    refine ⟨0, Nat.le_refl _, ?_, fun k hk _ => hk⟩
    have e : nextM c size ep (num + 1) (size + 1) pos [] = none := hend
    rw [scanM, e]; rfl
  | l :: ts, num, pos, f + 1, hv, hsz, hf, hc, hend => by
    have hl := hv l (by simp)
    have hle := endp_le (ts := ts) (pos := pos + l.length + 1)
    have hsz' : endp (pos + l.length + 1) ts ≤ size := hsz
    have hin : ∀ i, i ≤ l.length → c (1 + (pos + i)) = some (secOf ep num l i) ∨ (K ≤ pos + i ∧ Old ep (c (1 + (pos + i)))) := fun i hi => by
      refine hc (pos + i) (secOf ep num l i) (by omega) ?_
      rw [strm, if_pos (by omega), Nat.add_sub_cancel_left]
    by_cases hall : ∀ i, i ≤ l.length → c (1 + (pos + i)) = some (secOf ep num l i)
    · have hT : TxAt c ep num pos l := txAt_iff hall
      have h1 := next_at (size := size) (num := num) hT hl.2 (by omega) l.length (size + 1) 0 (by omega) (by omega)
      have hend' : nextM c size ep (num + 1 + ts.length + 1) (size + 1) (endp (pos + l.length + 1) ts) [] = none := by
        have e : num + 1 + ts.length + 1 = num + (l :: ts).length + 1 := by rw [List.length_cons]; omega
        rw [e]; exact hend
      obtain ⟨j, j1, j2, j3⟩ := scan_strm (K := K) (ts := ts) (num := num + 1) (pos := pos + l.length + 1) (f := f) (fun x hx => hv x (by simp [hx])) hsz' (by simpa using hf) (fun q s hq hs => by
        refine hc q s (by omega) ?_
        rw [strm, if_neg (by omega)]; exact hs) hend'
      refine ⟨j + 1, by simpa using j1, ?_, fun k hk he => ?_⟩
      · rw [scanM]
        have h1' : nextM c size ep (num + 1) (size + 1) pos [] = some (l, pos + l.length + 1) := h1
        rw [h1']
        dsimp only
        rw [if_neg hl.1, j2]
        rfl
      · cases k with
        | zero => omega
        | succ k =>
          have := j3 k (by simpa using hk) he
          omega
    · have hex : ∃ i0, i0 ≤ l.length ∧ (K ≤ pos + i0 ∧ Old ep (c (1 + (pos + i0)))) := by
        refine Classical.byContradiction fun hno => hall fun i hi => ?_
        rcases hin i hi with h1 | h1
        · exact h1
        · exact absurd ⟨i, hi, h1⟩ hno
      obtain ⟨i0, hi0, hK, ho⟩ := hex
      have h1 : nextM c size ep (num + 1) (size + 1) pos [] = none := next_torn (num := num) (pos := pos) hl.2 (by omega) hi0 ho (fun i hi => (hin i (by omega)).imp id (·.2)) (size + 1) 0 (by omega)
      refine ⟨0, by omega, by rw [scanM, h1]; rfl, fun k hk he => ?_⟩
      cases k with
      | zero => exact Nat.le_refl _
      | succ k =>
        have h3 : endp (pos + l.length + 1) (ts.take k) ≤ K := he
        have := endp_le (ts := ts.take k) (pos := pos + l.length + 1)
        omega
end Go.Abs
namespace Go.Abs
open Go
set_option linter.unusedVariables false
abbrev Pgs := List (List UInt8)
/-- What a disk of bytes holds. -/
structure Cnt (F : List ByteArray) (n size ep : Nat) (homes : Pgs) (c : Nat → Option ASec) : Prop where
  fl : F.length = 1 + size + n
  head : F[0]? = some (tx (headS ep n size).simg)
  len : homes.length = n
  sz : ∀ t, t ∈ homes → t.length = 480
  home : ∀ i, i < n → ∃ t, homes[i]? = some t ∧ F[1 + size + i]? = some (tx (homeL i t))
  says : ∀ q, q < size → F[1 + q]? = some (tx (secL (c (1 + q)))) ∧ ∀ s, c (1 + q) = some s → s.Ok ∧ s.ep ≤ ep
/-- It is loaded as these pages. -/
def Loads (F : List ByteArray) (n size e : Nat) (pg : Pgs) : Prop :=
  ∃ ep homes c, ep < e ∧ Cnt F n size ep homes c ∧ (∀ l, l ∈ scanM c size ep (size + 1) 1 0 → AImOk n l) ∧ pgAll (scanM c size ep (size + 1) 1 0) homes = pg
/-- Whatever is kept, it is loaded as one of these. -/
def Rec (D : ADisk) (n size e : Nat) (P : Pgs → Prop) : Prop := ∀ keep, ∃ pg, P pg ∧ Loads (applK keep D.wr D.wr.length D.safe) n size e pg
/-- Nothing waits, the journal is empty. -/
def Fresh (D : ADisk) (n size ep : Nat) (pg : Pgs) : Prop := D.wr = [] ∧ ∃ c, Cnt D.safe n size ep pg c ∧ ∀ q s, q < size → c (1 + q) = some s → s.ep < ep
theorem Rec.mono {D : ADisk} {n size e : Nat} {P Q : Pgs → Prop} (h : Rec D n size e P) (hq : ∀ x, P x → Q x) : Rec D n size e Q := fun keep => by
  obtain ⟨pg, h1, h2⟩ := h keep; exact ⟨pg, hq _ h1, h2⟩
theorem Rec.fail {D : ADisk} {n size e : Nat} {P : Pgs → Prop} (h : Rec D n size e P) : Rec D.fail n size e P := h
theorem Loads.mono {F : List ByteArray} {n size e e' : Nat} {pg : Pgs} (h : Loads F n size e pg) (he : e ≤ e') : Loads F n size e' pg := by
  obtain ⟨ep, homes, c, h1, h2⟩ := h; exact ⟨ep, homes, c, by omega, h2⟩
theorem Rec.up {D : ADisk} {n size e e' : Nat} {P : Pgs → Prop} (h : Rec D n size e P) (he : e ≤ e') : Rec D n size e' P := fun keep => by
  obtain ⟨pg, h1, h2⟩ := h keep; exact ⟨pg, h1, h2.mono he⟩
/-! ### Pages that are written over -/
def Tch (ts : List (List AIm)) (i : Nat) : Prop := ∃ l, l ∈ ts ∧ ∃ q, q ∈ l ∧ q.1 = i
theorem setPg_off {i : Nat} : ∀ {l : List AIm} {g : Pgs}, (∀ q, q ∈ l → q.1 ≠ i) → (setPg l g)[i]? = g[i]?
  | [], _, _ => rfl
  | x :: l, g, h => by
    have h1 : (setPg l (g.set x.1 x.2))[i]? = (g.set x.1 x.2)[i]? := setPg_off fun q hq => h q (by simp [hq])
    rw [List.getElem?_set_ne (h x (by simp))] at h1
    exact h1
theorem pgAll_off {i : Nat} : ∀ {ts : List (List AIm)} {g : Pgs}, ¬ Tch ts i → (pgAll ts g)[i]? = g[i]?
  | [], _, _ => rfl
  | l :: ts, g, h => by
    have h1 : (pgAll ts (setPg l g))[i]? = (setPg l g)[i]? := pgAll_off fun ⟨l', h1, h2⟩ => h ⟨l', by simp [h1], h2⟩
    exact h1.trans (setPg_off fun q hq e => h ⟨l, by simp, q, hq, e⟩)
theorem setPg_over : ∀ {l : List AIm} {g h : Pgs} {T : Nat → Prop}, g.length = h.length → (∀ i, ¬ (T i ∨ ∃ q, q ∈ l ∧ q.1 = i) → g[i]? = h[i]?) → ∀ i, ¬ T i → (setPg l g)[i]? = (setPg l h)[i]?
  | [], g, h, T, hl, ha, i, hi => ha i fun q => q.elim hi fun ⟨q, hq, _⟩ => by cases hq
  | x :: l, g, h, T, hl, ha, i, hi => by
    refine setPg_over (l := l) (g := g.set x.1 x.2) (h := h.set x.1 x.2) (T := T) (by simp [hl]) (fun j hj => ?_) i hi
    by_cases e : x.1 = j
    · subst e
      rw [List.getElem?_set, List.getElem?_set, hl, if_pos rfl, if_pos rfl]
    · rw [List.getElem?_set_ne e, List.getElem?_set_ne e]
      refine ha j fun q => hj ?_
      rcases q with q | ⟨q, hq, rfl⟩
      · exact .inl q
      · rcases List.mem_cons.1 hq with rfl | hq
        · exact absurd rfl e
        · exact .inr ⟨q, hq, rfl⟩
theorem pgAll_over : ∀ {ts : List (List AIm)} {g h : Pgs}, g.length = h.length → (∀ i, ¬ Tch ts i → g[i]? = h[i]?) → pgAll ts g = pgAll ts h
  | [], g, h, hl, ha => List.ext_getElem? fun i => ha i fun ⟨l, h1, _⟩ => by cases h1
  | l :: ts, g, h, hl, ha => by
    refine pgAll_over (ts := ts) (g := setPg l g) (h := setPg l h) (by rw [setPg_len, setPg_len, hl]) fun i hi => ?_
    refine setPg_over (T := Tch ts) hl (fun j hj => ha j fun ⟨l', h1, q, h2, h3⟩ => hj ?_) i hi
    rcases List.mem_cons.1 h1 with rfl | h1
    · exact .inr ⟨q, h2, h3⟩
    · exact .inl ⟨l', h1, q, h2, h3⟩
theorem pgAll_idem {ts : List (List AIm)} {g : Pgs} : pgAll ts (pgAll ts g) = pgAll ts g := pgAll_over (pgAll_len _ _) fun i hi => pgAll_off hi
theorem insAll_key {x : Int} : ∀ {l : List (Int × ByteArray)} {f : List (Int × Unit)}, x ∈ (insAll l f).map (·.1) ↔ (∃ q, q ∈ l ∧ q.1 = x) ∨ x ∈ f.map (·.1)
  | [], f => by simp [insAll]
  | y :: l, f => by
    have ih := insAll_key (x := x) (l := l) (f := insM y.1 () f)
    have e : insAll (y :: l) f = insAll l (insM y.1 () f) := rfl
    rw [e, ih, keys_ins]
    constructor
    · rintro (⟨q, hq, h⟩ | h | h)
      · exact .inl ⟨q, by simp [hq], h⟩
      · exact .inl ⟨y, by simp, h.symm⟩
      · exact .inr h
    · rintro (⟨q, hq, h⟩ | h)
      · rcases List.mem_cons.1 hq with rfl | hq
        · exact .inr (.inl h.symm)
        · exact .inl ⟨q, hq, h⟩
      · exact .inr (.inr h)
theorem frAll_key {x : Int} : ∀ {ts : List (List AIm)} {f : List (Int × Unit)}, x ∈ (frAll ts f).map (·.1) ↔ (∃ i : Nat, Tch ts i ∧ x = i) ∨ x ∈ f.map (·.1)
  | [], f => by
    simp only [frAll, List.foldl_nil]
    exact ⟨.inr, fun h => h.elim (fun ⟨i, ⟨l, h1, _⟩, _⟩ => by cases h1) id⟩
  | l :: ts, f => by
    have ih := frAll_key (x := x) (ts := ts) (f := insAll (imL l) f)
    have e : frAll (l :: ts) f = frAll ts (insAll (imL l) f) := rfl
    rw [e, ih, insAll_key]
    constructor
    · rintro (⟨i, ⟨l', h1, h2⟩, h⟩ | ⟨q, hq, h⟩ | h)
      · exact .inl ⟨i, ⟨l', by simp [h1], h2⟩, h⟩
      · obtain ⟨q', hq', rfl⟩ := List.mem_map.1 hq
        exact .inl ⟨q'.1, ⟨l, by simp, q', hq', rfl⟩, h.symm⟩
      · exact .inr h
    · rintro (⟨i, ⟨l', h1, q, h2, h3⟩, h⟩ | h)
      · rcases List.mem_cons.1 h1 with rfl | h1
        · exact .inr (.inl ⟨((q.1 : Int), tx q.2), List.mem_map.2 ⟨q, h2, rfl⟩, by rw [h, ← h3]⟩)
        · exact .inl ⟨i, ⟨l', h1, q, h2, h3⟩, h⟩
      · exact .inr (.inr h)
/-! ### Writing one after another -/
def txp (p : Nat × List UInt8) : Nat × ByteArray := (p.1, tx p.2)
theorem seqW_spec : ∀ (l : List (Nat × List UInt8)) (D : ADisk),
    (∃ k D', k < l.length ∧ seqW l D = (17, D') ∧ D'.safe = D.safe ∧ D'.wr = D.wr ++ (l.take k).map txp ∧ D'.down = true) ∨
    (∃ D', seqW l D = (0, D') ∧ D'.safe = D.safe ∧ D'.wr = D.wr ++ l.map txp ∧ (D.down = false → D'.down = false))
  | [], D => .inr ⟨D, rfl, rfl, by simp, id⟩
  | p :: l, D => by
    cases hst : D.stop with
    | true => exact .inl ⟨0, D.fail, by simp, seqW_stop hst, rfl, by simp [ADisk.fail], rfl⟩
    | false =>
      rw [seqW_go hst]
      rcases seqW_spec l (D.write p.1 (tx p.2)) with ⟨k, D', h1, h2, h3, h4, h5⟩ | ⟨D', h2, h3, h4, h5⟩
      · refine .inl ⟨k + 1, D', by simpa using h1, h2, h3, ?_, h5⟩
        rw [h4]
        show (D.wr ++ [(p.1, tx p.2)]) ++ _ = _
        rw [List.take_succ_cons, List.map_cons, List.append_assoc]; rfl
      · refine .inr ⟨D', h2, h3, ?_, fun hd => h5 hd⟩
        rw [h4]
        show (D.wr ++ [(p.1, tx p.2)]) ++ _ = _
        rw [List.map_cons, List.append_assoc]; rfl
/-! ### A disk that is not armed does not fail -/
def Calm (D : ADisk) : Prop := D.armed = 0 ∧ D.down = false
theorem Calm.go {D : ADisk} (h : Calm D) : Calm D.go := by
  refine ⟨?_, h.2⟩
  show max2 (IntKind.i64.wrap (D.armed - 1)) 0 = 0
  rw [h.1]; decide
theorem Calm.stop {D : ADisk} (h : Calm D) : D.stop = false := by
  unfold ADisk.stop; rw [h.1, h.2]; rfl
theorem Calm.write {D : ADisk} {i : Nat} {s : ByteArray} (h : Calm D) : Calm (D.write i s) := h.go
theorem Calm.flu {D : ADisk} (h : Calm D) : D.flu.1 = 0 ∧ Calm D.flu.2 := by
  unfold ADisk.flu; rw [h.stop]; exact ⟨rfl, h.go⟩
theorem Calm.seq : ∀ {l : List (Nat × List UInt8)} {D : ADisk}, Calm D → (seqW l D).1 = 0 ∧ Calm (seqW l D).2
  | [], D, h => ⟨rfl, h⟩
  | p :: l, D, h => by rw [seqW_go h.stop]; exact Calm.seq h.write
theorem Calm.ck {ep n size : Nat} {pgs : Pgs} {ks : List Int} {D : ADisk} (h : Calm D) : (ckM ep n size pgs ks D).1 = 0 ∧ Calm (ckM ep n size pgs ks D).2 := by
  unfold ckM
  have h1 := h.flu
  rw [bindD_ok h1.1]
  have h2 := Calm.seq (l := hW size pgs ks) h1.2
  rw [bindD_ok h2.1]
  have h3 := h2.2.flu
  rw [bindD_ok h3.1]
  unfold swM
  have h4 : ((seqW (hW size pgs ks) D.flu.2).2.flu.2.wrt 0 (headS ep n size).simg).1 = 0 ∧ Calm ((seqW (hW size pgs ks) D.flu.2).2.flu.2.wrt 0 (headS ep n size).simg).2 := by
    rw [go_wrt h3.2.stop]; exact ⟨rfl, h3.2.write⟩
  rw [bindD_ok h4.1]
  exact h4.2.flu
end Go.Abs
namespace Go.Abs
open Go
set_option linter.unusedVariables false
theorem list_choose {α : Type} {Q : Nat → α → Prop} : ∀ {n : Nat}, (∀ i, i < n → ∃ t, Q i t) → ∃ l : List α, l.length = n ∧ ∀ i t, l[i]? = some t → Q i t
  | 0, _ => ⟨[], rfl, by simp⟩
  | n + 1, h => by
    obtain ⟨l, h1, h2⟩ := list_choose (Q := Q) (n := n) fun i hi => h i (by omega)
    obtain ⟨t, ht⟩ := h n (by omega)
    refine ⟨l ++ [t], by simp [h1], fun i x hx => ?_⟩
    rcases Nat.lt_or_ge i l.length with hlt | hge
    · rw [List.getElem?_append_left hlt] at hx; exact h2 i x hx
    · rw [List.getElem?_append_right hge] at hx
      have : i - l.length = 0 := by
        rcases Nat.eq_zero_or_pos (i - l.length) with h3 | h3
        · exact h3
        · rw [List.getElem?_eq_none (by simp; omega)] at hx; cases hx
      rw [this] at hx
      simp at hx
      subst hx
      have e : i = n := by omega
      rw [e]; exact ht
theorem applK_off {keep : Nat → Bool} {W : List (Nat × ByteArray)} {S : List ByteArray} {i : Nat} (h : ∀ p, p ∈ W → p.1 ≠ i) : ∀ {k : Nat}, (applK keep W k S)[i]? = S[i]?
  | 0 => rfl
  | k + 1 => by
    simp only [applK]
    split
    · rename_i p hp
      split
      · rw [List.getElem?_set_ne (h p (List.mem_of_getElem? hp))]; exact applK_off h
      · exact applK_off h
    · exact applK_off h
variable {n size ep e : Nat} {b p : Pgs} {c : Nat → Option ASec} {Ts : List (List AIm)} {F : List ByteArray}
theorem Cnt.lt (h : Cnt F n size ep b c) {i : Nat} (hi : i < 1 + size + n) : ∃ x, F[i]? = some x := ⟨_, List.getElem?_eq_getElem (by rw [h.fl]; exact hi)⟩
/-- Some home sectors are written: it is loaded as before. -/
theorem good_homes (hC : Cnt F n size ep b c) (hok : ∀ l, l ∈ Ts → AImOk n l) (hts : scanM c size ep (size + 1) 1 0 = Ts) (hp : pgAll Ts b = p) (he : ep < e) {W : List (Nat × ByteArray)}
    (hW : ∀ q, q ∈ W → ∃ i t, i < n ∧ Tch Ts i ∧ p[i]? = some t ∧ q = (1 + size + i, tx (homeL i t))) (keep : Nat → Bool) (k : Nat) : Loads (applK keep W k F) n size e p := by
  have hpl : p.length = n := by rw [← hp, pgAll_len, hC.len]
  have hpz : ∀ t, t ∈ p → t.length = 480 := by rw [← hp]; exact pgAll_sz (fun l hl q hq => ((hok l hl).rg q hq).2) hC.sz
  have hoff : ∀ i, i < 1 + size → (applK keep W k F)[i]? = F[i]? := fun i hi => applK_off fun q hq => by
    obtain ⟨j, t, _, _, _, rfl⟩ := hW q hq
    show 1 + size + j ≠ i
    omega
  have hch : ∀ i, i < n → ∃ t, (∃ u, b[i]? = some u ∧ (t = u ∨ Tch Ts i)) ∧ t.length = 480 ∧ (applK keep W k F)[1 + size + i]? = some (tx (homeL i t)) := fun i hi => by
    obtain ⟨u, hu1, hu2⟩ := hC.home i hi
    have hlt : 1 + size + i < (applK keep W k F).length := by rw [applK_len, hC.fl]; omega
    have hg := List.getElem?_eq_getElem hlt
    rcases applK_poss hg with h1 | h1
    · rw [hu2] at h1
      injection h1 with h1
      exact ⟨u, ⟨u, hu1, .inl rfl⟩, hC.sz u (List.mem_of_getElem? hu1), by rw [hg, ← h1]⟩
    · obtain ⟨j, t, hj, hT, hpj, hq⟩ := hW _ h1
      injection hq with hq1 hq2
      have e1 : j = i := by omega
      subst e1
      exact ⟨t, ⟨u, hu1, .inr hT⟩, hpz t (List.mem_of_getElem? hpj), by rw [hg, hq2]⟩
  obtain ⟨h, hl, hh⟩ := list_choose hch
  refine ⟨ep, h, c, he, ⟨by rw [applK_len, hC.fl], by rw [hoff 0 (by omega)]; exact hC.head, hl, fun t ht => ?_, fun i hi => ?_, fun q hq => ?_⟩, by rw [hts]; exact hok, ?_⟩
  · obtain ⟨i, hi⟩ := List.mem_iff_getElem?.1 ht
    exact (hh i t hi).2.1
  · obtain ⟨t, ht⟩ : ∃ t, h[i]? = some t := ⟨_, List.getElem?_eq_getElem (by omega)⟩
    exact ⟨t, ht, (hh i t ht).2.2⟩
  · rw [hoff _ (by omega)]; exact hC.says q hq
  · rw [hts, ← hp]
    refine pgAll_over (by rw [hl, hC.len]) fun i hi => ?_
    rcases Nat.lt_or_ge i n with hlt | hge
    · obtain ⟨t, ht⟩ : ∃ t, h[i]? = some t := ⟨_, List.getElem?_eq_getElem (by omega)⟩
      obtain ⟨⟨u, hu, hor⟩, _⟩ := hh i t ht
      rcases hor with rfl | hT
      · rw [ht, hu]
      · exact absurd hT hi
    · rw [List.getElem?_eq_none (by omega), List.getElem?_eq_none (by rw [hC.len]; exact hge)]
/-- All home sectors of pages that changed are written. -/
theorem cnt_homes (hC : Cnt F n size ep b c) (hok : ∀ l, l ∈ Ts → AImOk n l) (hp : pgAll Ts b = p) {W : List (Nat × ByteArray)}
    (hW : ∀ q, q ∈ W → ∃ i t, i < n ∧ Tch Ts i ∧ p[i]? = some t ∧ q = (1 + size + i, tx (homeL i t))) (hall : ∀ i t, i < n → Tch Ts i → p[i]? = some t → (1 + size + i, tx (homeL i t)) ∈ W) : Cnt (appl W F) n size ep p c := by
  have hpl : p.length = n := by rw [← hp, pgAll_len, hC.len]
  have hpz : ∀ t, t ∈ p → t.length = 480 := by rw [← hp]; exact pgAll_sz (fun l hl q hq => ((hok l hl).rg q hq).2) hC.sz
  have hoff : ∀ i, i < 1 + size → (appl W F)[i]? = F[i]? := fun i hi => appl_off fun q hq => by
    obtain ⟨j, t, _, _, _, rfl⟩ := hW q hq
    show 1 + size + j ≠ i
    omega
  refine ⟨by rw [appl_len, hC.fl], by rw [hoff 0 (by omega)]; exact hC.head, hpl, hpz, fun i hi => ?_, fun q hq => by rw [hoff _ (by omega)]; exact hC.says q hq⟩
  obtain ⟨t, ht⟩ : ∃ t, p[i]? = some t := ⟨_, List.getElem?_eq_getElem (by omega)⟩
  refine ⟨t, ht, ?_⟩
  by_cases hT : Tch Ts i
  · refine appl_on (by rw [hC.fl]; omega) (hall i t hi hT ht) fun y hy => ?_
    obtain ⟨j, t', hj, _, hpj, hq⟩ := hW _ hy
    injection hq with hq1 hq2
    have e1 : j = i := by omega
    subst e1
    rw [ht] at hpj
    injection hpj with hpj
    rw [hq2, hpj]
  · rw [appl_off fun q hq e1 => ?_]
    · obtain ⟨u, hu1, hu2⟩ := hC.home i hi
      have e2 : p[i]? = b[i]? := by rw [← hp]; exact pgAll_off hT
      rw [ht, hu1] at e2
      injection e2 with e2
      rw [e2]; exact hu2
    · obtain ⟨j, t', hj, hTj, _, rfl⟩ := hW q hq
      have e3 : 1 + size + j = 1 + size + i := e1
      have e4 : j = i := by omega
      subst e4
      exact hT hTj
/-- The head is written: the journal is empty then. -/
theorem cnt_head (hC : Cnt F n size ep p c) : Cnt (F.set 0 (tx (headS (ep + 1) n size).simg)) n size (ep + 1) p c := by
  refine ⟨by rw [List.length_set, hC.fl], by rw [List.getElem?_set_self (by rw [hC.fl]; omega)], hC.len, hC.sz, fun i hi => ?_, fun q hq => ?_⟩
  · obtain ⟨t, h1, h2⟩ := hC.home i hi
    exact ⟨t, h1, by rw [List.getElem?_set_ne (by omega)]; exact h2⟩
  · obtain ⟨h1, h2⟩ := hC.says q hq
    exact ⟨by rw [List.getElem?_set_ne (by omega)]; exact h1, fun s hs => ⟨(h2 s hs).1, by have := (h2 s hs).2; omega⟩⟩
theorem good_new (hC : Cnt F n size ep p c) (ho : ∀ q s, q < size → c (1 + q) = some s → s.ep < ep) (he : ep < e) : Loads F n size e p := by
  have h0 : scanM c size ep (size + 1) 1 0 = [] := by
    have : nextM c size ep 1 (size + 1) 0 [] = none := by
      rcases Nat.eq_zero_or_pos size with h1 | h1
      · exact next_out (by omega)
      · exact next_old fun s hs => ho 0 s h1 hs
    rw [scanM, this]
  exact ⟨ep, p, c, he, hC, by rw [h0]; simp, by rw [h0]; rfl⟩
theorem ck_crash {D : ADisk} {ks : List Int} {P : Pgs → Prop} (hC : Cnt (appl D.wr D.safe) n size ep b c) (hok : ∀ l, l ∈ Ts → AImOk n l) (hts : scanM c size ep (size + 1) 1 0 = Ts) (hp : pgAll Ts b = p)
    (hks : ∀ x : Int, x ∈ ks ↔ ∃ i : Nat, Tch Ts i ∧ x = i) (hR : Rec D n size e P) (hP : P p) (he : ep + 1 < e) :
    ((ckM (ep + 1) n size p ks D).1 = 0 ∧ Fresh (ckM (ep + 1) n size p ks D).2 n size (ep + 1) p ∧ (ckM (ep + 1) n size p ks D).2.down = false) ∨
    ((ckM (ep + 1) n size p ks D).1 = 17 ∧ (ckM (ep + 1) n size p ks D).2.down = true ∧ Rec (ckM (ep + 1) n size p ks D).2 n size e P) := by
  have hpl : p.length = n := by rw [← hp, pgAll_len, hC.len]
  have hsd : ∀ {D : ADisk}, D.stop = false → D.down = false := fun {D} h => by
    unfold ADisk.stop at h
    rw [Bool.or_eq_false_iff] at h; exact h.1
  unfold ckM
  cases hst : D.stop with
  | true =>
    have e1 : D.flu = (17, D.fail) := by unfold ADisk.flu; rw [hst]; rfl
    rw [e1, bindD_no (show (17 : Int) ≠ 0 by decide)]
    exact .inr ⟨rfl, rfl, hR.fail⟩
  | false =>
    have e1 : D.flu = (0, D.go.settled) := by unfold ADisk.flu; rw [hst]; rfl
    rw [e1, bindD_ok rfl]
    have hTn : ∀ i, Tch Ts i → i < n := fun i ⟨l, h1, q, h2, h3⟩ => h3 ▸ ((hok l h1).rg q h2).1
    have hWk : ∀ q, q ∈ (hW size p ks).map txp → ∃ i t, i < n ∧ Tch Ts i ∧ p[i]? = some t ∧ q = (1 + size + i, tx (homeL i t)) := fun q hq => by
      obtain ⟨w, hw, rfl⟩ := List.mem_map.1 hq
      obtain ⟨x, hx, rfl⟩ := List.mem_map.1 hw
      obtain ⟨i, hT, rfl⟩ := (hks x).1 hx
      have hi := hTn i hT
      obtain ⟨t, ht⟩ : ∃ t, p[i]? = some t := ⟨_, List.getElem?_eq_getElem (by omega)⟩
      refine ⟨i, t, hi, hT, ht, ?_⟩
      show (1 + size + ((i : Nat) : Int).toNat, tx (homeL ((i : Nat) : Int).toNat (p.getD ((i : Nat) : Int).toNat []))) = _
      rw [Int.toNat_natCast, List.getD_eq_getElem?_getD, ht]; rfl
    have hall : ∀ i t, i < n → Tch Ts i → p[i]? = some t → (1 + size + i, tx (homeL i t)) ∈ (hW size p ks).map txp := fun i t hi hT ht => by
      refine List.mem_map.2 ⟨(1 + size + i, homeL i t), List.mem_map.2 ⟨(i : Int), (hks _).2 ⟨i, hT, rfl⟩, ?_⟩, rfl⟩
      rw [Int.toNat_natCast, List.getD_eq_getElem?_getD, ht]; rfl
    have hC1 : Cnt D.go.settled.safe n size ep b c := hC
    have hgo : ∀ {D' : ADisk} {W : List (Nat × ByteArray)}, D'.safe = D.go.settled.safe → D'.wr = W → (∀ q, q ∈ W → q ∈ (hW size p ks).map txp) → Rec D' n size e P := fun {D' W} h1 h2 h3 keep =>
      ⟨p, hP, by rw [h1, h2]; exact good_homes hC1 hok hts hp (by omega) (fun q hq => hWk q (h3 q hq)) keep _⟩
    rcases seqW_spec (hW size p ks) D.go.settled with ⟨k, D', _, h2, h3, h4, h5⟩ | ⟨D', h2, h3, h4, h5⟩
    · rw [h2, bindD_no (show (17 : Int) ≠ 0 by decide)]
      refine .inr ⟨rfl, h5, hgo h3 h4 fun q hq => ?_⟩
      have hq' : q ∈ ((hW size p ks).take k).map txp := by simpa [ADisk.settled] using hq
      rw [List.map_take] at hq'
      exact List.mem_of_mem_take hq'
    · rw [h2, bindD_ok rfl]
      have h4' : D'.wr = (hW size p ks).map txp := by rw [h4]; rfl
      have hRD' : Rec D' n size e P := hgo h3 h4' fun q hq => hq
      cases hst2 : D'.stop with
      | true =>
        have e2 : D'.flu = (17, D'.fail) := by unfold ADisk.flu; rw [hst2]; rfl
        rw [e2, bindD_no (show (17 : Int) ≠ 0 by decide)]
        exact .inr ⟨rfl, rfl, hRD'.fail⟩
      | false =>
        have e2 : D'.flu = (0, D'.go.settled) := by unfold ADisk.flu; rw [hst2]; rfl
        rw [e2, bindD_ok rfl]
        have hC3 : Cnt D'.go.settled.safe n size ep p c := by
          show Cnt (appl D'.wr D'.safe) n size ep p c
          rw [h3, h4']
          exact cnt_homes hC1 hok hp hWk hall
        have hid : pgAll Ts p = p := by rw [← hp]; exact pgAll_idem
        have hw3 : D'.go.settled.wr = [] := rfl
        generalize D'.go.settled = D3 at hC3 hw3 ⊢
        have hg3 : Loads D3.safe n size e p := ⟨ep, p, c, by omega, hC3, by rw [hts]; exact hok, by rw [hts]; exact hid⟩
        have hnew : ∀ q s, q < size → c (1 + q) = some s → s.ep < ep + 1 := fun q s hq hs => by
          have := ((hC.says q hq).2 s hs).2
          omega
        have hC5 := cnt_head hC3
        unfold swM
        cases hst3 : D3.stop with
        | true =>
          rw [stop_wrt hst3, bindD_no (show (17 : Int) ≠ 0 by decide)]
          refine .inr ⟨rfl, rfl, fun keep => ⟨p, hP, ?_⟩⟩
          show Loads (applK keep D3.wr D3.wr.length D3.safe) n size e p
          rw [hw3]; exact hg3
        | false =>
          rw [go_wrt hst3, bindD_ok rfl]
          have hw4 : (D3.write 0 (tx (headS (ep + 1) n size).simg)).wr = [(0, tx (headS (ep + 1) n size).simg)] := by
            show D3.wr ++ [_] = _
            rw [hw3]; rfl
          have hs4 : (D3.write 0 (tx (headS (ep + 1) n size).simg)).safe = D3.safe := rfl
          generalize D3.write 0 (tx (headS (ep + 1) n size).simg) = D4 at hw4 hs4 ⊢
          cases hst4 : D4.stop with
          | true =>
            have e4 : D4.flu = (17, D4.fail) := by unfold ADisk.flu; rw [hst4]; rfl
            rw [e4]
            refine .inr ⟨rfl, rfl, fun keep => ⟨p, hP, ?_⟩⟩
            show Loads (applK keep D4.wr D4.wr.length D4.safe) n size e p
            rw [hw4, hs4]
            show Loads (if keep 0 then D3.safe.set 0 _ else D3.safe) n size e p
            split
            · exact good_new hC5 hnew he
            · exact hg3
          | false =>
            have e4 : D4.flu = (0, D4.go.settled) := by unfold ADisk.flu; rw [hst4]; rfl
            rw [e4]
            refine .inl ⟨rfl, ⟨rfl, c, ?_, hnew⟩, (hsd hst4 : D4.down = false)⟩
            show Cnt (appl D4.wr D4.safe) n size (ep + 1) p c
            rw [hw4, hs4]
            exact hC5
end Go.Abs
namespace Go.Abs
open Go
set_option linter.unusedVariables false
variable {n size ep e k : Nat} {b p : Pgs} {c : Nat → Option ASec} {Ts : List (List AIm)} {F : List ByteArray}
theorem strm_ok : ∀ {Ts : List (List AIm)} {num pos q : Nat} {s : ASec}, strm ep num pos Ts q = some s → (∀ l, l ∈ Ts → AImOk n l) → n ≤ 3840 → ep < 2 ^ 62 → num + Ts.length < 2 ^ 62 → s.Ok ∧ s.ep = ep
  | [], _, _, _, _, h, _, _, _, _ => by cases h
  | l :: Ts, num, pos, q, s, h, hok, hn, he, hnum => by
    rw [strm] at h
    rw [List.length_cons] at hnum
    split at h
    · injection h with h
      have hl := hok l (by simp)
      have h1 := imOk_len hl.im
      rw [imL_len] at h1
      subst h
      exact ⟨secOf_ok hl hn he (by omega) (by omega), secOf_ep⟩
    · exact strm_ok h (fun x hx => hok x (by simp [hx])) hn he (by omega)
theorem strm_some : ∀ {Ts : List (List AIm)} {num pos q : Nat}, pos ≤ q → q < endp pos Ts → ∃ s, strm ep num pos Ts q = some s
  | [], num, pos, q, h1, h2 => absurd h2 (by simp only [endp]; omega)
  | l :: Ts, num, pos, q, h1, h2 => by
    rw [strm]
    by_cases h : q < pos + l.length + 1
    · rw [if_pos h]; exact ⟨_, rfl⟩
    · rw [if_neg h]; exact strm_some (by omega) h2
def OldAt (F : List ByteArray) (ep q : Nat) : Prop := ∃ x, F[1 + q]? = some x ∧ OldB ep x
/-- Sectors that are a stream's, or old where they may be; a torn transaction behind them: what is scanned. -/
theorem core {l : List AIm} (fl : F.length = 1 + size + n) (head : F[0]? = some (tx (headS ep n size).simg)) (bl : b.length = n) (bz : ∀ t, t ∈ b → t.length = 480)
    (home : ∀ i, i < n → ∃ t, b[i]? = some t ∧ F[1 + size + i]? = some (tx (homeL i t)))
    (hnew : ∀ q s, q < size → strm ep 0 0 Ts q = some s → F[1 + q]? = some (tx s.simg) ∨ (endp 0 (Ts.take k) ≤ q ∧ OldAt F ep q))
    (htail : ∀ q, q < size → endp 0 Ts ≤ q → OldAt F ep q ∨ (q < endp 0 Ts + l.length ∧ F[1 + q]? = some (tx (secOf ep Ts.length l (q - endp 0 Ts)).simg)))
    (hok : ∀ l, l ∈ Ts → AImOk n l ∧ l ≠ []) (hl : l ≠ [] → endp 0 Ts + l.length < size) (hlv : AImOk n l) (hn : n ≤ 3840) (hs : size ≤ 1024) (he : ep < 2 ^ 62) (hle : endp 0 Ts ≤ size) (hk : k ≤ Ts.length) :
    ∃ c j, Cnt F n size ep b c ∧ k ≤ j ∧ j ≤ Ts.length ∧ scanM c size ep (size + 1) 1 0 = Ts.take j := by
  have hTl : Ts.length ≤ size := by have := endp_le (ts := Ts) (pos := 0); omega
  have hll : l.length ≤ n := by have := imOk_len hlv.im; rw [imL_len] at this; exact this
  have hch : ∀ q, ∃ o : Option ASec, q < size → F[1 + q]? = some (tx (secL o)) ∧ (∀ s, o = some s → s.Ok ∧ s.ep ≤ ep) ∧
      (∀ s, strm ep 0 0 Ts q = some s → o = some s ∨ (endp 0 (Ts.take k) ≤ q ∧ Old ep o)) ∧
      (endp 0 Ts ≤ q → Old ep o ∨ (q < endp 0 Ts + l.length ∧ o = some (secOf ep Ts.length l (q - endp 0 Ts)))) := fun q => by
    by_cases hq : q < size
    · have hoa : OldAt F ep q → ∃ o : Option ASec, F[1 + q]? = some (tx (secL o)) ∧ (∀ s, o = some s → s.Ok ∧ s.ep ≤ ep) ∧ Old ep o := fun ⟨x, h1, o, h2, h3⟩ =>
        ⟨o, by rw [h1, h3], fun s hs => ⟨(h2 s hs).1, Nat.le_of_lt (h2 s hs).2⟩, fun s hs => (h2 s hs).2⟩
      by_cases hp : q < endp 0 Ts
      · obtain ⟨s, hs⟩ := strm_some (ep := ep) (num := 0) (Nat.zero_le q) hp
        rcases hnew q s hq hs with h1 | ⟨h1, h2⟩
        · have hso := strm_ok hs (fun l hl => (hok l hl).1) hn he (by omega)
          refine ⟨some s, fun _ => ⟨h1, fun s' hs' => ?_, fun s' hs' => .inl ?_, fun h => by omega⟩⟩
          · injection hs' with hs'; subst hs'; exact ⟨hso.1, by omega⟩
          · rw [hs] at hs'; exact hs'
        · obtain ⟨o, o1, o2, o3⟩ := hoa h2
          exact ⟨o, fun _ => ⟨o1, o2, fun _ _ => .inr ⟨h1, o3⟩, fun h => by omega⟩⟩
      · rcases htail q hq (by omega) with h2 | ⟨h1, h2⟩
        · obtain ⟨o, o1, o2, o3⟩ := hoa h2
          exact ⟨o, fun _ => ⟨o1, o2, fun s hs => (by rw [strm_none (by omega)] at hs; cases hs), fun _ => .inl o3⟩⟩
        · have hso : (secOf ep Ts.length l (q - endp 0 Ts)).Ok := secOf_ok hlv hn he (by omega) (by omega)
          refine ⟨some (secOf ep Ts.length l (q - endp 0 Ts)), fun _ => ⟨h2, fun s hs => ?_, fun s hs => (by rw [strm_none (by omega)] at hs; cases hs), fun _ => .inr ⟨h1, rfl⟩⟩⟩
          injection hs with hs
          subst hs
          exact ⟨hso, by rw [secOf_ep]; exact Nat.le_refl _⟩
    · exact ⟨none, fun h => absurd h hq⟩
  obtain ⟨f, hf⟩ := Classical.axiomOfChoice hch
  obtain ⟨c, ec⟩ : ∃ c : Nat → Option ASec, ∀ q, c (1 + q) = f q := ⟨fun i => f (i - 1), fun q => by
    show f (1 + q - 1) = f q
    rw [Nat.add_sub_cancel_left]⟩
  have hend : nextM c size ep (0 + Ts.length + 1) (size + 1) (endp 0 Ts) [] = none := by
    rcases Nat.lt_or_ge (endp 0 Ts + l.length) size with h1 | h1
    · refine next_torn (num := 0 + Ts.length) (l := l) (i0 := l.length) (fun q hq => by have := (hlv.rg q hq).1; omega) h1 (Nat.le_refl _) ?_ (fun i hi => ?_) (size + 1) 0 (by omega)
      · rw [ec]
        rcases (hf _ h1).2.2.2 (by omega) with h2 | ⟨h2, _⟩
        · exact h2
        · omega
      · rw [ec]
        rcases (hf _ (by omega : endp 0 Ts + i < size)).2.2.2 (by omega) with h2 | ⟨_, h2⟩
        · exact .inr h2
        · rw [h2, Nat.add_sub_cancel_left, Nat.zero_add]; exact .inl rfl
    · refine next_out fun h2 => ?_
      by_cases e0 : l = []
      · subst e0; simp at h1; omega
      · have := hl e0; omega
  obtain ⟨j, j1, j2, j3⟩ := scan_strm (c := c) (size := size) (ep := ep) (K := endp 0 (Ts.take k)) (ts := Ts) (num := 0) (pos := 0) (f := size + 1)
    (fun x hx => ⟨(hok x hx).2, fun q hq => by have := ((hok x hx).1.rg q hq).1; omega⟩) hle (by omega) (fun q s _ hs => by
      rw [ec]
      have := strm_lt hs
      exact (hf q (by omega)).2.2.1 s hs) hend
  refine ⟨c, j, ⟨fl, head, bl, bz, home, fun q hq => ?_⟩, j3 k hk (Nat.le_refl _), j1, j2⟩
  rw [ec]
  exact ⟨(hf q hq).1, (hf q hq).2.1⟩
/-- A store that lives: b: what its home sectors hold; Ts: the transactions of its journal, the first k of them safe. -/
structure Live (S : APg) (b : Pgs) (Ts : List (List AIm)) (k : Nat) : Prop where
  fl : S.D.safe.length = 1 + S.size + S.n
  head : S.D.safe[0]? = some (tx (headS S.ep S.n S.size).simg)
  bl : b.length = S.n
  bz : ∀ t, t ∈ b → t.length = 480
  home : ∀ i, i < S.n → ∃ t, b[i]? = some t ∧ S.D.safe[1 + S.size + i]? = some (tx (homeL i t))
  wr : ∀ q, q ∈ S.D.wr → 1 ≤ q.1 ∧ q.1 < 1 + S.pos
  new : ∀ q s x, q < S.size → strm S.ep 0 0 Ts q = some s → Poss S.D.safe S.D.wr (1 + q) x → x = tx s.simg ∨ (endp 0 (Ts.take k) ≤ q ∧ OldB S.ep x)
  old : ∀ q x, q < S.size → S.pos ≤ q → S.D.safe[1 + q]? = some x → OldB S.ep x
  cur : ∀ q s, strm S.ep 0 0 Ts q = some s → (appl S.D.wr S.D.safe)[1 + q]? = some (tx s.simg)
  ok : ∀ l, l ∈ Ts → AImOk S.n l ∧ l ≠ []
  pgs : S.pgs = pgAll Ts b
  fr : S.fr = frAll Ts []
  pos : S.pos = endp 0 Ts
  num : S.num = Ts.length
  le : S.pos ≤ S.size
  kk : k ≤ Ts.length
  wt : S.wt = 0 → k = Ts.length
  n2 : S.n ≤ 3840
  s2 : S.size ≤ 1024
  ep2 : S.ep < 2 ^ 62
theorem aim_nil : AImOk n [] := ⟨by simp, by simp⟩
variable {S : APg}
/-- What it may be loaded as. -/
def Outs (b : Pgs) (Ts : List (List AIm)) (k : Nat) (x : Pgs) : Prop := ∃ j, k ≤ j ∧ j ≤ Ts.length ∧ x = pgAll (Ts.take j) b
/-- All that was written, and a part of a transaction, without its last sector. -/
theorem live_torn (h : Live S b Ts k) {l : List AIm} (hl : l ≠ [] → S.pos + l.length < S.size) (hlv : AImOk S.n l) (he : S.ep < e) {D : ADisk} {m : Nat} (h1 : D.safe = S.D.safe) (h2 : D.wr = S.D.wr ++ ((txW S.ep S.pos S.num l).take m).map txp) (hm : m ≤ l.length) :
    Rec D S.n S.size e (Outs b Ts k) := fun keep => by
  have hW : ∀ q, q ∈ D.wr → q ∈ S.D.wr ∨ ∃ i, i < l.length ∧ q = (1 + S.pos + i, tx (secOf S.ep S.num l i).simg) := fun q hq => by
    rw [h2, List.mem_append] at hq
    rcases hq with hq | hq
    · exact .inl hq
    · refine .inr ?_
      obtain ⟨w, hw, rfl⟩ := List.mem_map.1 hq
      rw [txW_eq, ← List.map_take, List.take_range] at hw
      obtain ⟨i, hi, rfl⟩ := List.mem_map.1 hw
      rw [List.mem_range] at hi
      exact ⟨i, by omega, rfl⟩
  have hg : ∀ i, i < 1 + S.size + S.n → ∃ x, (applK keep D.wr D.wr.length D.safe)[i]? = some x ∧ (Poss S.D.safe S.D.wr i x ∨ ∃ i', i' < l.length ∧ (i, x) = (1 + S.pos + i', tx (secOf S.ep S.num l i').simg)) := fun i hi => by
    have hlt : i < (applK keep D.wr D.wr.length D.safe).length := by rw [applK_len, h1, h.fl]; exact hi
    obtain ⟨x, hgi⟩ : ∃ x, (applK keep D.wr D.wr.length D.safe)[i]? = some x := ⟨_, List.getElem?_eq_getElem hlt⟩
    refine ⟨x, hgi, ?_⟩
    rcases applK_poss hgi with h3 | h3
    · rw [h1] at h3; exact .inl (.inl h3)
    · rcases hW _ h3 with h4 | h4
      · exact .inl (.inr h4)
      · exact .inr h4
  have hoff : ∀ i, i = 0 ∨ 1 + S.size ≤ i → (applK keep D.wr D.wr.length D.safe)[i]? = S.D.safe[i]? := fun i hi => by
    rw [applK_off fun q hq => ?_, h1]
    have hle := h.le
    rcases hW q hq with h3 | ⟨i', h3, rfl⟩
    · have := h.wr q h3; omega
    · have := hl (fun e0 => by rw [e0] at h3; exact absurd h3 (by simp))
      show 1 + S.pos + i' ≠ i
      omega
  obtain ⟨c, j, hC, j1, j2, j3⟩ := core (F := applK keep D.wr D.wr.length D.safe) (ep := S.ep) (size := S.size) (n := S.n) (b := b) (Ts := Ts) (k := k) (l := l) (by rw [applK_len, h1, h.fl]) (by rw [hoff 0 (.inl rfl)]; exact h.head) h.bl h.bz
    (fun i hi => by
      obtain ⟨t, t1, t2⟩ := h.home i hi
      exact ⟨t, t1, by rw [hoff _ (.inr (by omega))]; exact t2⟩)
    (fun q s hq hs => by
      obtain ⟨x, x1, x2⟩ := hg (1 + q) (by omega)
      rcases x2 with x2 | ⟨i', i1, i2⟩
      · rcases h.new q s x hq hs x2 with h3 | ⟨h3, h4⟩
        · exact .inl (by rw [x1, h3])
        · exact .inr ⟨h3, x, x1, h4⟩
      · injection i2 with i2 i3
        have := strm_lt hs
        have := h.pos
        omega)
    (fun q hq hp => by
      have hp' := h.pos
      have hnm := h.num
      obtain ⟨x, x1, x2⟩ := hg (1 + q) (by omega)
      rcases x2 with x2 | ⟨i', i1, i2⟩
      · rcases x2 with x2 | x2
        · exact .inl ⟨x, x1, h.old q x hq (by omega) x2⟩
        · have := (h.wr _ x2).2
          have h5 : 1 + q < 1 + S.pos := this
          omega
      · injection i2 with i2 i3
        refine .inr ⟨by omega, ?_⟩
        have e1 : q - endp 0 Ts = i' := by omega
        rw [x1, i3, e1, hnm])
    h.ok (fun e0 => by have := hl e0; have := h.pos; omega) hlv h.n2 h.s2 h.ep2 (by have := h.pos; have := h.le; omega) h.kk
  exact ⟨_, ⟨j, j1, j2, rfl⟩, S.ep, b, c, he, hC, by rw [j3]; exact fun l hl => (h.ok l (List.mem_of_mem_take hl)).1, by rw [j3]⟩
theorem live_rec (h : Live S b Ts k) (he : S.ep < e) : Rec S.D S.n S.size e (Outs b Ts k) :=
  live_torn h (l := []) (m := 0) (fun h => absurd rfl h) aim_nil he rfl (by simp) (Nat.le_refl _)
/-- With all that waits. -/
theorem live_cur (h : Live S b Ts k) : ∃ c, Cnt (appl S.D.wr S.D.safe) S.n S.size S.ep b c ∧ scanM c S.size S.ep (S.size + 1) 1 0 = Ts := by
  have hoff : ∀ i, i = 0 ∨ 1 + S.pos ≤ i → (appl S.D.wr S.D.safe)[i]? = S.D.safe[i]? := fun i hi => appl_off fun q hq => by
    have := h.wr q hq
    omega
  have hle := h.le
  obtain ⟨c, j, hC, j1, j2, j3⟩ := core (F := appl S.D.wr S.D.safe) (ep := S.ep) (size := S.size) (n := S.n) (b := b) (Ts := Ts) (k := Ts.length) (l := []) (by rw [appl_len, h.fl]) (by rw [hoff 0 (.inl rfl)]; exact h.head) h.bl h.bz
    (fun i hi => by
      obtain ⟨t, t1, t2⟩ := h.home i hi
      exact ⟨t, t1, by rw [hoff _ (.inr (by omega))]; exact t2⟩)
    (fun q s hq hs => .inl (h.cur q s hs))
    (fun q hq hp => by
      have hp' := h.pos
      obtain ⟨x, hx⟩ : ∃ x, S.D.safe[1 + q]? = some x := ⟨_, List.getElem?_eq_getElem (by rw [h.fl]; omega)⟩
      exact .inl ⟨x, by rw [hoff _ (.inr (by omega))]; exact hx, h.old q x hq (by omega) hx⟩)
    h.ok (fun e0 => absurd rfl e0) aim_nil h.n2 h.s2 h.ep2 (by have := h.pos; omega) (Nat.le_refl _)
  have e1 : j = Ts.length := by omega
  exact ⟨c, hC, by rw [j3, e1, List.take_length]⟩
end Go.Abs
namespace Go.Abs
open Go
set_option linter.unusedVariables false
variable {n size ep e k : Nat} {b p : Pgs} {c : Nat → Option ASec} {Ts : List (List AIm)} {F : List ByteArray} {S : APg} {D : ADisk}
theorem live_fresh (h : Fresh D n size ep p) (hn : n ≤ 3840) (hs : size ≤ 1024) (he : ep < 2 ^ 62) : Live ⟨n, size, p, [], ep, 0, 0, 0, D⟩ p [] 0 := by
  obtain ⟨hw, c, hC, ho⟩ := h
  refine ⟨hC.fl, hC.head, hC.len, hC.sz, hC.home, fun q hq => ?_, fun q s x _ hs => (nomatch hs), fun q x hq _ hx => ?_, fun q s hs => (nomatch hs), fun l hl => (nomatch hl), rfl, rfl, rfl, rfl, Nat.zero_le _, Nat.le_refl _, fun _ => rfl, hn, hs, he⟩
  · have hq' : q ∈ D.wr := hq
    rw [hw] at hq'; cases hq'
  · obtain ⟨h1, h2⟩ := hC.says q hq
    have hx' : D.safe[1 + q]? = some x := hx
    rw [h1] at hx'
    injection hx' with hx'
    exact ⟨c (1 + q), fun s hs => ⟨(h2 s hs).1, ho q s hq hs⟩, hx'.symm⟩
/-- A transaction is appended. -/
theorem live_app (h : Live S b Ts k) {l : List AIm} (hl : l ≠ []) (hlv : AImOk S.n l) (hroom : S.pos + l.length < S.size) (he : S.ep < e) (hd : S.D.down = false) :
    ((appM l S).1 = 0 ∧ Live (appM l S).2 b (Ts ++ [l]) k ∧ (appM l S).2.D.down = false) ∨ ((appM l S).1 = 17 ∧ (appM l S).2.D.down = true ∧ Rec (appM l S).2.D S.n S.size e (Outs b Ts k)) := by
  have hp := h.pos
  have hnm := h.num
  unfold appM
  rcases seqW_spec (txW S.ep S.pos S.num l) S.D with ⟨m, D', m1, h2, h3, h4, h5⟩ | ⟨D', h2, h3, h4, h5⟩
  · rw [h2, if_neg (show ¬ (17 : Int) = 0 by decide)]
    refine .inr ⟨rfl, h5, live_torn h (fun _ => hroom) hlv he h3 h4 ?_⟩
    rw [txW_eq, List.length_map, List.length_range] at m1
    omega
  · rw [h2, if_pos rfl]
    refine .inl ⟨rfl, ?_, h5 hd⟩
    have hW : ∀ q, q ∈ (txW S.ep S.pos S.num l).map txp ↔ ∃ i, i < l.length + 1 ∧ q = (1 + S.pos + i, tx (secOf S.ep S.num l i).simg) := fun q => by
      rw [txW_eq, List.map_map, List.mem_map]
      constructor
      · rintro ⟨i, hi, rfl⟩
        exact ⟨i, List.mem_range.1 hi, rfl⟩
      · rintro ⟨i, hi, rfl⟩
        exact ⟨i, List.mem_range.2 hi, rfl⟩
    have hwr : ∀ q, q ∈ D'.wr ↔ q ∈ S.D.wr ∨ ∃ i, i < l.length + 1 ∧ q = (1 + S.pos + i, tx (secOf S.ep S.num l i).simg) := fun q => by rw [h4, List.mem_append, hW]
    refine ⟨by rw [h3]; exact h.fl, by rw [h3]; exact h.head, h.bl, h.bz, fun i hi => by rw [h3]; exact h.home i hi, fun q hq => ?_, fun q s x hq hs hx => ?_, fun q x hq hqp hx => ?_, fun q s hs => ?_,
      fun x hx => ?_, ?_, ?_, ?_, ?_, ?_, ?_, fun h0 => ?_, h.n2, h.s2, h.ep2⟩
    · show 1 ≤ q.1 ∧ q.1 < 1 + (S.pos + l.length + 1)
      rcases (hwr q).1 hq with h6 | ⟨i, hi, rfl⟩
      · have := h.wr q h6; omega
      · show 1 ≤ 1 + S.pos + i ∧ 1 + S.pos + i < _
        omega
    · have ek : (Ts ++ [l]).take k = Ts.take k := List.take_append_of_le_length h.kk
      show x = tx s.simg ∨ (endp 0 ((Ts ++ [l]).take k) ≤ q ∧ OldB S.ep x)
      rw [ek]
      replace hs : strm S.ep 0 0 (Ts ++ [l]) q = some s := hs
      replace hx : Poss D'.safe D'.wr (1 + q) x := hx
      replace hq : q < S.size := hq
      have het := endp_take (ts := Ts) (k := k) (pos := 0)
      by_cases hlt : q < endp 0 Ts
      · rw [strm_snoc_lt (Nat.zero_le q) hlt] at hs
        refine h.new q s x hq hs ?_
        rcases hx with h6 | h6
        · rw [h3] at h6; exact .inl h6
        · rcases (hwr _).1 h6 with h7 | ⟨i, hi, h7⟩
          · exact .inr h7
          · injection h7 with h7 _; omega
      · have hlt2 := strm_lt hs
        rw [endp_snoc] at hlt2
        rw [strm_snoc_ge (by omega) hlt2] at hs
        injection hs with hs
        rcases hx with h6 | h6
        · rw [h3] at h6
          exact .inr ⟨by omega, h.old q x hq (by omega) h6⟩
        · rcases (hwr _).1 h6 with h7 | ⟨i, hi, h7⟩
          · have := (h.wr _ h7).2
            have h8 : 1 + q < 1 + S.pos := this
            omega
          · injection h7 with h7 h8
            have e1 : q - endp 0 Ts = i := by omega
            left
            rw [h8, ← hs, e1, hnm, Nat.zero_add]
    · replace hx : D'.safe[1 + q]? = some x := hx
      replace hqp : S.pos + l.length + 1 ≤ q := hqp
      rw [h3] at hx
      exact h.old q x hq (by omega) hx
    · replace hs : strm S.ep 0 0 (Ts ++ [l]) q = some s := hs
      show (appl D'.wr D'.safe)[1 + q]? = some (tx s.simg)
      rw [h4, h3, appl_app]
      by_cases hlt : q < endp 0 Ts
      · rw [strm_snoc_lt (Nat.zero_le q) hlt] at hs
        rw [appl_off fun w hw e1 => ?_]
        · exact h.cur q s hs
        · obtain ⟨i, hi, rfl⟩ := (hW w).1 hw
          have e2 : 1 + S.pos + i = 1 + q := e1
          omega
      · have hlt2 := strm_lt hs
        rw [endp_snoc] at hlt2
        rw [strm_snoc_ge (by omega) hlt2] at hs
        injection hs with hs
        refine appl_on (by rw [appl_len, h.fl]; omega) ((hW _).2 ⟨q - endp 0 Ts, by omega, ?_⟩) fun y hy => ?_
        · rw [← hs, hnm, Nat.zero_add]
          congr 1
          omega
        · obtain ⟨i, hi, h7⟩ := (hW _).1 hy
          injection h7 with h7 h8
          have e1 : q - endp 0 Ts = i := by omega
          rw [h8, ← hs, e1, hnm, Nat.zero_add]
    · rcases List.mem_append.1 hx with hx | hx
      · exact h.ok x hx
      · rw [List.mem_singleton] at hx
        subst hx
        exact ⟨hlv, hl⟩
    · show setPg l S.pgs = _
      rw [pgAll_snoc, h.pgs]
    · show insAll (imL l) S.fr = _
      rw [frAll_snoc, h.fr]
    · show S.pos + l.length + 1 = _
      rw [endp_snoc, hp]
    · show S.num + 1 = _
      rw [List.length_append, hnm]; rfl
    · show S.pos + l.length + 1 ≤ S.size
      omega
    · rw [List.length_append]; have := h.kk; omega
    · exact absurd h0 (Nat.succ_ne_zero _)
/-- Nothing waits. -/
theorem live_settle (h : Live S b Ts k) {D : ADisk} (h1 : D.safe = appl S.D.wr S.D.safe) (h2 : D.wr = []) : Live { S with D := D, wt := 0 } b Ts Ts.length := by
  have hle := h.le
  have hp := h.pos
  have hoff : ∀ i, i = 0 ∨ 1 + S.pos ≤ i → (appl S.D.wr S.D.safe)[i]? = S.D.safe[i]? := fun i hi => appl_off fun q hq => by
    have := h.wr q hq
    omega
  refine ⟨by show D.safe.length = _; rw [h1, appl_len]; exact h.fl, by show D.safe[0]? = _; rw [h1, hoff 0 (.inl rfl)]; exact h.head, h.bl, h.bz, fun i hi => ?_, fun q hq => ?_, fun q s x hq hs hx => ?_, fun q x hq hqp hx => ?_, fun q s hs => ?_,
    h.ok, h.pgs, h.fr, h.pos, h.num, h.le, Nat.le_refl _, fun _ => rfl, h.n2, h.s2, h.ep2⟩
  · obtain ⟨t, t1, t2⟩ := h.home i hi
    refine ⟨t, t1, ?_⟩
    show D.safe[1 + S.size + i]? = _
    rw [h1, hoff _ (.inr (by omega))]; exact t2
  · replace hq : q ∈ D.wr := hq
    rw [h2] at hq; cases hq
  · replace hx : Poss D.safe D.wr (1 + q) x := hx
    left
    rw [h1, h2] at hx
    rcases hx with hx | hx
    · rw [h.cur q s hs] at hx
      injection hx with hx
      exact hx.symm
    · cases hx
  · replace hx : D.safe[1 + q]? = some x := hx
    replace hqp : S.pos ≤ q := hqp
    rw [h1, hoff _ (.inr (by omega))] at hx
    exact h.old q x hq hqp hx
  · show (appl D.wr D.safe)[1 + q]? = _
    rw [h2, h1]
    exact h.cur q s hs
theorem live_flush (h : Live S b Ts k) (he : S.ep < e) (hd : S.D.down = false) :
    ((flushM S).1 = 0 ∧ Live (flushM S).2 b Ts Ts.length ∧ (flushM S).2.D.down = false) ∨ ((flushM S).1 = 17 ∧ (flushM S).2.D.down = true ∧ Rec (flushM S).2.D S.n S.size e (Outs b Ts k)) := by
  unfold flushM
  rw [hd]
  simp only [Bool.false_eq_true, if_false]
  by_cases h0 : S.wt = 0
  · rw [if_pos h0]
    have hk := h.wt h0
    subst hk
    exact .inl ⟨rfl, h, hd⟩
  · rw [if_neg h0]
    cases hst : S.D.stop with
    | true =>
      have e1 : S.D.flu = (17, S.D.fail) := by unfold ADisk.flu; rw [hst]; rfl
      rw [e1, if_neg (show ¬ (17 : Int) = 0 by decide)]
      exact .inr ⟨rfl, rfl, (live_rec h he).fail⟩
    | false =>
      have e1 : S.D.flu = (0, S.D.go.settled) := by unfold ADisk.flu; rw [hst]; rfl
      rw [e1, if_pos rfl]
      exact .inl ⟨rfl, live_settle h rfl rfl, hd⟩
theorem mem_sortI {l : List Int} {x : Int} : x ∈ sortI l ↔ x ∈ l := (sortI_pm l).mem_iff
theorem live_ckpt (h : Live S b Ts k) (he : S.ep + 1 < e) (he2 : S.ep + 1 < 2 ^ 62) :
    ((ckptM S).1 = 0 ∧ Live (ckptM S).2 S.pgs [] 0 ∧ (ckptM S).2.D.down = false) ∨ ((ckptM S).1 = 17 ∧ (ckptM S).2.D.down = true ∧ Rec (ckptM S).2.D S.n S.size e (Outs b Ts k)) := by
  obtain ⟨c, hC, hsc⟩ := live_cur h
  have hP : Outs b Ts k S.pgs := ⟨Ts.length, h.kk, Nat.le_refl _, by rw [List.take_length]; exact h.pgs⟩
  have := ck_crash (ks := sortI (S.fr.map (·.1))) hC (fun l hl => (h.ok l hl).1) hsc h.pgs.symm (fun x => by
    rw [mem_sortI, h.fr, frAll_key]
    constructor
    · rintro (h1 | h1)
      · exact h1
      · simp at h1
    · exact .inl) (live_rec h (by omega)) hP he
  unfold ckptM
  rcases this with ⟨h1, h2, h3⟩ | ⟨h1, h2, h3⟩
  · rw [if_pos h1]
    exact .inl ⟨rfl, live_fresh h2 h.n2 h.s2 he2, h3⟩
  · rw [if_neg (by rw [h1]; decide), h1]
    exact .inr ⟨rfl, h2, h3⟩
/-- What a load comes to. -/
theorem load_crash {homes : Pgs} (hC : Cnt D.safe n size ep homes c) (hw : D.wr = []) (hok : ∀ l, l ∈ scanM c size ep (size + 1) 1 0 → AImOk n l) (hp : pgAll (scanM c size ep (size + 1) 1 0) homes = p) (he : ep + 1 < e) :
    ((ldM ep n size homes (scanM c size ep (size + 1) 1 0) D).1 = 0 ∧ Fresh (ldM ep n size homes (scanM c size ep (size + 1) 1 0) D).2 n size (ep + 1) p ∧ (ldM ep n size homes (scanM c size ep (size + 1) 1 0) D).2.down = false) ∨
    ((ldM ep n size homes (scanM c size ep (size + 1) 1 0) D).1 = 17 ∧ (ldM ep n size homes (scanM c size ep (size + 1) 1 0) D).2.down = true ∧ Rec (ldM ep n size homes (scanM c size ep (size + 1) 1 0) D).2 n size e (· = p)) := by
  have hC' : Cnt (appl D.wr D.safe) n size ep homes c := by rw [hw]; exact hC
  unfold ldM
  rw [hp]
  refine ck_crash (P := (· = p)) hC' hok rfl hp (fun x => ?_) (fun keep => ⟨p, rfl, ?_⟩) rfl he
  · rw [mem_sortI, frAll_key]
    constructor
    · rintro (h1 | h1)
      · exact h1
      · simp at h1
    · exact .inl
  · rw [hw]
    exact ⟨ep, homes, c, by omega, hC, hok, hp⟩
end Go.Abs
namespace Go.Abs
open Go
set_option linter.unusedVariables false
set_option maxRecDepth 100000
section
variable {Q : Out → Prop} {sg : Sg} {L : Hp}
/-- One more at the end of a list that is nil. -/
theorem ev_app1_nil {esz bytes : Nat} {cs : List AVal} {X : Nat × List AVal → R} {c : AVal × Sg → R} (h : Has sg L) (hc : cs.length = esz) (h0 : 0 < esz) (hb : bytes ≤ 35184372088832) (hk : ∀ b sg', Has sg' ((b, .mk cs) :: L) → Ev (c (.gs b esz 0 1, sg')) Q) :
    Ev (withO (flatG (sg ++ [.mk cs]) esz (.gs sg.length esz 0 1)) fun p => bif p.fst.beq 0 then X p else if p.fst * bytes ≤ 35184372088832 then withO (app1 none esz bytes (sg ++ [.mk cs]) (.sl true esz []) p.fst p.snd) c else none) Q := by
  have h4 := h.new (Box.mk cs)
  refine ev_O (flatG_gs (h4.at (n := 0) rfl) (by show 0 + 1 * esz ≤ cs.length; omega) (by show 0 < cs.length; omega)) ?_
  have e1 : (cs.drop 0).take (1 * esz) = cs := by rw [List.drop_zero, Nat.one_mul, ← hc, List.take_length]
  refine ev_bie rfl (ev_if (by show 1 * bytes ≤ _; omega) ?_)
  show Ev (withO (app1 none esz bytes (sg ++ [.mk cs]) (.sl true esz []) 1 ((cs.drop 0).take (1 * esz))) c) Q
  rw [e1]
  exact ev_app_nil h4 fun b sg' h5 => hk b sg' (h5.sub (.cons_cons _ (.cons _ (List.Sublist.refl _))))
/-- One more at the end of a list in a box, of the box's last k. -/
theorem ev_app1_gs {esz bytes n g o k : Nat} {cs cs0 : List AVal} {X : Nat × List AVal → R} {c : AVal × Sg → R} (h : Has sg L) (e : L[n]? = some (g, .mk cs0)) (hl : cs0.length = o + k * esz) (hk0 : 0 < cs0.length) (hc : cs.length = esz) (h0 : 0 < esz) (hb : bytes ≤ 35184372088832) (hb2 : (k + 1) * bytes ≤ 35184372088832)
    (hk : ∀ b sg', Has sg' ((b, .mk (cs0.drop o ++ cs)) :: L.set n (g, .mk [])) → Ev (c (.gs b esz 0 (k + 1), sg')) Q) (ho : o = 0 ∨ 0 < k * esz := by first | exact .inl rfl | omega) :
    Ev (withO (flatG (sg ++ [.mk cs]) esz (.gs sg.length esz 0 1)) fun p => bif p.fst.beq 0 then X p else if p.fst * bytes ≤ 35184372088832 then withO (app1 none esz bytes (sg ++ [.mk cs]) (.gs g esz o k) p.fst p.snd) c else none) Q := by
  have h4 := h.new (Box.mk cs)
  refine ev_O (flatG_gs (h4.at (n := 0) rfl) (by show 0 + 1 * esz ≤ cs.length; omega) (by show 0 < cs.length; omega)) ?_
  have e1 : (cs.drop 0).take (1 * esz) = cs := by rw [List.drop_zero, Nat.one_mul, ← hc, List.take_length]
  refine ev_bie rfl (ev_if (by show 1 * bytes ≤ _; omega) ?_)
  show Ev (withO (app1 none esz bytes (sg ++ [.mk cs]) (.gs g esz o k) 1 ((cs.drop 0).take (1 * esz))) c) Q
  rw [e1]
  refine ev_app_gso (n := n + 1) h4 (by simpa using e) hl hk0 hb2 ho fun b sg' h5 => hk b sg' ?_
  exact h5.sub (.cons_cons _ (.cons _ (List.Sublist.refl _)))
end
variable {N dp : Nat} {sg : Sg} {s d p m n k size e g : Nat} {jv : AVal} {wt : Int} {A R L H : Hp} {l : List (Int × ByteArray)} {a1 : AVal} {S : APg}
theorem jpage_any {q : Int} : Ev (tab N (dp + 1) 246 [vI q] sg) (Rt fun v _ => v = vB (decide (0 ≤ q ∧ q < 3840))) := by
  refine ev_of ((t246 ..).trans (journal_page.main ..)) ?_
  refine ev_ite (fun h => ev_ret ?_) (fun h => ev_ret ?_)
  · have h : 0 ≤ q := by simpa using h
    simp [h]
  · have h : ¬ 0 ≤ q := by simpa using h
    simp [h]
/-- Check of any images. -/
theorem jcheck_any (hI : ImH a1 l H) (hN : l.length < N) (hlen : l.length ≤ 100000) (h : Has sg R) (hs : ∀ q, q ∈ H → q ∈ R) :
    Ev (tab N (dp + 2) 139 [a1] sg) (Rt fun v sg' => Has sg' R ∧ (v = vI 18 ∧ ¬ (ImOk 3840 l ∧ l ≠ []) ∨ v = vI 0 ∧ ImOk 3840 l ∧ l ≠ [])) := by
  refine ev_of ((t139 ..).trans (journal_Check.main ..)) ?_
  refine ev_O hI.len ?_
  have h0 := h.new (Box.map [])
  generalize sg.length = g at h0 ⊢
  refine ev_loop l.length (fun i st => ∃ sg' ms, st = mkS [0, 3, 7, 8, 9] [.v a1 false, .v (.gm g) false, .v a1 false, .v (vI l.length) false, .v (vI i) false] [none, none, none, none, none] (.sg sg') ∧
    Has sg' ((g, .map (emb tV ms)) :: R) ∧ (∀ x, x ∈ ms.map (·.1) ↔ x ∈ (l.take i).map (·.1)) ∧ ImOk 3840 (l.take i)) hN ⟨_, [], rfl, h0, by simp, ⟨by simp, by simp⟩⟩ ?_
  rintro i st K hi ⟨sg1, ms, rfl, h1, hms, hok⟩ hnext hexit hret
  refine ev_of (journal_Check.r0 ..) ?_
  refine ev_ite (fun hlt => ?_) (fun hge => ?_)
  · have hlt : i < l.length := by simpa using hlt
    have hm : l[i] ∈ l := List.getElem_mem hlt
    have hno : ∀ {sg' : Sg}, Has sg' ((g, .map (emb tV ms)) :: R) → ¬ ImOk 3840 l → Ev (K .ret (mkS [2] [.v (vI 18) false] [none] (.sg sg'))) (Rt fun v sg' => Has sg' R ∧ (v = vI 18 ∧ ¬ (ImOk 3840 l ∧ l ≠ []) ∨ v = vI 0 ∧ ImOk 3840 l ∧ l ≠ [])) :=
      fun hx hne => hret _ (ev_of (journal_Check.k0_1 ..) (ev_ret ⟨hx.tail, .inl ⟨rfl, fun q => hne q.1⟩⟩))
    have htk : l.take (i + 1) = l.take i ++ [l[i]] := by rw [List.take_add_one, List.getElem?_eq_getElem hlt]; rfl
    refine ev_im hI h1 (fun q hq => List.mem_cons_of_mem _ (hs q hq)) hlt (ev_bif rfl (ev_L ?_))
    refine ev_I rfl (ev_call jpage_any rfl ?_)
    rintro _ _ rfl
    refine ev_B rfl (ev_ite (fun hp => ?_) (fun hp => ?_))
    rotate_left
    · refine hno h1 fun q => hp ?_
      have := (q.rg _ hm).1
      rw [decide_eq_true ⟨this.1, by exact_mod_cast this.2⟩]; rfl
    have hp : 0 ≤ l[i].1 ∧ l[i].1 < 3840 := by simpa using hp
    refine ev_S rfl (ev_ite (fun hz => ?_) (fun hz => ?_))
    rotate_left
    · refine hno h1 fun q => hz ?_
      have := (q.rg _ hm).2
      simp [this]
    have hz : l[i].2.size = 480 := by
      have : (l[i].2.size : Int) = 480 := by simpa using hz
      omega
    refine ev_I rfl (ev_A rfl ?_)
    refine ev_map h1 0 rfl ?_
    refine ev_O (mGet_emb tV ..) ?_
    by_cases hin : l[i].1 ∈ ms.map (·.1)
    · have hne : lk l[i].1 ms ≠ none := fun q => lk_none.1 q hin
      obtain ⟨u, hu⟩ := Option.ne_none_iff_exists'.1 hne
      rw [hu]
      refine ev_A rfl (ev_B (a := true) rfl (ev_if rfl ?_))
      refine hno h1 fun q => ?_
      rw [hms] at hin
      have hnd := q.nd
      rw [← List.take_append_drop (i + 1) l, List.map_append, htk, List.map_append] at hnd
      have := (List.nodup_append.1 (List.nodup_append.1 hnd).1).2.2 _ hin l[i].1 (by simp)
      exact this rfl
    · rw [lk_none.2 hin]
      refine ev_A rfl (ev_B rfl (ev_else (by decide) ?_))
      refine ev_I rfl (ev_A rfl ?_)
      refine ev_map h1 0 rfl ?_
      refine ev_O (mSet_emb tV _ () _) ?_
      rw [i64_nat (by omega)]
      refine hnext _ hlt ⟨_, _, rfl, h1.put (n := 0) _ rfl, fun x => ?_, ⟨?_, fun q hq => ?_⟩⟩
      · rw [htk, List.map_append, keys_ins, hms, List.mem_append, List.map_singleton, List.mem_singleton, or_comm]
      · rw [htk, List.map_append, List.nodup_append]
        refine ⟨hok.nd, by simp, fun x hx y hy => ?_⟩
        rw [List.map_singleton, List.mem_singleton] at hy
        subst hy
        rintro rfl
        exact hin ((hms _).2 hx)
      · rw [htk, List.mem_append, List.mem_singleton] at hq
        rcases hq with hq | rfl
        · exact hok.rg q hq
        · exact ⟨⟨hp.1, by have := hp.2; exact_mod_cast this⟩, hz⟩
  · have hge : i = l.length := by
      have : l.length ≤ i := by simpa using hge
      omega
    subst hge
    rw [List.take_length] at hok
    refine hexit _ _ ?_
    refine ev_of (journal_Check.k0_2 ..) ?_
    refine ev_O hI.len (ev_ite (fun h0 => ?_) (fun h0 => ?_))
    · have h0 : l = [] := List.eq_nil_of_length_eq_zero (by simpa using h0)
      exact ev_ret ⟨h1.tail, .inl ⟨rfl, fun q => q.2 h0⟩⟩
    · exact ev_ret ⟨h1.tail, .inr ⟨rfl, hok, fun q => h0 (by simp [q])⟩⟩
theorem has1_any {g i j : Nat} {a : Int} {t : ByteArray} (h : Has sg L) (e1 : L[j]? = some (g, .mk [.gp s 0])) (e : L[i]? = some (s, stB d size p n m jv wt)) :
    Ev (tab N (dp + 1) 248 [.agg [vI a, vS t], .gp g 0] sg) (Rt fun v sg' => v = vB (decide ((n : Int) ≤ a)) ∧ sg' = sg) := by
  refine ev_of ((t248 ..).trans (pages_Store_has_1.main ..)) ?_
  refine ev_I rfl ?_
  refine ev_ldA h j e1 rfl (ev_O (a := .gp s 0) rfl (ev_O (a := .gp s 2) rfl ?_))
  exact ev_ldA h i e rfl (ev_O (a := n) rfl (ev_ret ⟨rfl, rfl⟩))
theorem sthas_any {i : Nat} (hI : ImH a1 l H) (hH : ∀ q, q ∈ H → q ∈ L) (h : Has sg L) (e : L[i]? = some (s, stB d size p n m jv wt)) (hN : l.length < N) (hlen : l.length ≤ 100000) :
    Ev (tab N (dp + 4) 140 [.gp s 0, a1] sg) (Rt fun v sg' => Has sg' L ∧ (v = vB true ∧ (∀ q, q ∈ l → q.1 < (n : Int)) ∨ v = vB false ∧ ¬ ∀ q, q ∈ l → q.1 < (n : Int))) := by
  refine ev_of ((t140 ..).trans (pages_Store_has.main ..)) (ev_A hI.plain ?_)
  have h0 := h.new (.mk [.gp s 0])
  generalize sg.length = g at h0 ⊢
  refine ev_call (φ := fun v sg' => Has sg' L ∧ (v = vB false ∧ (∀ q, q ∈ l → q.1 < (n : Int)) ∨ v = vB true ∧ ¬ ∀ q, q ∈ l → q.1 < (n : Int))) ?_ rfl ?_
  · refine ev_of ((t247 ..).trans (slices_ContainsFunc_journal_Image_journal_Image.main ..)) (ev_A hI.plain ?_)
    refine ev_call (φ := fun v sg' => Has sg' L ∧ (v = vI (-1) ∧ (∀ q, q ∈ l → q.1 < (n : Int)) ∨ (∃ j : Nat, v = vI j) ∧ ¬ ∀ q, q ∈ l → q.1 < (n : Int))) ?_ rfl ?_
    · refine ev_of ((t334 ..).trans (slices_IndexFunc_journal_Image_journal_Image.main ..)) ?_
      refine ev_O hI.len ?_
      refine ev_loop l.length (fun i st => ∃ sg', st = mkS [0, 1, 7, 8] [.v a1 false, .v (.clo 248 [] [.gp g 0]) false, .v (vI l.length) false, .v (vI i) false] [none, none, none, none] (.sg sg') ∧ Has sg' ((g, .mk [.gp s 0]) :: L) ∧ ∀ q, q ∈ l.take i → q.1 < (n : Int)) hN ⟨_, rfl, h0, by simp⟩ ?_
      rintro i2 st K hi ⟨sg1, rfl, h1, hall⟩ hnext hexit hret
      refine ev_of (slices_IndexFunc_journal_Image_journal_Image.r0 ..) ?_
      refine ev_ite (fun hlt => ?_) (fun hge => ?_)
      · have hlt : i2 < l.length := by simpa using hlt
        refine ev_im hI h1 (fun q hq => List.mem_cons_of_mem _ (hH q hq)) hlt ?_
        refine ev_call (f := 248) (has1_any (j := 0) (i := i + 1) h1 rfl e) rfl ?_
        rintro _ _ ⟨rfl, rfl⟩
        refine ev_B rfl (ev_ite (fun hb => ?_) (fun hb => ?_))
        · have hb : (n : Int) ≤ l[i2].1 := of_decide_eq_true hb
          refine hret _ (ev_of (slices_IndexFunc_journal_Image_journal_Image.k0_1 ..) (ev_ret ⟨h1.tail, .inr ⟨⟨i2, rfl⟩, fun q => ?_⟩⟩))
          have := q _ (List.getElem_mem hlt)
          omega
        · rw [i64_nat (by omega)]
          refine hnext _ hlt ⟨_, rfl, h1, fun q hq => ?_⟩
          rw [List.take_add_one, List.getElem?_eq_getElem hlt, List.mem_append] at hq
          rcases hq with hq | hq
          · exact hall q hq
          · simp at hq
            subst hq
            have hb : ¬ (n : Int) ≤ l[i2].1 := fun q => hb (decide_eq_true q)
            omega
      · have hge : i2 = l.length := by
          have : l.length ≤ i2 := by simpa using hge
          omega
        subst hge
        rw [List.take_length] at hall
        refine hexit _ _ ?_
        exact ev_of (slices_IndexFunc_journal_Image_journal_Image.k0_2 ..) (ev_ret ⟨h1.tail, .inl ⟨rfl, hall⟩⟩)
    · rintro _ sg1 ⟨h1, ⟨rfl, ha⟩ | ⟨⟨j, rfl⟩, ha⟩⟩
      · exact ev_I rfl (ev_ret ⟨h1, .inl ⟨rfl, ha⟩⟩)
      · refine ev_I rfl (ev_ret ⟨h1, .inr ⟨?_, ha⟩⟩)
        rw [decide_eq_true (by omega)]
  · rintro _ sg1 ⟨h1, ⟨rfl, ha⟩ | ⟨rfl, ha⟩⟩
    · exact ev_B rfl (ev_ret ⟨h1, .inl ⟨rfl, ha⟩⟩)
    · exact ev_B rfl (ev_ret ⟨h1, .inr ⟨rfl, ha⟩⟩)
theorem imOk_lift {n : Nat} (h : ImOk n l) : ∃ l', l = imL l' ∧ AImOk n l' := by
  have e : l = imL (l.map fun q => (q.1.toNat, q.2.data.toList)) := by
    apply List.ext_getElem?
    intro i
    simp only [imL, List.getElem?_map]
    cases hx : l[i]? with
    | none => rfl
    | some q =>
      have := (h.rg q (List.mem_of_getElem? hx)).1
      simp only [Option.map_some]
      congr 1
      refine Prod.ext ?_ ?_
      · show q.1 = ((q.1.toNat : Nat) : Int); omega
      · show q.2 = tx q.2.data.toList
        cases q.2; rfl
  refine ⟨_, e, ?_, fun q hq => ?_⟩
  · have h2 := h.nd
    rw [e] at h2
    have e2 : (imL (l.map fun q => (q.1.toNat, q.2.data.toList))).map (·.1) = ((l.map fun q => (q.1.toNat, q.2.data.toList)).map (·.1)).map (fun x : Nat => (x : Int)) := by
      simp [imL]
    rw [e2] at h2
    exact (List.pairwise_map.1 h2).imp fun hab he => hab (by rw [he])
  · obtain ⟨q0, hq0, rfl⟩ := List.mem_map.1 hq
    have := h.rg q0 hq0
    refine ⟨?_, ?_⟩
    · show q0.1.toNat < n; omega
    · show q0.2.data.toList.length = 480
      rw [Array.length_toList]; exact this.2
/-- Commit of any images. -/
theorem commit_any (hI : ImH a1 l H) (hH : ∀ q, q ∈ H → q ∈ R) (hA : StE s d g S A) (hS : SOk k e S) (h : Has sg (A ++ R)) (hlen : l.length ≤ 10000) (hk : k ≤ 5000) (he : e < 2 ^ 62) (hN : 1000000 < N) :
    Ev (tab N (dp + 7) 32 [.gp s 0, a1] sg) (Rt fun v sg' => (v = vI 18 ∧ ¬ (ImOk S.n l ∧ l ≠ []) ∧ Has sg' (A ++ R)) ∨
      ∃ l', l = imL l' ∧ AImOk S.n l' ∧ l' ≠ [] ∧ v = vI (commitM l' S).1 ∧ ∃ A', StE s d g (commitM l' S).2 A' ∧ Has sg' (A' ++ R)) := by
  by_cases hv : ImOk S.n l ∧ l ≠ []
  · obtain ⟨l', e1, e2⟩ := imOk_lift hv.1
    have hne : l' ≠ [] := fun q => hv.2 (by rw [e1, q]; rfl)
    subst e1
    refine (commit_eq hI hH hA hS h e2 hne hk he hN).imt ?_
    rintro v sg' ⟨h1, h2⟩
    exact .inr ⟨l', rfl, e2, hne, h1, h2⟩
  · have hA0 := hA
    obtain ⟨p, m, j, w, rfl⟩ := hA
    refine ev_of ((t32 ..).trans (pages_Store_Commit.main ..)) (ev_if (by decide) (ev_A hI.plain ?_))
    refine ev_call (jcheck_any hI (by omega) (by omega) h (fun q hq => by simp [hH q hq])) rfl ?_
    rintro v sg1 ⟨h1, ⟨rfl, hx⟩ | ⟨rfl, hx1, hx2⟩⟩
    · exact ev_I rfl (ev_else (by decide) (ev_ret (.inl ⟨rfl, hv, h1⟩)))
    · refine ev_I rfl (ev_if rfl (ev_A hI.plain ?_))
      refine ev_call (sthas_any (i := 0) hI (fun q hq => by simp [hH q hq]) h1 rfl (by omega) (by omega)) rfl ?_
      rintro v sg2 ⟨h2, ⟨rfl, hy⟩ | ⟨rfl, hy⟩⟩
      · exact absurd ⟨⟨hx1.nd, fun q hq => ⟨⟨(hx1.rg q hq).1.1, hy q hq⟩, (hx1.rg q hq).2⟩⟩, hx2⟩ hv
      · exact ev_B rfl (ev_if rfl (ev_ret (.inl ⟨rfl, hv, h2⟩)))
end Go.Abs
namespace Go.Abs
open Go
set_option linter.unusedVariables false
set_option maxRecDepth 100000
/-- A list of structs, as it comes in. -/
def LsV (sz : Nat) (a : AVal) (l : List (List AVal)) : Prop := (∃ nn, a = .sl nn sz (l.map .agg)) ∨ (l = [] ∧ ∃ x cap, a = .at (.slice (some x) 0 cap))
theorem LsV.len {sz : Nat} {a : AVal} {l : List (List AVal)} (h : LsV sz a l) : lenV a = some l.length := by
  rcases h with ⟨nn, rfl⟩ | ⟨rfl, x, cap, rfl⟩
  · simp [lenV]
  · rfl
theorem LsV.plain {sz : Nat} {a : AVal} {l : List (List AVal)} (h : LsV sz a l) : plainA a = some a := by
  rcases h with ⟨nn, rfl⟩ | ⟨rfl, x, cap, rfl⟩ <;> rfl
theorem ev_ls {Q : Out → Prop} {sg : Sg} {m : Nat} {a : AVal} {l : List (List AVal)} {i : Nat} {cs : List AVal} {c : List AVal → Option Out} (hI : LsV m a l) (hi : l[i]? = some cs) (hm : cs.length = m) (h : Ev (c cs) Q) :
    Ev (withO (elemV m ((i : Nat) : Int) a) fun r => withO (loadC none sg r) fun p => bif (p.snd + m).ble p.fst.length then bindL (List.take m (List.drop p.snd p.fst)) c else none) Q := by
  rcases hI with ⟨nn, rfl⟩ | ⟨rfl, x, cap, rfl⟩
  · exact ev_elemS (by omega) (by simp [hi]) hm rfl h
  · simp at hi
def pgT (b : Int) : ByteArray := ⟨⟨List.replicate 480 (UInt8.ofNat b.toNat)⟩⟩
theorem pgT_size (b : Int) : (pgT b).size = 480 := by
  show (List.replicate 480 (UInt8.ofNat b.toNat)).toArray.size = 480
  simp
variable {N dp : Nat} {sg : Sg} {s d p m n k size e g : Nat} {jv : AVal} {wt : Int} {A R L H : Hp}
theorem page_ok {b : Int} : Ev (tab N (dp + 1) 24 [v8 b] sg) (Rt fun v _ => v = vS (pgT b)) := by
  refine ev_of (t24 ..) ?_
  exact ev_ret rfl
theorem pread_ok {i i2 : Nat} {a : Int} {pgs : List (List UInt8)} (h : Has sg L) (e1 : L[i]? = some (s, stB d size p n m jv wt)) (e2 : L[i2]? = some (p, pgB pgs)) (hpl : pgs.length = n) :
    Ev (tab N (dp + 2) 31 [.gp s 0, vI a] sg) (Rt fun v sg' => v = (if 0 ≤ a ∧ a < n then .tup [vS (tx (pgs.getD a.toNat [])), vI 0] else .tup [vS ⟨#[]⟩, vI 18]) ∧ sg' = sg) := by
  refine ev_of ((t31 ..).trans (pages_Store_Read.main ..)) ?_
  refine ev_ite (fun h1 => ?_) (fun h1 => ev_ret ⟨?_, rfl⟩)
  · have h1 : 0 ≤ a := by simpa using h1
    refine ev_call (pages_ok (i := i) h e1) rfl ?_
    rintro _ _ ⟨rfl, rfl⟩
    refine ev_I rfl (ev_ite (fun h2 => ev_ret ⟨?_, rfl⟩) (fun h2 => ?_))
    · have h2 : (n : Int) ≤ a := by simpa using h2
      rw [if_neg (by omega)]
    · have h2 : a < n := by simpa using h2
      obtain ⟨b, rfl⟩ : ∃ b : Nat, a = b := ⟨a.toNat, by omega⟩
      rw [if_pos ⟨h1, h2⟩]
      refine ev_ldA h i e1 rfl (ev_elem h1 h2 ?_)
      refine ev_ldS h i2 e2 (a := tx (pgs.getD b [])) ?_ (ev_ret ⟨by simp, rfl⟩)
      simp [List.getElem?_eq_getElem (show b < pgs.length by omega)]
  · have h1 : ¬ 0 ≤ a := by simpa using h1
    rw [if_neg (by omega)]
theorem take_snocT {l : List (List UInt8)} {i : Nat} (h : i < l.length) : ((l.take (i + 1)).map tx).map vS = ((l.take i).map tx).map vS ++ [vS (tx l[i])] := by
  rw [List.take_add_one, List.getElem?_eq_getElem h, List.map_append, List.map_append]; rfl
/-- The texts of a store, as a new list. -/
theorem texts_eq {i i2 : Nat} {pgs : List (List UInt8)} (h : Has sg L) (e1 : L[i]? = some (s, stB d size p n m jv wt)) (e2 : L[i2]? = some (p, pgB pgs)) (hpl : pgs.length = n) (h1 : 1 ≤ n) (h2 : n ≤ 3840) (hN : 5000 < N) :
    Ev (tab N (dp + 3) 44 [.gp s 0] sg) (Rt fun v sg' => ∃ t, v = .gs t 1 0 n ∧ Has sg' ((t, pgB pgs) :: L)) := by
  refine ev_of ((t44 ..).trans (law09_texts.main ..)) ?_
  refine ev_call (pages_ok (N := N) (dp := dp + 1) (i := i) h e1) rfl ?_
  rintro _ _ ⟨rfl, rfl⟩
  refine ev_I rfl ?_
  refine ev_loop n (fun j st => (j = 0 ∧ ∃ sg', st = mkS [0, 3, 8, 9] [.v (.gp s 0) false, .v (.sl true 1 []) true, .v (vI n) false, .v (vI 0) false] [none, none, none, none] (.sg sg') ∧ Has sg' L) ∨
    (0 < j ∧ ∃ sg' t, st = mkS [0, 3, 8, 9] [.v (.gp s 0) false, .v (.gs t 1 0 j) false, .v (vI n) false, .v (vI j) false] [none, none, none, none] (.sg sg') ∧ Has sg' ((t, pgB (pgs.take j)) :: L))) (by omega) (.inl ⟨rfl, _, rfl, h⟩) ?_
  rintro j st K hj hst hnext hexit hret
  have hval : ∀ {i : Nat} (hi : i < n), (pgs.getD ((i : Nat) : Int).toNat []) = pgs[i] := fun hi => by
    rw [Int.toNat_natCast, List.getD_eq_getElem?_getD, List.getElem?_eq_getElem (by omega)]; rfl
  rcases hst with ⟨rfl, sg1, rfl, h3⟩ | ⟨hj0, sg1, t, rfl, h3⟩
  · refine ev_of (law09_texts.r0 ..) (ev_if (by simp; omega) ?_)
    refine ev_call (pread_ok (N := N) (dp := dp) (a := ((0 : Nat) : Int)) h3 e1 e2 hpl) rfl ?_
    rintro _ _ ⟨rfl, rfl⟩
    rw [if_pos ⟨by omega, by omega⟩]
    refine ev_T (ev_bif rfl (ev_S rfl (ev_I rfl (ev_bif rfl ?_))))
    refine ev_app1_nil h3 rfl (by decide) (by decide) fun b sg' h4 => ?_
    refine hnext _ (by omega) (.inr ⟨by omega, sg', b, rfl, ?_⟩)
    rw [hval (show 0 < n by omega)] at h4
    have e3 : pgB (pgs.take 1) = .mk [vS (tx (pgs[0]'(by omega)))] := by
      show Box.mk (((pgs.take (0 + 1)).map tx).map vS) = _
      rw [take_snocT (by omega)]; rfl
    rw [e3]; exact h4
  · refine ev_of (law09_texts.r0_2 ..) (ev_ite (fun hlt => ?_) (fun hge => ?_))
    · have hlt : j < n := by simpa using hlt
      refine ev_call (pread_ok (N := N) (dp := dp) (i := i + 1) (i2 := i2 + 1) (a := ((j : Nat) : Int)) h3 (by simpa using e1) (by simpa using e2) hpl) rfl ?_
      rintro _ _ ⟨rfl, rfl⟩
      rw [if_pos ⟨by omega, by omega⟩]
      refine ev_T (ev_bif rfl (ev_S rfl (ev_I rfl (ev_bif rfl ?_))))
      refine ev_app1_gs (n := 0) h3 rfl (by simp; omega) (by simp; omega) rfl (by decide) (by decide) (by omega) fun b sg' h4 => ?_
      rw [i64_nat (by omega)]
      refine hnext _ hlt (.inr ⟨by omega, sg', b, rfl, ?_⟩)
      rw [hval hlt] at h4
      have e3 : pgB (pgs.take (j + 1)) = .mk ((((pgs.take j).map tx).map vS).drop 0 ++ [vS (tx (pgs[j]'(by omega)))]) := by
        show Box.mk (((pgs.take (j + 1)).map tx).map vS) = _
        rw [take_snocT (by omega), List.drop_zero]
      rw [e3]
      exact h4.sub (.cons_cons _ (.cons _ (List.Sublist.refl _)))
    · have hge : j = n := by
        have : n ≤ j := by simpa using hge
        omega
      subst hge
      refine hexit _ _ (ev_of (law09_texts.k0_2 ..) (ev_A rfl (ev_ret ⟨t, rfl, ?_⟩)))
      rw [List.take_of_length_le (by omega)] at h3
      exact h3
theorem strT_at {l : List (List UInt8)} {i : Nat} (h : i < l.length) : ((l.map tx).map vS)[0 + ((i : Nat) : Int).toNat * 1]? = some (vS (tx l[i])) := by simp [List.getElem?_eq_getElem h]
theorem same_eq {i j g1 g2 : Nat} {p1 p2 : List (List UInt8)} (hh : Has sg L) (e1 : L[i]? = some (g1, pgB p1)) (e2 : L[j]? = some (g2, pgB p2)) (hl : p1.length = n) (hl2 : p2.length = n) (hN : n < N) (hn : n ≤ 100000) :
    Ev (tab N (dp + 1) 28 [.gs g1 1 0 n, .gs g2 1 0 n] sg) (Rt fun v sg' => (∃ b, v = vB b ∧ (p1 = p2 → b = true)) ∧ sg' = sg) := by
  refine ev_of ((t28 ..).trans (ref03_Same.main ..)) (ev_O (a := n) rfl (ev_O (a := n) rfl (ev_else (by simp) ?_)))
  refine ev_loop n (fun i st => st = mkS [0, 1, 5] [.v (.gs g1 1 0 n) false, .v (.gs g2 1 0 n) false, .v (vI i) false] [none, none, none] (.sg sg)) hN rfl ?_
  rintro x st K hi rfl hnext hexit hret
  refine ev_of (ref03_Same.r0 ..) (ev_O (a := n) rfl (ev_ite (fun hlt => ?_) (fun hge => ?_)))
  · have hlt : x < n := by
      have : (x : Int) < n := by simpa using hlt
      omega
    refine ev_elem (by omega) (by omega) (ev_ldS hh i e1 (strT_at (by omega)) ?_)
    refine ev_elem (by omega) (by omega) (ev_ldS hh j e2 (strT_at (by omega)) ?_)
    refine ev_ite (fun hne => ?_) (fun heq => ?_)
    · refine hret _ (ev_of (ref03_Same.k0_1 ..) (ev_ret ⟨⟨false, rfl, fun he => ?_⟩, rfl⟩))
      subst he
      rw [eqT_iff.2 rfl] at hne
      cases hne
    · rw [i64_nat (by omega)]
      exact hnext _ hlt rfl
  · refine hexit _ _ ?_
    exact ev_of (ref03_Same.k0_2 ..) (ev_ret ⟨⟨true, rfl, fun _ => rfl⟩, rfl⟩)
/-- A put, as it comes in. -/
structure PPut where
  page : Int
  byte : Int
  short : Bool
def putC (a : PPut) : List AVal := [vI a.page, v8 a.byte, vB a.short]
def putT (a : PPut) : ByteArray := if a.short = true then cutS (pgT a.byte) 1 480 else pgT a.byte
def putI (l : List PPut) : List (Int × ByteArray) := l.map fun a => (a.page, putT a)
theorem putI_len (l : List PPut) : (putI l).length = l.length := List.length_map ..
theorem flatI_take {l : List (Int × ByteArray)} {j : Nat} (h : j < l.length) : flatI (l.take (j + 1)) = flatI (l.take j) ++ [vI l[j].1, vS l[j].2] := by
  rw [List.take_add_one, List.getElem?_eq_getElem h]; exact flatI_app ..
/-- A list of images that grows in a loop: nil, or in a box. -/
inductive ImSt (L : Hp) (l : List (Int × ByteArray)) (x : Nat) (a : AVal) (n : Nat) : Nat → St → Prop
  | zero {sg' : Sg} (h : Has sg' L) : ImSt L l x a n 0 (mkS [3, x, x + 1, x + 2] [.v (.sl true 2 []) true, .v a false, .v (vI n) false, .v (vI 0) false] [none, none, none, none] (.sg sg'))
  | some {sg' : Sg} {b j : Nat} (hj : 0 < j) (h : Has sg' ((b, .mk (flatI (l.take j))) :: L)) : ImSt L l x a n j (mkS [3, x, x + 1, x + 2] [.v (.gs b 2 0 j) false, .v a false, .v (vI n) false, .v (vI j) false] [none, none, none, none] (.sg sg'))
theorem flatI_len2 (l : List (Int × ByteArray)) : (flatI l).length = 2 * l.length := flatI_len l
theorem images_eq {a : AVal} {l : List PPut} (ha : LsV 3 a (l.map putC)) (h : Has sg L) (hl : l.length ≤ 10000) (hN : 1000000 < N) :
    Ev (tab N (dp + 2) 45 [a] sg) (Rt fun v sg' => ∃ H, ImH v (putI l) H ∧ Has sg' (H ++ L)) := by
  have hal := ha.len
  rw [List.length_map] at hal
  have hpl := putI_len l
  refine ev_of ((t45 ..).trans (law08_Images.main ..)) (ev_O hal ?_)
  refine ev_loop l.length (fun j st => ImSt L (putI l) 7 a l.length j st) (by omega) (.zero h) ?_
  rintro j st K hj hst hnext hexit hret
  have hat : ∀ {j : Nat} (hlt : j < l.length), (l.map putC)[j]? = some (putC l[j]) := fun hlt => by rw [List.getElem?_map, List.getElem?_eq_getElem hlt]; rfl
  have hpi : ∀ {j : Nat} (hlt : j < l.length), (putI l)[j]'(by omega) = (l[j].page, putT l[j]) := fun hlt => by simp [putI]
  cases hst with
  | @zero sg1 h1 =>
    refine ev_of (law08_Images.r0 ..) (ev_ite (fun hlt => ?_) (fun hge => ?_))
    · have hlt : 0 < l.length := by simpa using hlt
      have hdone : ∀ {b sg'}, Has sg' ((b, .mk [vI l[0].page, vS (putT l[0])]) :: L) → Ev (K .normal (mkS [3, 7, 8, 9] [.v (.gs b 2 0 1) false, .v a false, .v (vI l.length) false, .v (vI (0 + 1 : Nat)) false] [none, none, none, none] (.sg sg'))) _ := fun {b sg'} h4 => by
        refine hnext _ hlt (.some (by omega) ?_)
        rw [flatI_take (by omega), hpi hlt]
        exact h4
      refine ev_ls ha (hat hlt) rfl (ev_bif rfl (ev_L2 (l' := putC l[0]) rfl (ev_I rfl (ev_call page_ok rfl ?_))))
      rintro _ _ rfl
      refine ev_S rfl (ev_B rfl ?_)
      have hz := pgT_size l[0].byte
      cases hsh : l[0].short with
      | true =>
        refine ev_if rfl (ev_if ⟨by omega, by omega, by omega⟩ (ev_I rfl (ev_bif rfl ?_)))
        refine ev_app1_nil h1 rfl (by decide) (by decide) fun b sg' h4 => hdone ?_
        have e2 : putT l[0] = cutS (pgT l[0].byte) (Int.toNat 1) (((pgT l[0].byte).size : Int)).toNat := by unfold putT; rw [if_pos hsh, hz]; rfl
        rw [e2]; exact h4
      | false =>
        refine ev_else (by decide) (ev_I rfl (ev_bif rfl ?_))
        refine ev_app1_nil h1 rfl (by decide) (by decide) fun b sg' h4 => hdone ?_
        have e2 : putT l[0] = pgT l[0].byte := by unfold putT; rw [if_neg (by rw [hsh]; decide)]
        rw [e2]; exact h4
    · have hge : l.length = 0 := by
        have : ¬ 0 < l.length := by simpa using hge
        omega
      have hnil : l = [] := List.eq_nil_of_length_eq_zero hge
      subst hnil
      exact hexit _ _ (ev_of (law08_Images.k0_1 ..) (ev_ret ⟨[], .inl ⟨true, rfl, rfl⟩, h1⟩))
  | @some sg1 b0 j hj0 h1 =>
    refine ev_of (law08_Images.r0_2 ..) (ev_ite (fun hlt => ?_) (fun hge => ?_))
    · have hlt : j < l.length := by simpa using hlt
      have hfl : (flatI ((putI l).take j)).length = 0 + j * 2 := by rw [flatI_len2, List.length_take]; omega
      have hdone : ∀ {b sg'}, Has sg' ((b, .mk ((flatI ((putI l).take j)).drop 0 ++ [vI l[j].page, vS (putT l[j])])) :: List.set ((b0, .mk (flatI ((putI l).take j))) :: L) 0 (b0, .mk [])) → Ev (K .normal (mkS [3, 7, 8, 9] [.v (.gs b 2 0 (j + 1)) false, .v a false, .v (vI l.length) false, .v (vI (j + 1 : Nat)) false] [none, none, none, none] (.sg sg'))) _ := fun {b sg'} h4 => by
        refine hnext _ hlt (.some (by omega) ?_)
        rw [flatI_take (by omega), hpi hlt]
        exact h4.sub (.cons_cons _ (.cons _ (List.Sublist.refl _)))
      refine ev_ls ha (hat hlt) rfl (ev_bif rfl (ev_L2 (l' := putC l[j]) rfl (ev_I rfl (ev_call page_ok rfl ?_))))
      rintro _ _ rfl
      refine ev_S rfl (ev_B rfl ?_)
      have hz := pgT_size l[j].byte
      rw [i64_nat (by omega)]
      cases hsh : l[j].short with
      | true =>
        refine ev_if rfl (ev_if ⟨by omega, by omega, by omega⟩ (ev_I rfl (ev_bif rfl ?_)))
        refine ev_app1_gs (n := 0) h1 rfl hfl (by omega) rfl (by decide) (by decide) (by omega) fun b sg' h4 => hdone ?_
        have e2 : putT l[j] = cutS (pgT l[j].byte) (Int.toNat 1) (((pgT l[j].byte).size : Int)).toNat := by unfold putT; rw [if_pos hsh, hz]; rfl
        rw [e2]; exact h4
      | false =>
        refine ev_else (by decide) (ev_I rfl (ev_bif rfl ?_))
        refine ev_app1_gs (n := 0) h1 rfl hfl (by omega) rfl (by decide) (by decide) (by omega) fun b sg' h4 => hdone ?_
        have e2 : putT l[j] = pgT l[j].byte := by unfold putT; rw [if_neg (by rw [hsh]; decide)]
        rw [e2]; exact h4
    · have hge : j = l.length := by
        have : l.length ≤ j := by simpa using hge
        omega
      subst hge
      rw [← hpl, List.take_length] at h1
      exact hexit _ _ (ev_of (law08_Images.k0_2 ..) (ev_A rfl (ev_ret ⟨[(b0, .mk (flatI (putI l)))], .inr ⟨b0, by rw [hpl], rfl⟩, h1⟩)))
theorem ours_eq {a : AVal} {l : List (Int × ByteArray)} {H : Hp} (hI : ImH a l H) (hs : ∀ q, q ∈ H → q ∈ L) (h : Has sg L) (hl : l.length ≤ 10000) (hN : 1000000 < N) :
    Ev (tab N (dp + 1) 46 [a] sg) (Rt fun v sg' => ∃ H', ImH v l H' ∧ Has sg' (H' ++ L)) := by
  refine ev_of ((t46 ..).trans (law08_Ours.main ..)) (ev_O hI.len ?_)
  refine ev_loop l.length (fun j st => ImSt L l 6 a l.length j st) (by omega) (.zero h) ?_
  rintro j st K hj hst hnext hexit hret
  cases hst with
  | @zero sg1 h1 =>
    refine ev_of (law08_Ours.r0 ..) (ev_ite (fun hlt => ?_) (fun hge => ?_))
    · have hlt : 0 < l.length := by simpa using hlt
      refine ev_im hI h1 hs hlt (ev_bif rfl (ev_L2 (l' := [vI l[0].1, vS l[0].2]) rfl (ev_I rfl (ev_S rfl (ev_bif rfl ?_)))))
      refine ev_app1_nil h1 rfl (by decide) (by decide) fun b sg' h4 => ?_
      refine hnext _ hlt (.some (by omega) ?_)
      rw [flatI_take hlt]
      exact h4
    · have hge : l.length = 0 := by
        have : ¬ 0 < l.length := by simpa using hge
        omega
      have hnil : l = [] := List.eq_nil_of_length_eq_zero hge
      subst hnil
      exact hexit _ _ (ev_of (law08_Ours.k0_1 ..) (ev_ret ⟨[], .inl ⟨true, rfl, rfl⟩, h1⟩))
  | @some sg1 b0 j hj0 h1 =>
    refine ev_of (law08_Ours.r0_2 ..) (ev_ite (fun hlt => ?_) (fun hge => ?_))
    · have hlt : j < l.length := by simpa using hlt
      have hfl : (flatI (l.take j)).length = 0 + j * 2 := by rw [flatI_len2, List.length_take]; omega
      refine ev_im hI h1 (fun q hq => by simp [hs q hq]) hlt (ev_bif rfl (ev_L2 (l' := [vI l[j].1, vS l[j].2]) rfl (ev_I rfl (ev_S rfl (ev_bif rfl ?_)))))
      rw [i64_nat (by omega)]
      refine ev_app1_gs (n := 0) h1 rfl hfl (by omega) rfl (by decide) (by decide) (by omega) fun b sg' h4 => ?_
      refine hnext _ hlt (.some (by omega) ?_)
      rw [flatI_take hlt]
      exact h4.sub (.cons_cons _ (.cons _ (List.Sublist.refl _)))
    · have hge : j = l.length := by
        have : l.length ≤ j := by simpa using hge
        omega
      subst hge
      rw [List.take_length] at h1
      exact hexit _ _ (ev_of (law08_Ours.k0_2 ..) (ev_A rfl (ev_ret ⟨[(b0, .mk (flatI l))], .inr ⟨b0, rfl, rfl⟩, h1⟩)))
end Go.Abs
namespace Go.Abs
open Go
set_option linter.unusedVariables false
set_option maxRecDepth 100000
variable {N dp : Nat} {sg : Sg} {s d p m n k size e g w : Nat} {jv : AVal} {wt : Int} {A R L H : Hp} {D : ADisk}
def newD (n : Nat) : ADisk := ⟨List.replicate n (zeros 512), [], 0, false, 0⟩
theorem new_eq (h : Has sg R) (h1 : 1 ≤ n) (h2 : n ≤ 4865) (hN : 5000 < N) :
    Ev (tab N (dp + 4) 43 [vI n] sg) (Rt fun v sg' => ∃ d g, v = .tup [.gp d 0, vI 0] ∧ Has sg' (dkH d g 2 (newD n) ++ R)) := by
  refine ev_of ((t43 ..).trans (disk_New.main ..)) ?_
  refine ev_if (by simp <;> omega) (ev_else (by simp <;> omega) ?_)
  refine ev_call blank_ok rfl ?_
  rintro _ _ rfl
  refine ev_S rfl (ev_bif rfl ?_)
  refine ev_call (repeat_ok (h.new _) h1 (by omega) hN) rfl ?_
  rintro _ sg1 ⟨g, rfl, h3⟩
  refine ev_A rfl (ev_bif rfl (ev_L (ev_ret ?_)))
  refine ⟨sg1.length, g, rfl, ?_⟩
  have h4 := h3.new (dkB g 2 (newD n))
  have e1 : dkB g 2 (newD n) = .mk [.gs g 1 0 n, .sl true 2 [], vI 0, vB false, vI 0] := by simp [dkB, wrV, newD]
  have e2 : dkH sg1.length g 2 (newD n) ++ R = (sg1.length, dkB g 2 (newD n)) :: (g, .mk (List.replicate n (vS (zeros 512)))) :: R := by
    simp [dkH, wrH, newD]
  rw [e2]
  rw [e1] at h4 ⊢
  exact h4
/-- A disk on which nothing but blank sectors were written. -/
structure Zer (n : Nat) (D : ADisk) : Prop where
  safe : D.safe = List.replicate n (zeros 512)
  wr : ∀ q, q ∈ D.wr → q.1 < n ∧ q.2 = zeros 512
  calm : Calm D
theorem appl_zer : ∀ {W : List (Nat × ByteArray)} {n : Nat}, (∀ q, q ∈ W → q.1 < n ∧ q.2 = zeros 512) → appl W (List.replicate n (zeros 512)) = List.replicate n (zeros 512)
  | [], _, _ => rfl
  | q :: W, n, h => by
    have hq := h q (by simp)
    show appl W ((List.replicate n (zeros 512)).set q.1 q.2) = _
    rw [hq.2, List.set_replicate_self]
    exact appl_zer fun x hx => h x (by simp [hx])
abbrev zpg (n : Nat) : Pgs := List.replicate n (List.replicate 480 0)
theorem homeL_zero {i : Nat} : homeL i (List.replicate 480 0) = List.replicate 512 0 := by
  unfold homeL; rw [if_pos (by rw [List.length_replicate])]
def fmtS (n size : Nat) (D : ADisk) : APg := ⟨n, size, zpg n, [], 1, 0, 0, 0, D⟩
theorem format_eq (h : Has sg (dkH d g w D ++ R)) (hZ : Zer (1 + size + n) D) (hk : D.wr.length ≤ 10) (h1 : 8 ≤ n) (h2 : n ≤ 3840) (h3 : 4 ≤ size) (h4 : size ≤ 1024) (hN : 1000000 < N) :
    Ev (tab N (dp + 6) 29 [.gp d 0, vI n, vI size] sg) (Rt fun v sg' => ∃ s A D', v = .tup [.gp s 0, vI 0] ∧ StE s d g (fmtS n size D') A ∧ Fresh D' n size 1 (zpg n) ∧ Calm D' ∧ Has sg' (A ++ R)) := by
  refine ev_of ((t29 ..).trans (pages_Format.main ..)) ?_
  refine ev_call size_ok rfl ?_
  rintro _ _ ⟨rfl, rfl⟩
  rw [if_pos ⟨by omega, by omega, by omega, by omega⟩]
  have hsl : ∀ {D : ADisk}, Zer (1 + size + n) D → D.safe.length = 1 + size + n := fun hz => by rw [hz.safe, List.length_replicate]
  have hdk : ∀ {D : ADisk} {k : Nat}, Zer (1 + size + n) D → D.wr.length ≤ k → DOk (1 + size + n) k D := fun hz hk => ⟨hsl hz, fun q hq => (hz.wr q hq).1, hk⟩
  refine ev_T (ev_bif rfl (ev_I rfl (ev_I rfl (ev_if rfl ?_))))
  refine ev_call (len_ok h) rfl ?_
  rintro _ _ ⟨rfl, rfl⟩
  rw [hsl hZ]
  refine ev_I rfl (ev_else (by simp <;> omega) ?_)
  refine ev_loop (size + n) (fun i st => ∃ sg' w' D', st = mkS [0, 1, 2, 8, 10] [.v (.gp d 0) false, .v (vI n) false, .v (vI size) false, .v (vI (1 + size + n)) false, .v (vI (1 + i : Nat)) false] [none, none, none, none, none] (.sg sg') ∧
    Zer (1 + size + n) D' ∧ D'.wr.length ≤ 10 + i ∧ Has sg' (dkH d g w' D' ++ R)) (by omega) ⟨_, w, D, rfl, hZ, by omega, h⟩ ?_
  rintro i st K hi ⟨sg1, w1, D1, rfl, hZ1, hk1, h5⟩ hnext hexit hret
  refine ev_of (pages_Format.r0 ..) ?_
  refine ev_ite (fun hlt => ?_) (fun hge => ?_)
  · have hlt : i < size + n := by
      have : ((1 + i : Nat) : Int) < 1 + size + n := by simpa using hlt
      omega
    refine ev_call blank_ok rfl ?_
    rintro _ _ rfl
    refine ev_S rfl ?_
    refine ev_call (write_eq (N := N) (i := 1 + i) (s := List.replicate 512 0) h5 (hdk hZ1 hk1) (by omega) (List.length_replicate ..) (by omega)) rfl ?_
    rw [go_wrt hZ1.calm.stop]
    rintro _ sg2 ⟨rfl, w2, h6⟩
    refine ev_I rfl (ev_else (show ¬ ((0 : Int) != 0) = true by decide) ?_)
    rw [i64_nat (by omega)]
    refine hnext _ hlt ⟨sg2, w2, D1.write (1 + i) (tx (List.replicate 512 0)), rfl, ⟨hZ1.safe, fun q hq => ?_, hZ1.calm.write⟩, ?_, h6⟩
    · rcases List.mem_append.1 hq with hq | hq
      · exact hZ1.wr q hq
      · rw [List.mem_singleton] at hq
        subst hq
        exact ⟨by show 1 + i < _; omega, rfl⟩
    · show (D1.wr ++ [_]).length ≤ _
      rw [List.length_append]; simp; omega
  · refine hexit _ _ ?_
    refine ev_of (pages_Format.k0_2 ..) ?_
    refine ev_call (flush_eq h5 (hdk hZ1 hk1) (by omega) (by omega)) rfl ?_
    have efl : D1.flu = (0, D1.go.settled) := by unfold ADisk.flu; rw [hZ1.calm.stop]; rfl
    rw [efl]
    rintro _ sg2 ⟨rfl, w2, h6⟩
    refine ev_I rfl (ev_else (show ¬ ((0 : Int) != 0) = true by decide) ?_)
    have hs2 : D1.go.settled.safe = List.replicate (1 + size + n) (zeros 512) := by
      show appl D1.wr D1.safe = _
      rw [hZ1.safe]; exact appl_zer hZ1.wr
    have hw2 : D1.go.settled.wr = [] := rfl
    have hc2 : Calm D1.go.settled := hZ1.calm.go
    generalize D1.go.settled = D2 at h6 hs2 hw2 hc2 ⊢
    refine ev_call (held_ok h6 (by omega) h2 (by omega)) rfl ?_
    rintro _ sg3 ⟨s, p, m, rfl, h7⟩
    refine ev_A rfl ?_
    have h8 : Has sg3 ((s, stB d size p n m (.at (.pointer none)) 0) :: (dkH d g w2 D2 ++ ([(p, .mk ((List.replicate n (zeros 480)).map vS)), (m, .map (emb tV []))] ++ R))) := h7.pm fun x => by
      simp only [List.count_cons, List.count_append, List.count_nil]; omega
    have hD2 : DOk (1 + size + n) 0 D2 := ⟨by rw [hs2, List.length_replicate], fun q hq => (by rw [hw2] at hq; cases hq), by rw [hw2]; exact Nat.le_refl _⟩
    refine ev_call (swrite_eq (N := N) (dp := dp) (ep := 1) h8 hD2 (by decide) h2 h3 h4 (by omega) hN) rfl ?_
    have esw : swM 1 n size D2 = (0, (D2.write 0 (tx (headS 1 n size).simg)).go.settled) := by
      unfold swM
      rw [go_wrt hc2.stop, bindD_ok rfl]
      unfold ADisk.flu
      rw [hc2.write.stop]; rfl
    rw [esw]
    rintro _ sg4 ⟨rfl, hz, _⟩
    obtain ⟨j, w4, h9⟩ := hz rfl
    dsimp only at h9
    refine ev_I rfl (ev_else (show ¬ ((0 : Int) != 0) = true by decide) (ev_A rfl (ev_ret ?_)))
    refine ⟨s, _, (D2.write 0 (tx (headS 1 n size).simg)).go.settled, rfl, ⟨p, m, j, w4, rfl⟩, ⟨rfl, fun _ => none, ?_, fun q s _ hs => nomatch hs⟩, hc2.write.go, ?_⟩
    · have es : (D2.write 0 (tx (headS 1 n size).simg)).go.settled.safe = (List.replicate (1 + size + n) (zeros 512)).set 0 (tx (headS 1 n size).simg) := by
        show appl (D2.wr ++ [_]) D2.safe = _
        rw [hw2, hs2]; rfl
      rw [es]
      have hget : ∀ i, 0 < i → i < 1 + size + n → ((List.replicate (1 + size + n) (zeros 512)).set 0 (tx (headS 1 n size).simg))[i]? = some (zeros 512) := fun i h0 hi => by
        rw [List.getElem?_set_ne (by omega), List.getElem?_replicate, if_pos hi]
      refine ⟨by rw [List.length_set, List.length_replicate], by rw [List.getElem?_set_self (by rw [List.length_replicate]; omega)], List.length_replicate .., fun t ht => by rw [(List.mem_replicate.1 ht).2, List.length_replicate], fun i hi => ?_, fun q hq => ⟨?_, fun s hs => nomatch hs⟩⟩
      · refine ⟨List.replicate 480 0, by rw [List.getElem?_replicate, if_pos hi], ?_⟩
        rw [hget _ (by omega) (by omega), homeL_zero]; rfl
      · rw [hget _ (by omega) (by omega)]; rfl
    · have e2 : (zpg n).map tx = List.replicate n (zeros 480) := by rw [List.map_replicate]; rfl
      have h10 : Has sg4 ((s, stB d size p n m (.gp j 0) 0) :: (p, .mk ((List.replicate n (zeros 480)).map vS)) :: (m, .map (emb tV [])) :: (j, jnB d size ((1 : Nat) : Int) 0 0) :: (dkH d g w4 (D2.write 0 (tx (headS 1 n size).simg)).go.settled ++ R)) := h9.pm fun x => by
        simp only [List.count_cons, List.count_append, List.count_nil]; omega
      rw [← e2] at h10
      exact h10
theorem format_bad {a b : Int} (h : Has sg (dkH d g w D ++ R)) (hn : ¬ 1 + b + a = D.safe.length) :
    Ev (tab N (dp + 6) 29 [.gp d 0, vI a, vI b] sg) (Rt fun v sg' => v = .tup [.at (.pointer none), vI 18] ∧ sg' = sg) := by
  refine ev_of ((t29 ..).trans (pages_Format.main ..)) ?_
  refine ev_call size_ok rfl ?_
  rintro _ _ ⟨rfl, rfl⟩
  split
  · refine ev_T (ev_bif rfl (ev_I rfl (ev_I rfl (ev_if rfl ?_))))
    refine ev_call (len_ok h) rfl ?_
    rintro _ _ ⟨rfl, rfl⟩
    exact ev_I rfl (ev_if (by simp; omega) (ev_ret ⟨rfl, rfl⟩))
  · exact ev_T (ev_bif rfl (ev_I rfl (ev_I rfl (ev_else (by decide) (ev_ret ⟨rfl, rfl⟩)))))
/-! ### Up -/
/-- A list of booleans, as it comes in. -/
def BlV (a : AVal) (bits : List Bool) : Prop := (∃ nn, a = .sl nn 1 (bits.map vB)) ∨ (bits = [] ∧ ∃ x cap, a = .at (.slice (some x) 0 cap))
theorem BlV.plain {a : AVal} {bits : List Bool} (h : BlV a bits) : plainA a = some a := by
  rcases h with ⟨nn, rfl⟩ | ⟨rfl, x, cap, rfl⟩ <;> rfl
theorem mask_any {a : AVal} {bits : List Bool} {c i k : Nat} (hb : BlV a bits) (h : Has sg L) (e : L[k]? = some (c, .mk [a])) :
    Ev (tab N (dp + 1) 151 [vI i, .gp c 0] sg) (Rt fun v sg' => v = vB (bits.getD i false) ∧ sg' = sg) := by
  rcases hb with ⟨nn, rfl⟩ | ⟨rfl, x, cap, rfl⟩
  · exact mask_ok h e
  · refine ev_of ((t151 ..).trans (disk_Disk_Up_1.main ..)) ?_
    refine ev_ldA h k e rfl (ev_O (a := 0) rfl (ev_else (by simp) (ev_ret ⟨?_, rfl⟩)))
    simp
theorem up_any {a : AVal} {bits : List Bool} (hb : BlV a bits) (h : Has sg (dkH d g w D ++ R)) (hw : ∀ p, p ∈ D.wr → p.1 < D.safe.length) (hN : D.wr.length < N) (hlb : D.wr.length < 4611686018427387904) :
    Ev (tab N (dp + 3) 48 [.gp d 0, a] sg) (Rt fun v sg' => (∃ n, v = vI n) ∧ Has sg' (dkH d g 0 (D.up bits) ++ R)) := by
  refine ev_of ((t48 ..).trans (disk_Disk_Up.main ..)) ?_
  have h1 := h.new (.mk [a])
  have ec : a.cells = [a] := by rcases hb with ⟨nn, rfl⟩ | ⟨rfl, x, cap, rfl⟩ <;> rfl
  refine ev_A hb.plain (ev_else (by decide) ?_)
  try rw [ec]
  refine ev_st h1 1 rfl rfl (by show 4 ≤ 5; omega) (by show 0 < 5; omega) fun sg2 h2 => ?_
  refine ev_st h2 1 rfl rfl (by show 3 ≤ 5; omega) (by show 0 < 5; omega) fun sg3 h3 => ?_
  have h4 : Has sg3 (dkH d g w { D with down := false, armed := 0 } ++ ((sg.length, .mk [a]) :: R)) :=
    Has.rot (x := (sg.length, .mk [a])) (A := dkH d g w { D with down := false, armed := 0 }) h3
  refine ev_call (settleK_ok (N := N) (dp := dp) (keep := fun i => bits.getD i false) (f := 151) (l2 := []) (l3 := [.gp sg.length 0]) rfl h4 hw hN hlb fun i sg' D' hi h5 => ?_) rfl ?_
  · exact mask_any (k := 0) hb h5.tor rfl
  · rintro _ sg5 ⟨⟨n, rfl⟩, h5⟩
    exact ev_I rfl (ev_ret ⟨⟨n, rfl⟩, h5.tor.tail⟩)
/-! ### Acts -/
structure PAct where
  kind : Int
  pv : AVal
  puts : List PPut
  num : Int
  byte : Int
  kv : AVal
  keep : List Bool
def actC (a : PAct) : List AVal := [vI a.kind, a.pv, vI a.num, v8 a.byte, a.kv]
structure PAct.Ok (a : PAct) : Prop where
  pv : LsV 3 a.pv (a.puts.map putC)
  kv : BlV a.kv a.keep
theorem small_eq {a : AVal} {l : List PAct} (ha : LsV 5 a (l.map actC)) (hl : ∀ x, x ∈ l → x.Ok) (hN : l.length < N) (hl2 : l.length < 9223372036854775808) :
    Ev (tab N (dp + 1) 42 [a] sg) (Rt fun v sg' => (∃ b, v = vB b ∧ (b = true → l.length ≤ 30 ∧ ∀ x, x ∈ l → x.puts.length ≤ 40)) ∧ sg' = sg) := by
  have hal := ha.len
  rw [List.length_map] at hal
  refine ev_of ((t42 ..).trans (law09_small.main ..)) (ev_O hal ?_)
  refine ev_loop l.length (fun i st => st = mkS [0, 5, 6, 7] [.v a false, .v a false, .v (vI l.length) false, .v (vI i) false] [none, none, none, none] (.sg sg) ∧ ∀ x, x ∈ l.take i → x.puts.length ≤ 40) hN ⟨rfl, by simp⟩ ?_
  rintro i st K hi ⟨rfl, hall⟩ hnext hexit hret
  refine ev_of (law09_small.r0 ..) (ev_ite (fun hlt => ?_) (fun hge => ?_))
  · have hlt : i < l.length := by simpa using hlt
    have hat : (l.map actC)[i]? = some (actC l[i]) := by rw [List.getElem?_map, List.getElem?_eq_getElem hlt]; rfl
    have hx := hl l[i] (List.getElem_mem hlt)
    have hpl := hx.pv.len
    rw [List.length_map] at hpl
    refine ev_ls ha hat rfl (ev_bif rfl (ev_L2 (l' := actC l[i]) rfl (ev_A rfl (ev_O hpl (ev_ite (fun hg => ?_) (fun hg => ?_))))))
    · exact hret _ (ev_of (law09_small.k0_1 ..) (ev_ret ⟨⟨false, rfl, fun h => nomatch h⟩, rfl⟩))
    · have ew : IntKind.i64.wrap (((i : Nat) : Int) + 1) = ((i + 1 : Nat) : Int) := by
        rw [i64_in (by omega)]; omega
      rw [ew]
      refine hnext _ hlt ⟨rfl, fun x hx => ?_⟩
      rw [List.take_add_one, List.getElem?_eq_getElem hlt, List.mem_append] at hx
      rcases hx with hx | hx
      · exact hall x hx
      · simp at hx; subst hx
        have : ¬ (40 : Int) < l[i].puts.length := by simpa using hg
        omega
  · have hge : i = l.length := by
      have : l.length ≤ i := by simpa using hge
      omega
    subst hge
    rw [List.take_length] at hall
    refine hexit _ _ (ev_of (law09_small.k0_2 ..) (ev_O hal (ev_ret ⟨⟨_, rfl, fun h => ⟨?_, hall⟩⟩, rfl⟩)))
    have := of_decide_eq_true h
    omega
end Go.Abs
namespace Go.Abs
open Go
set_option linter.unusedVariables false
variable {n size ep e k N : Nat} {b p : Pgs} {S : APg} {D : ADisk} {l : List AIm} {past : List Pgs}
theorem SOk.mono {k' e' : Nat} (h : SOk k e S) (hk : k ≤ k') (he : e ≤ e') : SOk k' e' S :=
  ⟨h.dk.mono hk, h.len, h.fr, h.sz, h.n1, h.n2, h.s1, h.s2, h.pos, h.num, Nat.lt_of_lt_of_le h.ep he, h.wt⟩
theorem bindD_dok {k' : Nat} {r : Int × ADisk} {f : ADisk → Int × ADisk} (h : DOk N k r.2) (hk : k ≤ k') (hf : ∀ D, DOk N k D → DOk N k' (f D).2) : DOk N k' (bindD r f).2 := by
  unfold bindD; split
  · exact hf _ h
  · exact h.mono hk
theorem ckM_dok {pgs : Pgs} {ks : List Int} (h : DOk (1 + size + n) k D) (hks : ∀ x : Int, x ∈ ks → 0 ≤ x ∧ x < (n : Int)) : DOk (1 + size + n) (k + ks.length + 1) (ckM ep n size pgs ks D).2 := by
  unfold ckM
  refine bindD_dok h.flu (by omega) fun D1 h1 => ?_
  have hl : (hW size pgs ks).length = ks.length := List.length_map ..
  have h2 := DOk.seq (l := hW size pgs ks) h1 (hW_rg hks)
  rw [hl] at h2
  refine bindD_dok h2 (by omega) fun D2 h3 => bindD_dok h3.flu (by omega) fun D3 h4 => ?_
  unfold swM
  exact bindD_dok (h4.wrt (i := 0) (by omega)) (Nat.le_refl _) fun D4 h5 => h5.flu
theorem SOk.disk {k' : Nat} {D' : ADisk} (h : SOk k e S) (hD : DOk (1 + S.size + S.n) k' D') : SOk k' e { S with D := D' } :=
  ⟨hD, h.len, h.fr, h.sz, h.n1, h.n2, h.s1, h.s2, h.pos, h.num, h.ep, h.wt⟩
theorem ckptM_sok (h : SOk k e S) : SOk (k + S.n + 1) (e + 1) (ckptM S).2 := by
  by_cases h0 : (ckptM S).1 = 0
  · exact (ckptM_zero h h0).1.mono (by omega) (by omega)
  · have hks : ∀ x : Int, x ∈ sortI (S.fr.map (·.1)) → 0 ≤ x ∧ x < (S.n : Int) := fun x hx => h.fr.rg x (mem_sortI.1 hx)
    have hl : (sortI (S.fr.map (·.1))).length ≤ S.n := by
      rw [(sortI_pm _).length_eq, List.length_map]; exact h.fr.len
    have hd := (ckM_dok (ep := S.ep + 1) (pgs := S.pgs) h.dk hks).mono (k' := k + S.n + 1) (by omega)
    unfold ckptM at h0 ⊢
    split at h0
    · exact absurd rfl h0
    · rename_i hn
      rw [if_neg hn]
      exact (h.disk hd).mono (Nat.le_refl _) (by omega)
theorem appM_sok (h : SOk k e S) (hl : AImOk S.n l) (hroom : S.pos + l.length < S.size) : SOk (k + l.length + 1) e (appM l S).2 := by
  have hp : ∀ q, q ∈ txW S.ep S.pos S.num l → q.1 < 1 + S.size + S.n := fun q hq => by
    rw [txW_eq] at hq
    obtain ⟨i, hi, rfl⟩ := List.mem_map.1 hq
    rw [List.mem_range] at hi
    show 1 + S.pos + i < _
    omega
  have hd := h.dk.seq hp
  have hln : (txW S.ep S.pos S.num l).length = l.length + 1 := by rw [txW_eq, List.length_map, List.length_range]
  rw [hln] at hd
  unfold appM
  split
  · refine ⟨hd, ?_, insAll_ok (fun q hq => (hl.im.rg q hq).1) h.fr, setPg_sz (fun q hq => (hl.rg q hq).2) h.sz, h.n1, h.n2, h.s1, h.s2, ?_, ?_, h.ep, ?_⟩
    · show (setPg l S.pgs).length = S.n
      rw [setPg_len, h.len]
    · show S.pos + l.length + 1 ≤ S.size; omega
    · show S.num + 1 ≤ S.pos + l.length + 1
      have := h.num; omega
    · show S.wt + 1 ≤ S.num + 1
      have := h.wt; omega
  · exact h.disk hd
theorem flushM_sok (h : SOk k e S) : SOk k e (flushM S).2 := by
  unfold flushM
  split
  · exact h
  · split
    · exact h
    · split
      · exact ⟨h.dk.flu, h.len, h.fr, h.sz, h.n1, h.n2, h.s1, h.s2, h.pos, h.num, h.ep, Nat.zero_le _⟩
      · exact h.disk h.dk.flu
theorem ckptM_same : (ckptM S).2.n = S.n ∧ (ckptM S).2.size = S.size := by
  unfold ckptM; split <;> exact ⟨rfl, rfl⟩
theorem appM_same : (appM l S).2.n = S.n ∧ (appM l S).2.size = S.size := by
  unfold appM; split <;> exact ⟨rfl, rfl⟩
theorem flushM_same : (flushM S).2.n = S.n ∧ (flushM S).2.size = S.size := by
  unfold flushM; split
  · exact ⟨rfl, rfl⟩
  · split
    · exact ⟨rfl, rfl⟩
    · split <;> exact ⟨rfl, rfl⟩
/-- How a store stands between the acts. -/
def Stand (e : Nat) (S : APg) (past : List Pgs) : Prop :=
  (S.D.down = false ∧ ∃ b Ts k, Live S b Ts k ∧ (∀ x, Outs b Ts k x → x ∈ past) ∧ past.getLast? = some S.pgs) ∨
  (S.D.down = true ∧ Rec S.D S.n S.size e (· ∈ past))
structure LInv (k e n size : Nat) (S : APg) (past : List Pgs) : Prop where
  sok : SOk k e S
  hn : S.n = n
  hs : S.size = size
  few : n + size ≤ 79
  len : ∀ x, x ∈ past → x.length = n
  ne : past ≠ []
  st : Stand e S past
theorem LInv.mono {k' e' : Nat} (h : LInv k e n size S past) (hk : k ≤ k') (he : e ≤ e') : LInv k' e' n size S past :=
  ⟨h.sok.mono hk he, h.hn, h.hs, h.few, h.len, h.ne, h.st.imp id fun ⟨h1, h2⟩ => ⟨h1, h2.up he⟩⟩
theorem LInv.recs (h : LInv k e n size S past) : Rec S.D n size e (· ∈ past) := by
  have hn := h.hn
  have hs := h.hs
  rcases h.st with ⟨h1, b, Ts, k, h2, h3, h4⟩ | ⟨h1, h2⟩
  · rw [← hn, ← hs]; exact (live_rec h2 h.sok.ep).mono h3
  · rw [← hn, ← hs]; exact h2
theorem outs_snoc {Ts : List (List AIm)} {x : Pgs} (h : Outs b (Ts ++ [l]) k x) (hk : k ≤ Ts.length) : Outs b Ts k x ∨ x = setPg l (pgAll Ts b) := by
  obtain ⟨j, j1, j2, rfl⟩ := h
  rw [List.length_append, List.length_singleton] at j2
  rcases Nat.lt_or_ge Ts.length j with h1 | h1
  · right
    have : j = (Ts ++ [l]).length := by rw [List.length_append, List.length_singleton]; omega
    rw [this, List.take_length, pgAll_snoc]
  · left
    exact ⟨j, j1, h1, by rw [List.take_append_of_le_length h1]⟩
theorem step_commit {y : Pgs} (h : LInv k e n size S past) (hy : past.getLast? = some y) (hl : AImOk n l) (hne : l ≠ []) (he : e + 1 < 2 ^ 62) :
    (commitM l S = (14, S)) ∨ (((commitM l S).1 = 0 ∨ (commitM l S).1 = 17) ∧ LInv (k + n + l.length + 2) (e + 1) n size (commitM l S).2 (past ++ [setPg l y])) := by
  have hn := h.hn
  have hs := h.hs
  have hep := h.sok.ep
  have hyl : y.length = n := h.len y (List.mem_of_getLast? hy)
  have hlen' : ∀ x, x ∈ past ++ [setPg l y] → x.length = n := fun x hx => by
    rcases List.mem_append.1 hx with hx | hx
    · exact h.len x hx
    · rw [List.mem_singleton] at hx; rw [hx, setPg_len, hyl]
  have hne' : past ++ [setPg l y] ≠ [] := by simp
  have hlast' : ∀ z, (past ++ [z]).getLast? = some z := fun z => by simp
  subst hn hs
  unfold commitM
  by_cases h14 : S.size ≤ l.length
  · left; rw [if_pos h14]
  right
  rw [if_neg h14]
  rcases h.st with ⟨hd, b, Ts, k0, hL, hO, hla⟩ | ⟨hd, hR⟩
  · rw [hd]
    simp only [Bool.false_eq_true, if_false]
    rw [hla] at hy
    injection hy with hy
    subst hy
    have hap : ∀ {S' : APg} {b' : Pgs} {Ts' : List (List AIm)} {k' kk : Nat}, Live S' b' Ts' k' → SOk kk (e + 1) S' → S'.n = S.n → S'.size = S.size → S'.pgs = S.pgs → S'.D.down = false → S'.pos + l.length < S'.size → kk + l.length + 1 ≤ k + S.n + l.length + 2 → (∀ x, Outs b' Ts' k' x → x ∈ past) →
        (((appM l S').1 = 0 ∨ (appM l S').1 = 17) ∧ LInv (k + S.n + l.length + 2) (e + 1) S.n S.size (appM l S').2 (past ++ [setPg l S.pgs])) := fun {S' b' Ts' k' kk} hL' hS' e1 e2 e3 e4 e5 e6 hO' => by
      have hsm := appM_same (l := l) (S := S')
      have hsok := (appM_sok hS' (by rw [e1]; exact hl) e5).mono e6 (Nat.le_refl _)
      rcases live_app hL' hne (by rw [e1]; exact hl) e5 hS'.ep e4 with ⟨h1, h2, h3⟩ | ⟨h1, h2, h3⟩
      · have hpg : (appM l S').2.pgs = setPg l S.pgs := by
          rw [h2.pgs, pgAll_snoc, ← hL'.pgs, e3]
        refine ⟨.inl h1, hsok, hsm.1.trans e1, hsm.2.trans e2, h.few, hlen', hne', .inl ⟨h3, b', _, k', h2, fun x hx => ?_, by rw [hlast', hpg]⟩⟩
        rcases outs_snoc hx hL'.kk with h4 | h4
        · exact List.mem_append_left _ (hO' x h4)
        · rw [← hL'.pgs, e3] at h4
          rw [h4]; simp
      · refine ⟨.inr h1, hsok, hsm.1.trans e1, hsm.2.trans e2, h.few, hlen', hne', .inr ⟨h2, ?_⟩⟩
        rw [hsm.1, hsm.2]
        exact h3.mono fun x hx => List.mem_append_left _ (hO' x hx)
    by_cases hr : S.size - S.pos ≤ l.length
    · rw [if_pos hr]
      have hck := live_ckpt hL (e := e + 1) (by omega) (by omega)
      have hsm := ckptM_same (S := S)
      rcases hck with ⟨h1, h2, h3⟩ | ⟨h1, h2, h3⟩
      · rw [if_pos h1]
        obtain ⟨z1, z2, z3, z4⟩ := ckptM_zero h.sok h1
        refine hap h2 z1 z4 z3 (by rw [h2.pgs]; rfl) h3 (by rw [z2, z3]; omega) (by omega) fun x hx => ?_
        obtain ⟨j, _, j2, rfl⟩ := hx
        have : j = 0 := by simpa using j2
        subst this
        exact List.mem_of_getLast? hla
      · rw [if_neg (by rw [h1]; decide)]
        refine ⟨.inr h1, (ckptM_sok h.sok).mono (by omega) (by omega), hsm.1, hsm.2, h.few, hlen', hne', .inr ⟨h2, ?_⟩⟩
        rw [hsm.1, hsm.2]
        exact h3.mono fun x hx => List.mem_append_left _ (hO x hx)
    · rw [if_neg hr]
      exact hap hL (h.sok.mono (Nat.le_refl _) (by omega)) rfl rfl rfl hd (by omega) (by omega) hO
  · rw [hd]
    rw [if_pos rfl]
    refine ⟨.inr rfl, h.sok.mono (by omega) (by omega), rfl, rfl, h.few, hlen', hne', .inr ⟨hd, (hR.up (by omega)).mono fun x hx => List.mem_append_left _ hx⟩⟩
theorem last_single {y : Pgs} (h : LInv k e n size S past) (hy : past.getLast? = some y) : (∀ x, x ∈ [y] → x.length = n) ∧ ([y] : List Pgs) ≠ [] :=
  ⟨fun x hx => by rw [List.mem_singleton] at hx; rw [hx]; exact h.len y (List.mem_of_getLast? hy), by simp⟩
theorem step_flush {y : Pgs} (h : LInv k e n size S past) (hy : past.getLast? = some y) :
    ((flushM S).1 = 0 ∧ LInv k e n size (flushM S).2 [y]) ∨ ((flushM S).1 = 17 ∧ LInv k e n size (flushM S).2 past) := by
  have hsm := flushM_same (S := S)
  have hn := h.hn
  have hs := h.hs
  have hls := last_single h hy
  subst hn hs
  rcases h.st with ⟨hd, b, Ts, k0, hL, hO, hla⟩ | ⟨hd, hR⟩
  · rw [hla] at hy
    injection hy with hy
    subst hy
    rcases live_flush hL h.sok.ep hd with ⟨h1, h2, h3⟩ | ⟨h1, h2, h3⟩
    · have hpg : (flushM S).2.pgs = S.pgs := by rw [h2.pgs, hL.pgs]
      refine .inl ⟨h1, flushM_sok h.sok, hsm.1, hsm.2, h.few, hls.1, hls.2, .inl ⟨h3, b, Ts, _, h2, fun x hx => ?_, by rw [hpg]; rfl⟩⟩
      obtain ⟨j, j1, j2, rfl⟩ := hx
      have : j = Ts.length := by omega
      subst this
      rw [List.take_length, ← hL.pgs]; simp
    · refine .inr ⟨h1, flushM_sok h.sok, hsm.1, hsm.2, h.few, h.len, h.ne, .inr ⟨h2, ?_⟩⟩
      rw [hsm.1, hsm.2]
      exact h3.mono hO
  · have e1 : flushM S = (17, S) := by unfold flushM; rw [hd]; rfl
    rw [e1]
    exact .inr ⟨rfl, h⟩
theorem step_ckpt {y : Pgs} (h : LInv k e n size S past) (hy : past.getLast? = some y) (he : e + 1 < 2 ^ 62) :
    ((CheckpointM S).1 = 0 ∧ LInv (k + n + 1) (e + 1) n size (CheckpointM S).2 [y]) ∨ ((CheckpointM S).1 = 17 ∧ LInv (k + n + 1) (e + 1) n size (CheckpointM S).2 past) := by
  have hsm := ckptM_same (S := S)
  have hn := h.hn
  have hs := h.hs
  have hls := last_single h hy
  have hep := h.sok.ep
  subst hn hs
  unfold CheckpointM
  rcases h.st with ⟨hd, b, Ts, k0, hL, hO, hla⟩ | ⟨hd, hR⟩
  · rw [hd]
    simp only [Bool.false_eq_true, if_false]
    rw [hla] at hy
    injection hy with hy
    subst hy
    by_cases h0 : S.num = 0
    · rw [if_pos h0]
      have hT : Ts = [] := List.eq_nil_of_length_eq_zero (by rw [← hL.num, h0])
      subst hT
      refine .inl ⟨rfl, h.sok.mono (by omega) (by omega), rfl, rfl, h.few, hls.1, hls.2, .inl ⟨hd, b, [], k0, hL, fun x hx => ?_, rfl⟩⟩
      obtain ⟨j, j1, j2, rfl⟩ := hx
      have : j = 0 := by simpa using j2
      subst this
      rw [hL.pgs]; simp
    · rw [if_neg h0]
      rcases live_ckpt hL (e := e + 1) (by omega) (by omega) with ⟨h1, h2, h3⟩ | ⟨h1, h2, h3⟩
      · have hpg : (ckptM S).2.pgs = S.pgs := by rw [h2.pgs]; rfl
        refine .inl ⟨h1, ckptM_sok h.sok, hsm.1, hsm.2, h.few, hls.1, hls.2, .inl ⟨h3, _, _, _, h2, fun x hx => ?_, by rw [hpg]; rfl⟩⟩
        obtain ⟨j, _, j2, rfl⟩ := hx
        have : j = 0 := by simpa using j2
        subst this
        simp [pgAll]
      · refine .inr ⟨h1, ckptM_sok h.sok, hsm.1, hsm.2, h.few, h.len, h.ne, .inr ⟨h2, ?_⟩⟩
        rw [hsm.1, hsm.2]
        exact h3.mono hO
  · rw [hd]
    rw [if_pos rfl]
    exact .inr ⟨rfl, h.mono (by omega) (by omega)⟩
theorem Live.arm {Ts : List (List AIm)} {a : Int} (h : Live S b Ts k) : Live { S with D := S.D.arm a } b Ts k :=
  ⟨h.fl, h.head, h.bl, h.bz, h.home, h.wr, h.new, h.old, h.cur, h.ok, h.pgs, h.fr, h.pos, h.num, h.le, h.kk, h.wt, h.n2, h.s2, h.ep2⟩
theorem step_arm {a : Int} (h : LInv k e n size S past) : LInv k e n size { S with D := S.D.arm a } past := by
  refine ⟨h.sok.disk ⟨h.sok.dk.len, h.sok.dk.wr, h.sok.dk.few⟩, h.hn, h.hs, h.few, h.len, h.ne, ?_⟩
  rcases h.st with ⟨hd, b, Ts, k0, hL, hO, hla⟩ | ⟨hd, hR⟩
  · exact .inl ⟨hd, b, Ts, k0, hL.arm, hO, hla⟩
  · exact .inr ⟨hd, hR⟩
/-- What is loaded goes on. -/
theorem step_fresh {e' : Nat} {homes : Pgs} {ts : List (List AIm)} (hF : Fresh (ldM ep n size homes ts D).2 n size (ep + 1) p) (hp : pgAll ts homes = p) (hd : (ldM ep n size homes ts D).2.down = false) (hk : DOk (1 + size + n) k (ldM ep n size homes ts D).2) (he : ep + 1 < e') (he2 : e' < 2 ^ 62) (h1 : 8 ≤ n) (h2 : n ≤ 3840) (h3 : 4 ≤ size) (h4 : size ≤ 1024)
    (hf : n + size ≤ 79) : LInv k e' n size (ldS ep n size homes ts D) [p] := by
  have hL := live_fresh hF h2 h4 (by omega)
  have hlen : p.length = n := by obtain ⟨_, c, hC, _⟩ := hF; exact hC.len
  have hsz : ∀ t, t ∈ p → t.length = 480 := by obtain ⟨_, c, hC, _⟩ := hF; exact hC.sz
  subst hp
  refine ⟨⟨hk, hlen, ⟨by simp [ldS], by simp [ldS]⟩, hsz, h1, h2, h3, h4, Nat.zero_le _, Nat.zero_le _, he, Nat.zero_le _⟩, rfl, rfl, hf, fun x hx => by rw [List.mem_singleton] at hx; rw [hx]; exact hlen, by simp,
    .inl ⟨hd, _, _, _, hL, fun x hx => ?_, rfl⟩⟩
  obtain ⟨j, _, j2, rfl⟩ := hx
  have : j = 0 := by simpa using j2
  subst this
  simp [pgAll]
end Go.Abs
