/- What the functions of the program come to, one after another: several texts joined. -/
import Derived.IntWalk
import Derived.Test.YtimoaolannkpcaaGreatLeaf
import Derived.Test.YtimoaolannkpcaaGreatOvDefs
import Derived.Test.YtimoaolannkpcaaGreatTabT
import Derived.Test.YtimoaolannkpcaaGreatRsP
set_option linter.unusedVariables false
set_option linter.unusedSimpArgs false
set_option linter.unusedSectionVars false
namespace Go.Abs
open Go
set_option linter.unusedVariables false
abbrev Hp := List (Nat × Box)
def Has (sg : Sg) (L : Hp) : Prop := (L.map (·.1)).Nodup ∧ ∀ p, p ∈ L → sg[p.1]? = some p.2
theorem Has.perm {sg : Sg} {L M : Hp} (h : Has sg L) (p : L.Perm M) : Has sg M :=
  ⟨(p.map (·.1)).nodup_iff.1 h.1, fun q hq => h.2 q (p.mem_iff.2 hq)⟩
theorem Has.sub {sg : Sg} {L M : Hp} (h : Has sg L) (s : M.Sublist L) : Has sg M :=
  ⟨(s.map (·.1)).nodup h.1, fun q hq => h.2 q (s.subset hq)⟩
theorem Has.at {sg : Sg} {L : Hp} {n i : Nat} {B : Box} (h : Has sg L) (e : L[n]? = some (i, B)) : sg[i]? = some B :=
  h.2 (i, B) (List.mem_of_getElem? e)
theorem lt_of_at {sg : Sg} {d : Nat} {B : Box} (h : sg[d]? = some B) : d < sg.length := by
  rcases Nat.lt_or_ge d sg.length with h1 | h1
  · exact h1
  · rw [List.getElem?_eq_none h1] at h; cases h
theorem Has.put {sg : Sg} {L : Hp} {n i : Nat} {B : Box} (B' : Box) (h : Has sg L) (e : L[n]? = some (i, B)) : Has (sg.set i B') (L.set n (i, B')) := by
  have hn : n < L.length := by
    rcases Nat.lt_or_ge n L.length with h1 | h1
    · exact h1
    · rw [List.getElem?_eq_none h1] at e; cases e
  have hk : (L.set n (i, B')).map (·.1) = L.map (·.1) := by
    apply List.ext_getElem?
    intro m
    simp only [List.getElem?_map, List.getElem?_set]
    split
    · rename_i h1; subst h1; rw [e]; simp [hn]
    · rfl
  refine ⟨hk ▸ h.1, fun q hq => ?_⟩
  obtain ⟨m, hm⟩ := List.mem_iff_getElem?.1 hq
  rw [List.getElem?_set] at hm
  split at hm
  · rename_i h1
    simp [hn] at hm
    subst hm
    have := lt_of_at (h.at e)
    simp [this]
  · rename_i h1
    have hne : i ≠ q.1 := by
      intro he
      apply h1
      have hm2 : m < L.length := by
        rcases Nat.lt_or_ge m L.length with h2 | h2
        · exact h2
        · rw [List.getElem?_eq_none h2] at hm; cases hm
      have x1 : (L.map (·.1))[n]? = some i := by simp [e]
      have x2 : (L.map (·.1))[m]? = some i := by simp [hm, he]
      exact (List.getElem?_inj (by simpa using hn) h.1).1 (x1.trans x2.symm)
    rw [List.getElem?_set_ne hne]
    exact h.2 q (List.mem_of_getElem? hm)
theorem Has.new {sg : Sg} {L : Hp} (B : Box) (h : Has sg L) : Has (sg ++ [B]) ((sg.length, B) :: L) := by
  refine ⟨?_, fun q hq => ?_⟩
  · rw [List.map_cons, List.nodup_cons]
    refine ⟨fun hm => ?_, h.1⟩
    obtain ⟨q, hq, e⟩ := List.mem_map.1 hm
    have := lt_of_at (h.2 q hq)
    simp only at e; omega
  · rcases List.mem_cons.1 hq with rfl | hq
    · simp
    · have := lt_of_at (h.2 q hq)
      rw [List.getElem?_append_left this]; exact h.2 q hq
theorem Has.sw {sg : Sg} (X D : Hp) {R : Hp} (h : Has sg (X ++ (D ++ R))) : Has sg (D ++ (X ++ R)) := h.perm (List.perm_append_comm_assoc X D R)
theorem Has.tail {sg : Sg} {x : Nat × Box} {L : Hp} (h : Has sg (x :: L)) : Has sg L := h.sub (List.sublist_cons_self x L)
theorem Has.drop {sg : Sg} (X : Hp) {L : Hp} (h : Has sg (X ++ L)) : Has sg L := h.sub (List.sublist_append_right X L)
theorem Has.rot {sg : Sg} {x : Nat × Box} {A R : Hp} (h : Has sg (x :: (A ++ R))) : Has sg (A ++ (x :: R)) := h.perm List.perm_middle.symm
theorem Has.tor {sg : Sg} {x : Nat × Box} {A R : Hp} (h : Has sg (A ++ (x :: R))) : Has sg (x :: (A ++ R)) := h.perm List.perm_middle
theorem has_nil (sg : Sg) : Has sg [] := ⟨List.nodup_nil, fun _ h => by cases h⟩
def Ev (r : R) (Q : Out → Prop) : Prop := ∃ o, r = some o ∧ Q o
def Rt (φ : AVal → Sg → Prop) : Out → Prop
  | .ret v sg => φ v sg
  | .pan _ _ => False
def Rp (φ ψ : AVal → Sg → Prop) : Out → Prop
  | .ret v sg => φ v sg
  | .pan v sg => ψ v sg
theorem ev_ret {v : AVal} {sg : Sg} {φ : AVal → Sg → Prop} (h : φ v sg) : Ev (some (.ret v sg)) (Rt φ) := ⟨_, rfl, h⟩
theorem ev_out {o : Out} {Q : Out → Prop} (h : Q o) : Ev (some o) Q := ⟨_, rfl, h⟩
theorem Ev.imp {r : R} {Q Q' : Out → Prop} (h : Ev r Q) (hq : ∀ o, Q o → Q' o) : Ev r Q' := by
  obtain ⟨o, h1, h2⟩ := h; exact ⟨o, h1, hq o h2⟩
theorem Ev.imt {r : R} {φ ψ : AVal → Sg → Prop} (h : Ev r (Rt φ)) (hq : ∀ v sg, φ v sg → ψ v sg) : Ev r (Rt ψ) := h.imp fun o => by
  cases o with
  | ret v sg => exact hq v sg
  | pan v sg => exact fun h => h.elim
theorem ev_get {r : R} {φ : AVal → Sg → Prop} (h : Ev r (Rt φ)) : ∃ v sg, r = some (.ret v sg) ∧ φ v sg := by
  obtain ⟨o, h1, h2⟩ := h
  cases o with
  | ret v sg => exact ⟨v, sg, h1, h2⟩
  | pan v sg => exact h2.elim
theorem ev_of {r r' : R} {Q : Out → Prop} (e : r = r') (h : Ev r' Q) : Ev r Q := e ▸ h
section
variable {Q : Out → Prop}
theorem ev_call {C : CallF} {f : FuncId} {xs : List AVal} {sg : Sg} {φ : AVal → Sg → Prop} {ok pan : AVal → Sg → R} (h : Ev (C f xs sg) (Rt φ)) (hf : Nat.blt f 1000000 = true) (hk : ∀ v sg', φ v sg' → Ev (ok v sg') Q) :
    Ev (withOut (bif Nat.blt f 1000000 then C f xs sg else none) ok pan) Q := by
  obtain ⟨v, sg', h1, h2⟩ := ev_get h
  rw [hf, cond_true, h1]; exact hk v sg' h2
theorem ev_callP {C : CallF} {f : FuncId} {xs : List AVal} {sg : Sg} {φ ψ : AVal → Sg → Prop} {ok pan : AVal → Sg → R} (h : Ev (C f xs sg) (Rp φ ψ)) (hf : Nat.blt f 1000000 = true) (hk : ∀ v sg', φ v sg' → Ev (ok v sg') Q) (hp : ∀ v sg', ψ v sg' → Ev (pan v sg') Q) :
    Ev (withOut (bif Nat.blt f 1000000 then C f xs sg else none) ok pan) Q := by
  obtain ⟨o, h1, h2⟩ := h
  rw [hf, cond_true, h1]
  cases o with
  | ret v sg' => exact hk v sg' h2
  | pan v sg' => exact hp v sg' h2
theorem ev_if {c : Prop} [Decidable c] {x y : R} (h : c) (hx : Ev x Q) : Ev (if c then x else y) Q := by rw [if_pos h]; exact hx
theorem ev_else {c : Prop} [Decidable c] {x y : R} (h : ¬c) (hy : Ev y Q) : Ev (if c then x else y) Q := by rw [if_neg h]; exact hy
theorem ev_ite {c : Prop} [Decidable c] {x y : R} (hx : c → Ev x Q) (hy : ¬c → Ev y Q) : Ev (if c then x else y) Q := by
  by_cases h : c
  · exact ev_if h (hx h)
  · exact ev_else h (hy h)
theorem ev_bif {b : Bool} {x y : R} (h : b = true) (hx : Ev x Q) : Ev (bif b then x else y) Q := by rw [h]; exact hx
theorem ev_bie {b : Bool} {x y : R} (h : b = false) (hx : Ev y Q) : Ev (bif b then x else y) Q := by rw [h]; exact hx
theorem ev_O {β : Type} {o : Option β} {a : β} {c : β → R} (e : o = some a) (h : Ev (c a) Q) : Ev (withO o c) Q := by rw [e]; exact h
theorem ev_A {o : Option AVal} {a : AVal} {c : AVal → R} (e : o = some a) (h : Ev (c a) Q) : Ev (withA o c) Q := by rw [e]; exact h
theorem ev_I {o : Option AVal} {k : IntKind} {a : Int} {c : Int → R} (e : o = some (.at (.int k a))) (h : Ev (c a) Q) : Ev (withI k o c) Q := by rw [e, wI]; exact h
theorem ev_B {o : Option AVal} {a : Bool} {c : Bool → R} (e : o = some (.at (.bool a))) (h : Ev (c a) Q) : Ev (withB o c) Q := by rw [e]; exact h
theorem ev_S {o : Option AVal} {a : ByteArray} {c : ByteArray → R} (e : o = some (.at (.string a))) (h : Ev (c a) Q) : Ev (withS o c) Q := by rw [e]; exact h
theorem ev_T {vs : List AVal} {c : List AVal → R} (h : Ev (c vs) Q) : Ev (withT (.tup vs) c) Q := h
theorem ev_L {l : List AVal} {c : List AVal → R} (h : Ev (c l) Q) : Ev (bindL l c) Q := h
theorem ev_L2 {l l' : List AVal} {c : List AVal → R} (e : l = l') (h : Ev (c l') Q) : Ev (bindL l c) Q := by rw [e]; exact h
theorem ne_of_cell {B : Box} {o : Nat} {a : AVal} (h : B.cells[o]? = some a) : 0 < B.cells.length := by
  rcases Nat.lt_or_ge o B.cells.length with h1 | h1
  · omega
  · rw [List.getElem?_eq_none h1] at h; cases h
variable {sg : Sg} {L : Hp} {n g o : Nat} {B : Box}
theorem ev_ld {c : List AVal × Nat → R} (hL : Has sg L) (n : Nat) (e : L[n]? = some (g, B)) (hne : 0 < B.cells.length) (h : Ev (c (B.cells, o)) Q) :
    Ev (withO (loadC none sg (.gp g o)) c) Q := by rw [loadC_gp (hL.at e) hne]; exact h
theorem ev_ldA {a : AVal} {c : AVal → R} (hL : Has sg L) (n : Nat) (e : L[n]? = some (g, B)) (ea : B.cells[o]? = some a) (h : Ev (c a) Q) :
    Ev (withO (loadC none sg (.gp g o)) fun p => withA p.fst[p.snd]? c) Q := ev_ld hL n e (ne_of_cell ea) (ev_A ea h)
theorem ev_ldI {k : IntKind} {a : Int} {c : Int → R} (hL : Has sg L) (n : Nat) (e : L[n]? = some (g, B)) (ea : B.cells[o]? = some (.at (.int k a))) (h : Ev (c a) Q) :
    Ev (withO (loadC none sg (.gp g o)) fun p => withI k p.fst[p.snd]? c) Q := ev_ld hL n e (ne_of_cell ea) (ev_I ea h)
theorem ev_ldB {a : Bool} {c : Bool → R} (hL : Has sg L) (n : Nat) (e : L[n]? = some (g, B)) (ea : B.cells[o]? = some (.at (.bool a))) (h : Ev (c a) Q) :
    Ev (withO (loadC none sg (.gp g o)) fun p => withB p.fst[p.snd]? c) Q := ev_ld hL n e (ne_of_cell ea) (ev_B ea h)
theorem ev_ldS {a : ByteArray} {c : ByteArray → R} (hL : Has sg L) (n : Nat) (e : L[n]? = some (g, B)) (ea : B.cells[o]? = some (.at (.string a))) (h : Ev (c a) Q) :
    Ev (withO (loadC none sg (.gp g o)) fun p => withS p.fst[p.snd]? c) Q := ev_ld hL n e (ne_of_cell ea) (ev_S ea h)
theorem ev_elem {sz len : Nat} {i : Int} {c : AVal → R} (h0 : 0 ≤ i) (h1 : i < len) (h : Ev (c (.gp g (o + i.toNat * sz))) Q) : Ev (withO (elemV sz i (.gs g sz o len)) c) Q := by
  rw [elemV_gs h0 h1]; exact h
theorem ev_st {m : Nat} {v : AVal} {c : Sg → R} (hL : Has sg L) (n : Nat) (e : L[n]? = some (g, B)) (hv : v.cells.length = m) (ho : o + m ≤ B.cells.length) (h0 : 0 < B.cells.length)
    (h : ∀ sg', Has sg' (L.set n (g, .mk (splice B.cells o v.cells))) → Ev (c sg') Q) : Ev (withO (storeG none sg (.gp g o) m v) c) Q := by
  rw [storeG_gp (hL.at e) hv ho h0]; exact h _ (hL.put _ e)
theorem ev_map {es : List (AVal × AVal)} {c : Nat × List (AVal × AVal) → R} (hL : Has sg L) (n : Nat) (e : L[n]? = some (g, .map es)) (h : Ev (c (g, es)) Q) :
    Ev (withO (mapV sg (.gm g)) c) Q := by
  have : mapV sg (.gm g) = some (g, es) := by simp only [mapV, hL.at e]
  rw [this]; exact h
theorem ev_app_nil {ty : Option TypeId} {esz bytes sz m : Nat} {fl : List AVal} {c : AVal × Sg → R} (hL : Has sg L) (h : ∀ g' sg', Has sg' ((g', boxT ty fl) :: L) → Ev (c (.gs g' esz 0 m, sg')) Q) :
    Ev (withO (app1 ty esz bytes sg (.sl true sz []) m fl) c) Q := by
  rw [app1_nil]; exact h _ _ (hL.new _)
theorem ev_app_gs {esz bytes k m : Nat} {fl cs : List AVal} {c : AVal × Sg → R} (hL : Has sg L) (n : Nat) (e : L[n]? = some (g, .mk cs)) (hl : cs.length = k * esz) (h0 : 0 < cs.length) (hb : (k + m) * bytes ≤ 35184372088832)
    (h : ∀ g' sg', Has sg' ((g', .mk (cs ++ fl)) :: L.set n (g, .mk [])) → Ev (c (.gs g' esz 0 (k + m), sg')) Q) :
    Ev (withO (app1 none esz bytes sg (.gs g esz 0 k) m fl) c) Q := by
  rw [app1_gs (hL.at e) rfl hl h0 hb]
  refine h _ _ ?_
  have h1 := (hL.put (.mk []) e).new (.mk (cs ++ fl))
  rw [List.length_set] at h1; exact h1
theorem ev_ldG {m : Nat} {cs : List AVal} {c : List AVal → R} (hL : Has sg L) (n : Nat) (e : L[n]? = some (g, B)) (ec : (B.cells.drop o).take m = cs) (hm : cs.length = m) (h0 : 0 < m) (h : Ev (c cs) Q) :
    Ev (withO (loadC none sg (.gp g o)) fun p => bif (p.snd + m).ble p.fst.length then bindL (List.take m (List.drop p.snd p.fst)) c else none) Q := by
  have h1 : o + m ≤ B.cells.length := by
    have := congrArg List.length ec
    simp only [List.length_take, List.length_drop] at this
    omega
  refine ev_ld hL n e (by omega) ?_
  show Ev (bif (o + m).ble B.cells.length then bindL (List.take m (List.drop o B.cells)) c else none) Q
  rw [ec]
  exact ev_bif (Nat.ble_eq_true_of_le h1) h
theorem ev_iter {rnd : St → (Ex → St → R) → R} {k : Ex → St → R} (m : Nat) (I : Nat → St → Prop)
    (hR : ∀ i st K, i ≤ m → I i st → (∀ st', i < m → I (i + 1) st' → Ev (K .normal st') Q) → (∀ id st', Ev (k (.exit id) st') Q → Ev (K (.exit id) st') Q) → (∀ st', Ev (k .ret st') Q → Ev (K .ret st') Q) → Ev (rnd st K) Q) :
    ∀ (j i M : Nat) (st : St), i + j = m → j < M → I i st → Ev (iter rnd M st k) Q
  | j, i, M + 1, st, hi, hM, h => by
    show Ev (rnd st _) Q
    refine hR i st _ (by omega) h (fun st' hlt h' => ?_) (fun id st' h' => h') (fun st' h' => h')
    match j, hlt with
    | j + 1, _ => exact ev_iter m I hR j (i + 1) M st' (by omega) (by omega) h'
    | 0, hlt => omega
  | j, i, 0, st, hi, hM, h => by omega
theorem ev_loop {rnd : St → (Ex → St → R) → R} {k : Ex → St → R} {M : Nat} {st : St} (m : Nat) (I : Nat → St → Prop) (hM : m < M) (h0 : I 0 st)
    (hR : ∀ i st K, i ≤ m → I i st → (∀ st', i < m → I (i + 1) st' → Ev (K .normal st') Q) → (∀ id st', Ev (k (.exit id) st') Q → Ev (K (.exit id) st') Q) → (∀ st', Ev (k .ret st') Q → Ev (K .ret st') Q) → Ev (rnd st K) Q) :
    Ev (iter rnd M st k) Q := ev_iter m I hR m 0 M st (by omega) hM h0
end
theorem splice_map {α : Type} (f : α → AVal) {l : List α} {i : Nat} {x : α} {v : AVal} (hv : v.cells = [f x]) (h : i < l.length) : splice (l.map f) (0 + ((i : Nat) : Int).toNat * 1) v.cells = (l.set i x).map f := by
  have e : 0 + ((i : Nat) : Int).toNat * 1 = i := by simp
  rw [e, hv]
  simp only [splice, List.length_singleton]
  rw [List.map_set, List.set_eq_take_append_cons_drop, if_pos (by simpa using h)]
  simp
theorem i64_nat {i : Nat} (h : i < 4611686018427387904) : IntKind.i64.wrap (((i : Nat) : Int) + 1) = ((i + 1 : Nat) : Int) := by
  rw [Go.IntWalk.i64_in _ ⟨by omega, by omega⟩]; simp
section
variable {α : Type}
def emb (f : α → AVal) (l : List (Int × α)) : List (AVal × AVal) := l.map fun p => (vI p.1, f p.2)
def lk (k : Int) : List (Int × α) → Option α
  | [] => none
  | (k', v) :: l => if k = k' then some v else lk k l
def insM (k : Int) (v : α) : List (Int × α) → List (Int × α)
  | [] => [(k, v)]
  | (k', v') :: l => if k = k' then (k, v) :: l else (k', v') :: insM k v l
variable (f : α → AVal)
theorem mGet_emb (k : Int) : ∀ l, mGet (vI k) (emb f l) = some ((lk k l).map f)
  | [] => rfl
  | (k', v) :: l => by
    have ih := mGet_emb k l
    simp only [emb] at ih
    simp only [emb, List.map_cons, mGet, keyIs, kEq, cond_true, lk]
    by_cases h : k = k'
    · simp [h]
    · have hb : (k == k') = false := by simpa using h
      simp only [hb, if_neg h, ih]
      try rfl
theorem mSet_emb (k : Int) (v : α) : ∀ l, mSet (vI k) (f v) (emb f l) = some (emb f (insM k v l))
  | [] => rfl
  | (k', v') :: l => by
    have ih := mSet_emb k v l
    simp only [emb] at ih
    simp only [emb, List.map_cons, mSet, keyIs, kEq, cond_true, insM]
    by_cases h : k = k'
    · simp [h]
    · have hb : (k == k') = false := by simpa using h
      simp only [hb, if_neg h, ih]
      try rfl
theorem keysI_emb : ∀ (l : List (Int × α)), keysI (emb f l) = some (l.map (·.1))
  | [] => rfl
  | (k, v) :: l => by
    have ih := keysI_emb l
    simp only [emb] at ih
    simp only [emb, List.map_cons, keysI, ih]
theorem lk_ins (k : Int) (v : α) (j : Int) : ∀ l, lk j (insM k v l) = if j = k then some v else lk j l
  | [] => by simp [insM, lk]
  | (k', v') :: l => by
    have ih := lk_ins k v j l
    simp only [insM]
    by_cases h : k = k'
    · subst h; simp only [if_true, lk]; split <;> rfl
    · simp only [if_neg h, lk, ih]
      by_cases h2 : j = k'
      · subst h2; simp [Ne.symm h]
      · simp [h2]
theorem lk_none {j : Int} : ∀ {l : List (Int × α)}, lk j l = none ↔ j ∉ l.map (·.1)
  | [] => by simp [lk]
  | (k', v') :: l => by
    simp only [lk, List.map_cons, List.mem_cons, not_or]
    by_cases h : j = k'
    · simp [h]
    · simp [h, lk_none (l := l)]
theorem keys_ins {k : Int} {v : α} : ∀ {l : List (Int × α)} {j : Int}, j ∈ (insM k v l).map (·.1) ↔ j = k ∨ j ∈ l.map (·.1)
  | [], j => by simp [insM]
  | (k', v') :: l, j => by
    have ih := keys_ins (k := k) (v := v) (l := l) (j := j)
    simp only [insM]
    by_cases h : k = k'
    · subst h; simp
    · simp only [if_neg h, List.map_cons, List.mem_cons, ih]
      constructor
      · rintro (h1 | h1 | h1) <;> simp [h1]
      · rintro (h1 | h1 | h1) <;> simp [h1]
theorem nodup_ins {k : Int} {v : α} : ∀ {l : List (Int × α)}, (l.map (·.1)).Nodup → ((insM k v l).map (·.1)).Nodup
  | [], _ => by simp [insM]
  | (k', v') :: l, h => by
    simp only [List.map_cons, List.nodup_cons] at h
    simp only [insM]
    by_cases h1 : k = k'
    · subst h1; simpa using h
    · simp only [if_neg h1, List.map_cons, List.nodup_cons]
      refine ⟨fun hm => ?_, nodup_ins h.2⟩
      rcases keys_ins.1 hm with h2 | h2
      · exact h1 h2.symm
      · exact h.1 h2
end
theorem len_le_of_nodup {n : Nat} : ∀ {l : List Int}, l.Nodup → (∀ x, x ∈ l → 0 ≤ x ∧ x < n) → l.length ≤ n := by
  induction n with
  | zero =>
    intro l _ h2
    cases l with
    | nil => simp
    | cons x l => have := h2 x (by simp); omega
  | succ n ih =>
    intro l h1 h2
    have h3 := ih (l := l.erase (n : Int)) (h1.erase _) (fun x hx => by
      have a1 := h2 x (List.mem_of_mem_erase hx)
      have a2 : x ≠ (n : Int) := by
        rintro rfl
        exact (List.Nodup.not_mem_erase h1) hx
      omega)
    rw [List.length_erase] at h3
    split at h3 <;> omega
end Go.Abs
namespace Go.Abs
open Go
set_option linter.unusedVariables false
set_option maxRecDepth 100000
structure ADisk where
  safe : List ByteArray
  wr : List (Nat × ByteArray)
  armed : Int
  down : Bool
  ops : Int
def flatW : List (Nat × ByteArray) → List AVal
  | [] => []
  | p :: l => vI p.1 :: vS p.2 :: flatW l
def wrV (w : Nat) (l : List (Nat × ByteArray)) : AVal := match l with
  | [] => .sl true w []
  | _ :: _ => .gs w 2 0 l.length
def wrH (w : Nat) (l : List (Nat × ByteArray)) : Hp := match l with
  | [] => []
  | _ :: _ => [(w, .mk (flatW l))]
def dkB (g w : Nat) (D : ADisk) : Box := .mk [.gs g 1 0 D.safe.length, wrV w D.wr, vI D.armed, vB D.down, vI D.ops]
def dkH (d g w : Nat) (D : ADisk) : Hp := (d, dkB g w D) :: (g, .mk (D.safe.map vS)) :: wrH w D.wr
def ADisk.stop (D : ADisk) : Bool := D.down || D.armed == 1
def ADisk.go (D : ADisk) : ADisk := { D with armed := max2 (IntKind.i64.wrap (D.armed - 1)) 0, ops := IntKind.i64.wrap (D.ops + 1) }
theorem flatW_len : ∀ l, (flatW l).length = 2 * l.length
  | [] => rfl
  | p :: l => by simp [flatW, flatW_len l]; omega
theorem flatW_app (p : Nat × ByteArray) : ∀ l, flatW (l ++ [p]) = flatW l ++ [vI p.1, vS p.2]
  | [] => rfl
  | q :: l => by simp [flatW, flatW_app p l]
theorem flatW_at : ∀ (l : List (Nat × ByteArray)) (i : Nat) (p : Nat × ByteArray), l[i]? = some p → ((flatW l).drop (i * 2)).take 2 = [vI p.1, vS p.2]
  | [], i, p, h => by simp at h
  | q :: l, 0, p, h => by
    simp at h; subst h; simp [flatW]
  | q :: l, i + 1, p, h => by
    have e : (i + 1) * 2 = (i * 2 + 1) + 1 := by omega
    rw [e]
    simp only [flatW, List.drop_succ_cons]
    exact flatW_at l i p (by simpa using h)
variable {N dp : Nat} {sg : Sg} {d g w : Nat} {D : ADisk} {R : Hp}
theorem step_ok (h : Has sg (dkH d g w D ++ R)) (hs : D.stop = false) :
    Ev (tab N (dp + 1) 235 [.gp d 0] sg) (Rt fun v sg' => v = vI 0 ∧ Has sg' (dkH d g w D.go ++ R)) := by
  simp only [ADisk.stop, Bool.or_eq_false_iff] at hs
  refine ev_of ((t235 ..).trans (disk_Disk_step.main ..)) ?_
  refine ev_ldB h 0 rfl rfl (ev_if hs.1 ?_)
  refine ev_ldI h 0 rfl rfl (ev_else (by simp [hs.2]) ?_)
  refine ev_ldI h 0 rfl rfl ?_
  refine ev_st h 0 rfl rfl (Nat.le_of_ble_eq_true rfl) (Nat.succ_pos _) fun sg1 h1 => ?_
  refine ev_ldI h1 0 rfl rfl ?_
  refine ev_st h1 0 rfl rfl (Nat.le_of_ble_eq_true rfl) (Nat.succ_pos _) fun sg2 h2 => ?_
  exact ev_ret ⟨rfl, h2⟩
theorem len_ok (h : Has sg (dkH d g w D ++ R)) : Ev (tab N (dp + 1) 129 [.gp d 0] sg) (Rt fun v sg' => v = vI D.safe.length ∧ sg' = sg) := by
  refine ev_of ((t129 ..).trans (disk_Disk_Len.main ..)) ?_
  refine ev_else (by decide) ?_
  refine ev_ldA h 0 rfl rfl ?_
  exact ev_O rfl (ev_ret ⟨rfl, rfl⟩)
theorem has_ok {i : Int} (h : Has sg (dkH d g w D ++ R)) :
    Ev (tab N (dp + 2) 234 [.gp d 0, vI i] sg) (Rt fun v sg' => v = vB (decide (0 ≤ i ∧ i < D.safe.length)) ∧ sg' = sg) := by
  refine ev_of ((t234 ..).trans (disk_Disk_has.main ..)) ?_
  refine ev_ite (fun h0 => ?_) (fun h0 => ?_)
  · refine ev_call (len_ok h) rfl ?_
    rintro _ sg1 ⟨rfl, rfl⟩
    refine ev_I rfl (ev_ret ⟨?_, rfl⟩)
    have : 0 ≤ i := by simpa using h0
    simp [this]
  · refine ev_ret ⟨?_, rfl⟩
    have : ¬ 0 ≤ i := by simpa using h0
    simp [this]
theorem wrV_app (w : Nat) (l : List (Nat × ByteArray)) (p : Nat × ByteArray) : wrV w (l ++ [p]) = .gs w 2 0 (l.length + 1) := by
  cases l <;> simp [wrV]
theorem wrH_app (w : Nat) (l : List (Nat × ByteArray)) (p : Nat × ByteArray) : wrH w (l ++ [p]) = [(w, .mk (flatW l ++ [vI p.1, vS p.2]))] := by
  rw [← flatW_app]; cases l <;> rfl
def ADisk.write (D : ADisk) (i : Nat) (s : ByteArray) : ADisk := { D.go with wr := D.wr ++ [(i, s)] }
theorem write_ok {i : Nat} {s : ByteArray} (h : Has sg (dkH d g w D ++ R)) (hi : i < D.safe.length) (hs : s.size = 512) (hk : (D.wr.length + 1) * 24 ≤ 35184372088832) (hd : D.stop = false) :
    Ev (tab N (dp + 3) 130 [.gp d 0, vI i, vS s] sg) (Rt fun v sg' => v = vI 0 ∧ ∃ w', Has sg' (dkH d g w' (D.write i s) ++ R)) := by
  refine ev_of ((t130 ..).trans (disk_Disk_Write.main ..)) ?_
  refine ev_call (has_ok h) rfl ?_
  rintro _ _ ⟨rfl, rfl⟩
  refine ev_B rfl (ev_if (by simp; omega) (ev_else (by simp [hs]) ?_))
  refine ev_call (step_ok h hd) rfl ?_
  rintro _ sg1 ⟨rfl, h1⟩
  refine ev_I rfl (ev_if rfl ?_)
  refine ev_ldA h1 0 rfl rfl ?_
  refine ev_bif rfl ?_
  have h2 := h1.new (Box.mk [vI i, vS s])
  refine ev_O (flatG_gs (h2.at (n := 0) rfl) (Nat.le_of_ble_eq_true rfl) (Nat.succ_pos _)) ?_
  refine ev_bie rfl (ev_if (show (1 : Nat) * 24 ≤ 35184372088832 by decide) ?_)
  obtain ⟨safe, wr, armed, down, ops⟩ := D
  cases wr with
  | nil =>
    refine ev_app_nil h2 fun w' sg2 h3 => ?_
    refine ev_A rfl ?_
    refine ev_st h3 2 rfl rfl (Nat.le_of_ble_eq_true rfl) (Nat.succ_pos _) fun sg3 h4 => ?_
    refine ev_ret ⟨rfl, w', ?_⟩
    have h5 : Has sg3 ((w', Box.mk [vI i, vS s]) :: (sg1.length, Box.mk [vI i, vS s]) :: (d, _) :: (g, Box.mk (safe.map vS)) :: R) := h4
    exact (h5.sub (.cons_cons _ (.cons _ (List.Sublist.refl _)))).rot (A := [_, _])
  | cons x l =>
    refine ev_app_gs h2 3 rfl (by rw [flatW_len]; omega) (by rw [flatW_len]; simp [ADisk.go]) (by simpa [ADisk.go] using hk) fun w' sg2 h3 => ?_
    refine ev_A rfl ?_
    refine ev_st h3 2 rfl rfl (Nat.le_of_ble_eq_true rfl) (Nat.succ_pos _) fun sg3 h4 => ?_
    refine ev_ret ⟨rfl, w', ?_⟩
    have h5 : Has sg3 ((w', Box.mk (flatW (x :: l) ++ [vI i, vS s])) :: (sg1.length, Box.mk [vI i, vS s]) :: (d, _) :: (g, Box.mk (safe.map vS)) :: (w, Box.mk []) :: R) := h4
    have h6 := (h5.sub (.cons_cons _ (.cons _ (.cons_cons _ (.cons_cons _ (.cons _ (List.Sublist.refl _))))))).rot (A := [_, _])
    unfold dkH ADisk.write
    rw [wrH_app, dkB, wrV_app]
    exact h6
def appl (l : List (Nat × ByteArray)) (s : List ByteArray) : List ByteArray := l.foldl (fun s p => s.set p.1 p.2) s
theorem appl_len : ∀ (l : List (Nat × ByteArray)) (s : List ByteArray), (appl l s).length = s.length
  | [], s => rfl
  | p :: l, s => by
    show (appl l (s.set p.1 p.2)).length = _
    rw [appl_len l, List.length_set]
theorem appl_snoc (l : List (Nat × ByteArray)) (p : Nat × ByteArray) (s : List ByteArray) : appl (l ++ [p]) s = (appl l s).set p.1 p.2 := by simp [appl]
def ADisk.settled (D : ADisk) : ADisk := { D with safe := appl D.wr D.safe, wr := [] }
def setSt (d w : Nat) (D : ADisk) (n : Int) (i : Nat) (sg : Sg) : St := mkS [0, 1, 5, 11, 12, 13]
  [.v (.gp d 0) false, .v (.clo 236 [] []) false, .v (vI n) false, .v (wrV w D.wr) false, .v (vI D.wr.length) false, .v (vI i) false] [none, none, none, none, none, none] (.sg sg)
theorem settle_ok (h : Has sg (dkH d g w D ++ R)) (hw : ∀ p, p ∈ D.wr → p.1 < D.safe.length) (hN : D.wr.length < N) (hb : D.wr.length < 4611686018427387904) :
    Ev (tab N (dp + 2) 150 [.gp d 0, .clo 236 [] []] sg) (Rt fun v sg' => (∃ n, v = vI n) ∧ Has sg' (dkH d g 0 D.settled ++ R)) := by
  refine ev_of ((t150 ..).trans (disk_Disk_settle.main ..)) ?_
  refine ev_ldA h 0 rfl rfl ?_
  refine ev_O (a := D.wr.length) (by cases D.wr <;> rfl) ?_
  refine ev_loop D.wr.length (fun i st => ∃ n sg', st = setSt d w D n i sg' ∧ Has sg' (dkH d g w { D with safe := appl (D.wr.take i) D.safe } ++ R)) hN ⟨0, sg, rfl, h⟩ ?_
  rintro i st K hi ⟨n, sg1, rfl, h1⟩ hnext hexit _
  refine ev_of (disk_Disk_settle.r0 ..) ?_
  rcases Nat.lt_or_ge i D.wr.length with hlt | hge
  · refine ev_if (by simpa using hlt) ?_
    obtain ⟨p, hp⟩ : ∃ p, D.wr[i]? = some p := ⟨_, List.getElem?_eq_getElem hlt⟩
    have hpm : p ∈ D.wr := List.mem_of_getElem? hp
    have hpl := hw p hpm
    obtain ⟨safe, wr, armed, down, ops⟩ := D
    cases wr with
    | nil => simp at hlt
    | cons x l =>
      refine ev_elem (by omega) (Int.ofNat_lt.2 hlt) ?_
      have e1 : 0 + ((i : Nat) : Int).toNat * 2 = i * 2 := by simp
      rw [e1]
      refine ev_ldG h1 2 rfl (flatW_at _ i p hp) rfl (by decide) ?_
      refine ev_bif rfl (ev_L ?_)
      refine ev_call (f := 236) (φ := fun v sg' => v = vB true ∧ sg' = sg1) ?_ rfl ?_
      · exact ev_of ((t236 ..).trans (disk_Disk_Flush_1.main ..)) (ev_ret ⟨rfl, rfl⟩)
      · rintro _ _ ⟨rfl, rfl⟩
        refine ev_B rfl (ev_if rfl ?_)
        refine ev_ldA h1 0 rfl rfl ?_
        refine ev_I rfl (ev_S rfl ?_)
        refine ev_elem (by omega) (by rw [appl_len]; exact Int.ofNat_lt.2 hpl) ?_
        refine ev_st h1 1 rfl rfl ?_ ?_ fun sg2 h2 => ?_
        · simp [appl_len]; exact hpl
        · simp [appl_len]; exact Nat.lt_of_le_of_lt (Nat.zero_le _) hpl
        · rw [i64_nat (by omega)]
          refine hnext _ hlt ⟨_, sg2, rfl, ?_⟩
          have e2 : appl (List.take (i + 1) (x :: l)) safe = (appl (List.take i (x :: l)) safe).set p.1 p.2 := by
            rw [List.take_add_one, hp]; exact appl_snoc ..
          have h3 : Has sg2 ((d, dkB g w { safe := appl (List.take i (x :: l)) safe, wr := x :: l, armed := armed, down := down, ops := ops }) ::
            (g, Box.mk (splice ((appl (List.take i (x :: l)) safe).map vS) (0 + ((p.1 : Nat) : Int).toNat * 1) (vS p.2).cells)) :: (w, Box.mk (flatW (x :: l))) :: R) := h2
          rw [splice_map vS rfl (by rw [appl_len]; exact hpl), ← e2] at h3
          have e3 : dkB g w { safe := appl (List.take (i + 1) (x :: l)) safe, wr := x :: l, armed := armed, down := down, ops := ops } = dkB g w { safe := appl (List.take i (x :: l)) safe, wr := x :: l, armed := armed, down := down, ops := ops } := by
            simp only [dkB, appl_len]
          rw [← e3] at h3
          exact h3
  · obtain rfl : i = D.wr.length := by omega
    refine ev_else (by simp) ?_
    refine hexit _ _ ?_
    refine ev_of (disk_Disk_settle.k0_1 ..) ?_
    rw [List.take_length] at h1
    refine ev_st h1 0 rfl rfl (Nat.le_of_ble_eq_true rfl) (Nat.succ_pos _) fun sg2 h2 => ?_
    refine ev_ret ⟨⟨_, rfl⟩, ?_⟩
    obtain ⟨safe, wr, armed, down, ops⟩ := D
    cases wr with
    | nil => exact h2
    | cons x l =>
      have h3 : Has sg2 ((d, dkB g 0 { safe := appl (x :: l) safe, wr := [], armed := armed, down := down, ops := ops }) :: (g, Box.mk ((appl (x :: l) safe).map vS)) :: (w, Box.mk (flatW (x :: l))) :: R) := h2
      exact h3.sub (.cons_cons _ (.cons_cons _ (.cons _ (List.Sublist.refl _))))
theorem flush_ok (h : Has sg (dkH d g w D ++ R)) (hw : ∀ p, p ∈ D.wr → p.1 < D.safe.length) (hN : D.wr.length < N) (hb : D.wr.length < 4611686018427387904) (hd : D.stop = false) :
    Ev (tab N (dp + 3) 132 [.gp d 0] sg) (Rt fun v sg' => v = vI 0 ∧ Has sg' (dkH d g 0 D.go.settled ++ R)) := by
  refine ev_of ((t132 ..).trans (disk_Disk_Flush.main ..)) ?_
  refine ev_else (by decide) ?_
  refine ev_call (step_ok h hd) rfl ?_
  rintro _ sg1 ⟨rfl, h1⟩
  refine ev_I rfl (ev_if rfl ?_)
  refine ev_call (settle_ok h1 hw hN hb) rfl ?_
  rintro _ sg2 ⟨⟨n, rfl⟩, h2⟩
  exact ev_I rfl (ev_ret ⟨rfl, h2⟩)
theorem down_ok (h : Has sg (dkH d g w D ++ R)) : Ev (tab N (dp + 1) 141 [.gp d 0] sg) (Rt fun v sg' => v = vB D.down ∧ sg' = sg) := by
  refine ev_of ((t141 ..).trans (disk_Disk_Down.main ..)) ?_
  refine ev_if (by decide) ?_
  exact ev_ldB h 0 rfl rfl (ev_ret ⟨rfl, rfl⟩)
def Dk (n k d : Nat) (A : Hp) : Prop := ∃ g w D, A = dkH d g w D ∧ D.down = false ∧ D.armed = 0 ∧ D.safe.length = n ∧ D.wr.length = k ∧ ∀ p, p ∈ D.wr → p.1 < n
theorem go_armed {D : ADisk} (h : D.armed = 0) : D.go.armed = 0 := by
  simp only [ADisk.go, h]; decide
theorem stop_of {D : ADisk} (h1 : D.down = false) (h2 : D.armed = 0) : D.stop = false := by simp [ADisk.stop, h1, h2]
variable {A : Hp} {n k : Nat}
theorem dk_write {i : Nat} {s : ByteArray} (hA : Dk n k d A) (h : Has sg (A ++ R)) (hi : i < n) (hs : s.size = 512) (hk : k < 1073741824) :
    Ev (tab N (dp + 3) 130 [.gp d 0, vI i, vS s] sg) (Rt fun v sg' => v = vI 0 ∧ ∃ A', Dk n (k + 1) d A' ∧ Has sg' (A' ++ R)) := by
  obtain ⟨g, w, D, rfl, h1, h2, h3, h4, h5⟩ := hA
  refine (write_ok h (by omega) hs (by omega) (stop_of h1 h2)).imt ?_
  rintro v sg' ⟨rfl, w', h6⟩
  refine ⟨rfl, _, ⟨g, w', D.write i s, rfl, h1, go_armed h2, h3, ?_, ?_⟩, h6⟩
  · simp [ADisk.write, ADisk.go, h4]
  · intro p hp
    simp only [ADisk.write, List.mem_append, List.mem_singleton] at hp
    rcases hp with hp | rfl
    · exact h5 p hp
    · exact hi
theorem dk_flush (hA : Dk n k d A) (h : Has sg (A ++ R)) (hN : k < N) (hk : k < 1073741824) :
    Ev (tab N (dp + 3) 132 [.gp d 0] sg) (Rt fun v sg' => v = vI 0 ∧ ∃ A', Dk n 0 d A' ∧ Has sg' (A' ++ R)) := by
  obtain ⟨g, w, D, rfl, h1, h2, h3, h4, h5⟩ := hA
  refine (flush_ok h (by rw [h3]; exact h5) (by omega) (by omega) (stop_of h1 h2)).imt ?_
  rintro v sg' ⟨rfl, h6⟩
  refine ⟨rfl, _, ⟨g, 0, D.go.settled, rfl, h1, go_armed h2, ?_, rfl, ?_⟩, h6⟩
  · simp [ADisk.settled, appl_len, ADisk.go, h3]
  · intro p hp; cases hp
theorem dk_down (hA : Dk n k d A) (h : Has sg (A ++ R)) : Ev (tab N (dp + 1) 141 [.gp d 0] sg) (Rt fun v sg' => v = vB false ∧ sg' = sg) := by
  obtain ⟨g, w, D, rfl, h1, h2, h3, h4, h5⟩ := hA
  refine (down_ok h).imt ?_
  rintro v sg' ⟨rfl, rfl⟩
  rw [h1]; exact ⟨rfl, rfl⟩
theorem dk_len (hA : Dk n k d A) (h : Has sg (A ++ R)) : Ev (tab N (dp + 1) 129 [.gp d 0] sg) (Rt fun v sg' => v = vI n ∧ sg' = sg) := by
  obtain ⟨g, w, D, rfl, h1, h2, h3, h4, h5⟩ := hA
  refine (len_ok h).imt ?_
  rintro v sg' ⟨rfl, rfl⟩
  rw [h3]; exact ⟨rfl, rfl⟩
end Go.Abs
namespace Go.Abs
open Go
set_option linter.unusedVariables false
set_option maxRecDepth 100000
theorem catS_size (a b : ByteArray) : (catS a b).size = a.size + b.size := by rw [catS_eq]; simp
theorem szle {n : Nat} (h : n ≤ 1000000000) : ¬ ((n : Int) > IntKind.i64.max) := by
  have e : IntKind.i64.max = 9223372036854775807 := by decide
  rw [e]; omega
theorem i64_in {n : Int} (h : -9223372036854775808 ≤ n ∧ n ≤ 9223372036854775807) : IntKind.i64.wrap n = n := Go.IntWalk.i64_in n h
theorem splice_len {cs xs : List AVal} {o : Nat} (h : o + xs.length ≤ cs.length) : (splice cs o xs).length = cs.length := by
  simp only [splice, List.length_append, List.length_take, List.length_drop]; omega
theorem splice_mem {cs xs : List AVal} {o : Nat} {a : AVal} (h : a ∈ splice cs o xs) : a ∈ cs ∨ a ∈ xs := by
  simp only [splice, List.mem_append] at h
  rcases h with h | h | h
  · exact .inl (List.mem_of_mem_take h)
  · exact .inr h
  · exact .inl (List.mem_of_mem_drop h)
theorem bytes_some : ∀ {cs : List AVal}, (∀ a, a ∈ cs → ∃ m, a = v8 m) → ∃ bs, bytesOf cs = some bs ∧ bs.length = cs.length
  | [], _ => ⟨[], rfl, rfl⟩
  | a :: cs, h => by
    obtain ⟨m, rfl⟩ := h a (by simp)
    obtain ⟨bs, h1, h2⟩ := bytes_some (cs := cs) fun a ha => h a (by simp [ha])
    refine ⟨UInt8.ofNat m.toNat :: bs, ?_, by simp [h2]⟩
    simp only [bytesOf, h1]
variable {N dp : Nat} {sg : Sg}
theorem width_ok {w : Int} (h1 : 1 ≤ w) (h2 : w ≤ 8) : Ev (tab N (dp + 1) 277 [vI w] sg) (Rt fun v _ => v = vB true) := by
  refine ev_of ((t277 ..).trans (octets_width.main ..)) ?_
  refine ev_if (by simpa using h1) (ev_ret ?_)
  rw [decide_eq_true h2]
theorem num_ok {w n : Int} (h1 : 1 ≤ w) (h2 : w ≤ 8) (hN : 10 < N) : Ev (tab N (dp + 2) 194 [vI w, vU n] []) (Rt fun v _ => ∃ s, v = vS s ∧ (s.size : Int) = w) := by
  refine ev_of ((t194 ..).trans (octets_Num.main ..)) ?_
  refine ev_call (width_ok h1 h2) rfl ?_
  rintro _ _ rfl
  refine ev_B rfl (ev_else (by decide) ?_)
  have h0 := (has_nil []).new (Box.mk [v8 0, v8 0, v8 0, v8 0, v8 0, v8 0, v8 0, v8 0])
  refine ev_loop w.toNat (fun i st => ∃ sg cs, st = mkS [0, 1, 5, 10, 11] [.v (vI w) false, .v (vU n) false, .v (.gp 0 0) false, .v (vI w) false, .v (vI i) false] [none, none, none, none, none] (.sg sg) ∧
    Has sg [(0, .mk cs)] ∧ cs.length = 8 ∧ ∀ a, a ∈ cs → ∃ m, a = v8 m) (by omega) ⟨_, _, rfl, h0, rfl, fun a ha => by simp at ha; exact ⟨0, ha⟩⟩ ?_
  rintro i st K hi ⟨sg1, cs, rfl, h1', hl, hm⟩ hnext hexit _
  refine ev_of (octets_Num.r0 ..) ?_
  refine ev_ite (fun hlt => ?_) (fun hge => ?_)
  · have hlt : (i : Int) < w := by simpa using hlt
    have e1 : IntKind.i64.wrap (8 * (i : Int)) = 8 * i := i64_in (by omega)
    have e2 : IntKind.i64.wrap (IntKind.i64.wrap (w - 1) - i) = w - 1 - i := by rw [i64_in (n := w - 1) (by omega), i64_in (by omega)]
    rw [e1, e2]
    refine ev_else (by omega) (ev_if (by omega) ?_)
    refine ev_st h1' 0 rfl rfl ?_ (by show 0 < cs.length; omega) fun sg2 h2' => ?_
    · show 0 + (w - 1 - i).toNat * 1 + 1 ≤ cs.length
      omega
    · rw [i64_nat (by omega)]
      refine hnext _ (by omega) ⟨sg2, _, rfl, h2', ?_, fun a ha => ?_⟩
      · rw [splice_len]
        · exact hl
        · show 0 + (w - 1 - i).toNat * 1 + 1 ≤ cs.length
          omega
      · rcases splice_mem ha with ha | ha
        · exact hm a ha
        · exact ⟨_, List.mem_singleton.1 ha⟩
  · refine hexit _ _ ?_
    refine ev_of (octets_Num.k0_1 ..) ?_
    refine ev_if (by omega) ?_
    refine ev_O (h1'.at (n := 0) rfl) ?_
    refine ev_bif (by simp [hl]) ?_
    refine ev_O (flatG_gs (h1'.at (n := 0) rfl) (by simp [hl]; omega) (by simp [hl])) ?_
    obtain ⟨bs, k1, k2⟩ := bytes_some (cs := (cs.drop 0).take (w.toNat * 1)) fun a ha => hm a (List.mem_of_mem_take ha)
    refine ev_O k1 (ev_ret ⟨_, rfl, ?_⟩)
    show ((bs.toArray.size : Nat) : Int) = w
    simp only [List.size_toArray, k2, List.length_take, List.length_drop, hl]
    omega
theorem short_ok {n : Int} (h1 : 0 ≤ n) (h2 : n ≤ 65535) : Ev (tab N (dp + 1) 383 [vI n] sg) (Rt fun v _ => v = vB true) := by
  refine ev_of ((t383 ..).trans (sector_short.main ..)) ?_
  refine ev_if (by simpa using h1) (ev_ret ?_)
  rw [decide_eq_true h2]
theorem nib_lt' {x : Nat} (hx : x < 4294967296) : nib x < 4294967296 := by
  have h1 : x >>> 4 < 4294967296 := Nat.lt_of_le_of_lt (Nat.shiftRight_le ..) hx
  have h2 : ∀ j, crcT.getD j 0 < 4294967296 := fun j => by
    rcases Nat.lt_or_ge j 16 with h | h
    · exact List.all_eq_true.1 (show (List.range 16).all (fun j => decide (crcT.getD j 0 < 4294967296)) = true by decide) j (List.mem_range.2 h) |> of_decide_eq_true
    · have : crcT[j]? = none := List.getElem?_eq_none h
      simp [List.getD_eq_getElem?_getD, this]
  exact Nat.xor_lt_two_pow (n := 32) h1 (h2 _)
theorem crcL_lt : ∀ (l : List UInt8) {c : Nat}, c < 4294967296 → crcL l c < 4294967296
  | [], c, h => h
  | x :: l, c, h => by
    simp only [crcL, seqN_eq]
    have hx : x.toNat < 2 ^ 32 := Nat.lt_of_lt_of_le x.toNat_lt (by decide)
    exact crcL_lt l (nib_lt' (nib_lt' (Nat.xor_lt_two_pow (n := 32) h hx)))
theorem more_ok {c : Nat} {s : ByteArray} (hc : c < 4294967296) (hs : s.size ≤ 1000000000) : Ev (tab N (dp + 1) 380 [v32 c, vS s] sg) (Rt fun v _ => ∃ n : Nat, v = v32 n ∧ n < 4294967296) := by
  refine ev_of (t380 ..) ?_
  unfold ovMore
  refine ev_if ⟨by omega, by omega, ?_⟩ (ev_ret ⟨_, rfl, ?_⟩)
  · rw [Array.length_toList]; show s.size < _; omega
  · exact Nat.xor_lt_two_pow (n := 32) (crcL_lt _ (Nat.xor_lt_two_pow (n := 32) (by omega) (by decide))) (by decide)
theorem sum_ok {s : ByteArray} (hs : s.size ≤ 1000000000) : Ev (tab N (dp + 2) 381 [vS s] sg) (Rt fun v _ => ∃ n : Nat, v = v32 n ∧ n < 4294967296) := by
  refine ev_of ((t381 ..).trans (crc_Sum.main ..)) ?_
  refine ev_call (more_ok (c := 0) (by decide) hs) rfl ?_
  rintro _ _ ⟨n, rfl, hn⟩
  exact ev_I rfl (ev_ret ⟨n, rfl, hn⟩)
abbrev secV (kind ep num at_ many : Int) (p : ByteArray) : AVal := .agg [vI kind, vU ep, vU num, vI at_, vI many, vS p]
theorem check_ok {kind ep num a m : Int} {p : ByteArray} (hk : 1 ≤ kind ∧ kind ≤ 4) (ha : 0 ≤ a ∧ a ≤ 65535) (hm : 0 ≤ m ∧ m ≤ 65535) (hp : p.size = 480) :
    Ev (tab N (dp + 2) 332 [secV kind ep num a m p] sg) (Rt fun v _ => v = vI 0) := by
  refine ev_of ((t332 ..).trans (sector_Check.main ..)) ?_
  refine ev_I rfl (ev_if (by simp; omega) ?_)
  refine ev_I rfl (ev_if (by simp; omega) ?_)
  refine ev_I rfl (ev_call (short_ok ha.1 ha.2) rfl ?_)
  rintro _ _ rfl
  refine ev_B rfl (ev_if rfl ?_)
  refine ev_I rfl (ev_call (short_ok hm.1 hm.2) rfl ?_)
  rintro _ _ rfl
  refine ev_B rfl (ev_if rfl ?_)
  exact ev_S rfl (ev_else (by simp [hp]) (ev_ret rfl))
theorem seal_ok {kind ep num a m : Int} {p : ByteArray} (hk : 1 ≤ kind ∧ kind ≤ 4) (ha : 0 ≤ a ∧ a ≤ 65535) (hm : 0 ≤ m ∧ m ≤ 65535) (hp : p.size = 480) (hN : 10 < N) :
    Ev (tab N (dp + 3) 328 [secV kind ep num a m p] []) (Rt fun v _ => ∃ s, v = .tup [vS s, vI 0] ∧ s.size = 512) := by
  refine ev_of ((t328 ..).trans (sector_Seal.main ..)) ?_
  refine ev_call (check_ok hk ha hm hp) rfl ?_
  rintro _ _ rfl
  refine ev_I rfl (ev_else (by decide) ?_)
  refine ev_I rfl (ev_call (num_ok (w := 1) (by decide) (by decide) hN) rfl ?_)
  rintro _ _ ⟨s1, rfl, e1⟩
  refine ev_S rfl (ev_call (num_ok (w := 1) (n := 0) (by decide) (by decide) hN) rfl ?_)
  rintro _ _ ⟨s2, rfl, e2⟩
  refine ev_S rfl (ev_else (szle (by omega)) ?_)
  refine ev_I rfl (ev_call (num_ok (w := 2) (by decide) (by decide) hN) rfl ?_)
  rintro _ _ ⟨s3, rfl, e3⟩
  refine ev_S rfl (ev_else (szle (by simp only [catS_size]; omega)) ?_)
  refine ev_I rfl (ev_call (num_ok (w := 2) (by decide) (by decide) hN) rfl ?_)
  rintro _ _ ⟨s4, rfl, e4⟩
  refine ev_S rfl (ev_else (szle (by simp only [catS_size]; omega)) ?_)
  refine ev_call (num_ok (w := 2) (n := 0) (by decide) (by decide) hN) rfl ?_
  rintro _ _ ⟨s5, rfl, e5⟩
  refine ev_S rfl (ev_else (szle (by simp only [catS_size]; omega)) ?_)
  refine ev_I rfl (ev_call (num_ok (w := 8) (by decide) (by decide) hN) rfl ?_)
  rintro _ _ ⟨s6, rfl, e6⟩
  refine ev_S rfl (ev_else (szle (by simp only [catS_size]; omega)) ?_)
  refine ev_I rfl (ev_call (num_ok (w := 8) (by decide) (by decide) hN) rfl ?_)
  rintro _ _ ⟨s7, rfl, e7⟩
  refine ev_S rfl (ev_else (szle (by simp only [catS_size]; omega)) ?_)
  refine ev_call (num_ok (w := 4) (n := 0) (by decide) (by decide) hN) rfl ?_
  rintro _ _ ⟨s8, rfl, e8⟩
  refine ev_S rfl (ev_else (szle (by simp only [catS_size]; omega)) ?_)
  refine ev_call (sum_ok (by simp only [catS_size]; omega)) rfl ?_
  rintro _ _ ⟨c, rfl, hc⟩
  refine ev_I rfl (ev_S rfl ?_)
  refine ev_call (more_ok hc (by omega)) rfl ?_
  rintro _ _ ⟨c2, rfl, hc2⟩
  refine ev_I rfl (ev_call (num_ok (w := 4) (by decide) (by decide) hN) rfl ?_)
  rintro _ _ ⟨s9, rfl, e9⟩
  refine ev_S rfl (ev_else (szle (by simp only [catS_size]; omega)) ?_)
  refine ev_S rfl (ev_else (szle (by simp only [catS_size]; omega)) ?_)
  exact ev_ret ⟨_, rfl, by simp only [catS_size]; omega⟩
def zeros (n : Nat) : ByteArray := ⟨⟨List.replicate n 0⟩⟩
theorem zeros_size (n : Nat) : (zeros n).size = n := by
  show (List.replicate n (0 : UInt8)).toArray.size = n
  simp
theorem repB_zero : ∀ n, repB [0] n = List.replicate n (0 : UInt8)
  | 0 => rfl
  | n + 1 => by simp [repB, repB_zero n, List.replicate_succ]
theorem pad_ok {n : Int} (h1 : 0 < n) (h2 : n ≤ 65536) : Ev (tab N (dp + 2) 126 [vS ⟨#[]⟩, vI n] sg) (Rt fun v sg' => v = vS (zeros n.toNat) ∧ sg' = sg) := by
  refine ev_of ((t126 ..).trans (octets_Pad.main ..)) ?_
  refine ev_if (by simp; omega) ?_
  have e0 : (ByteArray.mk #[]).size = 0 := rfl
  refine ev_else (by simp [e0]; omega) ?_
  have e1 : IntKind.i64.wrap (n - ((ByteArray.mk #[]).size : Int)) = n := by rw [e0, i64_in (by omega)]; omega
  rw [e1]
  refine ev_call (φ := fun v _ => v = vS (zeros n.toNat)) ?_ rfl ?_
  · refine ev_of (t230 ..) ?_
    show Ev (if 0 ≤ n ∧ n ≤ 9223372036854775807 ∧ [(0 : UInt8)].length * n.toNat ≤ 140737488355328 then some (.ret (.at (.string ⟨⟨repB [0] n.toNat⟩⟩)) []) else none) _
    refine ev_if ⟨by omega, by omega, by simp; omega⟩ (ev_ret ?_)
    rw [repB_zero]; rfl
  · rintro _ _ rfl
    refine ev_S rfl (ev_else (szle (by rw [e0, zeros_size]; omega)) (ev_ret ⟨?_, rfl⟩))
    congr 2
theorem blank_ok : Ev (tab N (dp + 3) 131 [] sg) (Rt fun v _ => v = vS (zeros 512)) := by
  refine ev_of ((t131 ..).trans (sector_Blank.main ..)) ?_
  refine ev_call (pad_ok (n := 512) (by decide) (by decide)) rfl ?_
  rintro _ _ ⟨rfl, rfl⟩
  exact ev_S rfl (ev_ret rfl)
theorem noughts_ok {s : ByteArray} : Ev (tab N (dp + 2) 333 [vS s] sg) (Rt fun v _ => ∃ b, v = vB b) := by
  refine ev_of ((t333 ..).trans (octets_Noughts.main ..)) ?_
  refine ev_call (φ := fun v _ => ∃ n, v = vI n) ?_ rfl ?_
  · refine ev_of (t384 ..) (ev_ret ⟨_, rfl⟩)
  · rintro _ _ ⟨n, rfl⟩
    exact ev_I rfl (ev_ret ⟨_, rfl⟩)
theorem home_ok {p : Int} {s : ByteArray} (ha : 0 ≤ p ∧ p ≤ 65535) (hp : s.size = 480) (hN : 10 < N) : Ev (tab N (dp + 4) 245 [vI p, vS s] []) (Rt fun v _ => ∃ b, v = .tup [vS b, vI 0] ∧ b.size = 512) := by
  refine ev_of ((t245 ..).trans (sector_Home.main ..)) ?_
  refine ev_call (check_ok (by decide) ha (by decide) hp) rfl ?_
  rintro _ _ rfl
  refine ev_I rfl (ev_if rfl ?_)
  refine ev_call noughts_ok rfl ?_
  rintro _ _ ⟨b, rfl⟩
  refine ev_B rfl (ev_ite (fun _ => ?_) (fun _ => ?_))
  · refine ev_call blank_ok rfl ?_
    rintro _ _ rfl
    exact ev_S rfl (ev_ret ⟨_, rfl, zeros_size _⟩)
  · refine ev_call (seal_ok (by decide) ha (by decide) hp hN) rfl ?_
    rintro _ _ ⟨b, rfl, hb⟩
    exact ev_T (ev_bif rfl (ev_S rfl (ev_I rfl (ev_ret ⟨b, rfl, hb⟩))))
end Go.Abs
namespace Go.Abs
open Go
set_option linter.unusedVariables false
set_option maxRecDepth 100000
def tx (l : List UInt8) : ByteArray := ⟨l.toArray⟩
theorem tx_size (l : List UInt8) : (tx l).size = l.length := by show l.toArray.size = _; simp
theorem tx_nil : tx [] = ⟨#[]⟩ := rfl
theorem tx_cat (a b : List UInt8) : catS (tx a) (tx b) = tx (a ++ b) := rfl
theorem tx_cut (l : List UInt8) (i j : Nat) : cutS (tx l) i j = tx ((l.drop i).take (j - i)) := rfl
theorem tx_list (l : List UInt8) : (tx l).data.toList = l := rfl
theorem tx_inj {a b : List UInt8} (h : tx a = tx b) : a = b := by
  have := congrArg (fun s => s.data.toList) h
  exact this
def numL : Nat → Nat → List UInt8
  | 0, _ => []
  | i + 1, n => UInt8.ofNat (n / 2 ^ (8 * i)) :: numL i n
theorem numL_len : ∀ w n, (numL w n).length = w
  | 0, _ => rfl
  | w + 1, n => by simp [numL, numL_len w]
theorem numL_mod : ∀ w v n, w ≤ v → numL w (n % 2 ^ (8 * v)) = numL w n
  | 0, _, _, _ => rfl
  | w + 1, v, n, h => by
    simp only [numL]
    rw [numL_mod w v n (by omega)]
    congr 1
    have e : 2 ^ (8 * v) = 2 ^ (8 * w) * 2 ^ (8 * (v - w)) := by rw [← Nat.pow_add]; congr 1; omega
    have e2 : 256 ∣ 2 ^ (8 * (v - w)) := ⟨2 ^ (8 * (v - w) - 8), by
      rw [show (256 : Nat) = 2 ^ 8 from rfl, ← Nat.pow_add]; congr 1; omega⟩
    rw [e, Nat.mod_mul_right_div_self]
    apply UInt8.toNat_inj.1
    rw [UInt8.toNat_ofNat', UInt8.toNat_ofNat', Nat.mod_mod_of_dvd _ e2]
def valL : List UInt8 → Nat → Nat
  | [], a => a
  | x :: l, a => valL l (a * 256 + x.toNat)
theorem valL_num : ∀ w a n, n < 2 ^ (8 * w) → valL (numL w n) a = a * 2 ^ (8 * w) + n
  | 0, a, n, h => by simp [numL, valL]; omega
  | w + 1, a, n, h => by
    simp only [numL, valL]
    have e : 2 ^ (8 * (w + 1)) = 256 * 2 ^ (8 * w) := by rw [Nat.mul_add, Nat.pow_add]; omega
    have h0 : 0 < 2 ^ (8 * w) := Nat.pow_pos (by decide)
    have hd : n / 2 ^ (8 * w) < 256 := by
      rw [Nat.div_lt_iff_lt_mul h0]; omega
    have : valL (numL w n) = valL (numL w (n % 2 ^ (8 * w))) := by
      rw [numL_mod w w n (Nat.le_refl w)]
    rw [this, valL_num w _ _ (Nat.mod_lt _ h0)]
    have e2 : (UInt8.ofNat (n / 2 ^ (8 * w))).toNat = n / 2 ^ (8 * w) := by
      rw [UInt8.toNat_ofNat', Nat.mod_eq_of_lt hd]
    rw [e2, e, Nat.add_mul]
    have := Nat.div_add_mod n (2 ^ (8 * w))
    rw [Nat.mul_comm] at this
    have e3 : a * 256 * 2 ^ (8 * w) = a * (256 * 2 ^ (8 * w)) := Nat.mul_assoc ..
    omega
theorem bytes_of : ∀ l : List UInt8, bytesOf (ofBytes l) = some l
  | [] => rfl
  | x :: l => by
    have := bytes_of l
    simp only [ofBytes] at this
    simp only [ofBytes, List.map_cons, bytesOf, this]
    simp
variable {N dp : Nat} {sg : Sg}
theorem ofB_len (l : List UInt8) : (ofBytes l).length = l.length := by simp [ofBytes]
theorem u8_wrap {x : Nat} : IntKind.u8.wrap (x : Int) = ((UInt8.ofNat x).toNat : Int) := by
  rw [UInt8.toNat_ofNat', IntKind.wrap_u8]
  omega
theorem num_eq {w n : Nat} (h1 : 1 ≤ w) (h2 : w ≤ 8) (hn : n < 2 ^ (8 * w)) (hN : 10 < N) : Ev (tab N (dp + 2) 194 [vI w, vU n] []) (Rt fun v _ => v = vS (tx (numL w n))) := by
  refine ev_of ((t194 ..).trans (octets_Num.main ..)) ?_
  refine ev_call (width_ok (by omega) (by omega)) rfl ?_
  rintro _ _ rfl
  refine ev_B rfl (ev_else (by decide) ?_)
  have h0 := (has_nil []).new (Box.mk [v8 0, v8 0, v8 0, v8 0, v8 0, v8 0, v8 0, v8 0])
  refine ev_loop w (fun i st => ∃ sg, st = mkS [0, 1, 5, 10, 11] [.v (vI w) false, .v (vU n) false, .v (.gp 0 0) false, .v (vI w) false, .v (vI i) false] [none, none, none, none, none] (.sg sg) ∧
    Has sg [(0, .mk (List.replicate (w - i) (v8 0) ++ (ofBytes (numL i n) ++ List.replicate (8 - w) (v8 0))))]) (by omega) ⟨_, rfl, ?_⟩ ?_
  · have : List.replicate (w - 0) (v8 0) ++ (ofBytes (numL 0 n) ++ List.replicate (8 - w) (v8 0)) = [v8 0, v8 0, v8 0, v8 0, v8 0, v8 0, v8 0, v8 0] := by
      show List.replicate w (v8 0) ++ List.replicate (8 - w) (v8 0) = List.replicate 8 (v8 0)
      rw [List.replicate_append_replicate]; congr 1; omega
    rw [this]; exact h0
  rintro i st K hi ⟨sg1, rfl, h1'⟩ hnext hexit _
  refine ev_of (octets_Num.r0 ..) ?_
  have hcl : (List.replicate (w - i) (v8 0) ++ (ofBytes (numL i n) ++ List.replicate (8 - w) (v8 0))).length = 8 := by
    simp only [List.length_append, List.length_replicate, ofB_len, numL_len]; omega
  refine ev_ite (fun hlt => ?_) (fun hge => ?_)
  · have hlt : i < w := by simpa using hlt
    have e1 : IntKind.i64.wrap (8 * (i : Int)) = 8 * i := i64_in (by omega)
    have e2 : IntKind.i64.wrap (IntKind.i64.wrap ((w : Int) - 1) - i) = (w : Int) - 1 - i := by rw [i64_in (n := (w : Int) - 1) (by omega), i64_in (n := (w : Int) - 1 - i) (by omega)]
    rw [e1, e2]
    refine ev_else (by omega) (ev_if (by omega) ?_)
    refine ev_st h1' 0 rfl rfl ?_ (Nat.lt_of_lt_of_eq (by decide : 0 < 8) hcl.symm) fun sg2 h2' => ?_
    · exact Nat.le_trans (by omega : _ ≤ 8) (Nat.le_of_eq hcl.symm)
    · rw [i64_nat (by omega)]
      refine hnext _ (by omega) ⟨sg2, rfl, ?_⟩
      have e3 : 0 + ((w : Int) - 1 - i).toNat * 1 = w - (i + 1) := by omega
      rw [e3] at h2'
      have e4 : IntKind.u8.wrap (shiftI BinOp.shr IntKind.u64 (n : Int) (8 * (i : Int))) = ((UInt8.ofNat (n / 2 ^ (8 * i))).toNat : Int) := by
        rw [← u8_wrap]
        congr 1
        show (n : Int).fdiv (2 ^ (min (8 * (i : Int)).toNat 64)) = _
        have : min (8 * (i : Int)).toNat 64 = 8 * i := by omega
        rw [this, Int.fdiv_eq_ediv_of_nonneg _ (by exact_mod_cast Nat.zero_le _)]
        exact_mod_cast rfl
      rw [e4] at h2'
      have e5 : splice (List.replicate (w - i) (v8 0) ++ (ofBytes (numL i n) ++ List.replicate (8 - w) (v8 0))) (w - (i + 1)) (v8 ((UInt8.ofNat (n / 2 ^ (8 * i))).toNat : Int)).cells
          = List.replicate (w - (i + 1)) (v8 0) ++ (ofBytes (numL (i + 1) n) ++ List.replicate (8 - w) (v8 0)) := by
        have e6 : w - i = (w - (i + 1)) + 1 := by omega
        rw [e6, List.replicate_succ', List.append_assoc]
        generalize List.replicate (8 - w) (v8 0) = Z
        have e7 : ∀ (A B : List AVal) (x y : AVal), y.cells = [y] → splice (A ++ ([x] ++ B)) A.length y.cells = A ++ (y :: B) := fun A B x y hy => by
          rw [hy]; simp [splice]
        have e8 := e7 (List.replicate (w - (i + 1)) (v8 0)) (ofBytes (numL i n) ++ Z) (v8 0) (v8 ((UInt8.ofNat (n / 2 ^ (8 * i))).toNat : Int)) rfl
        rw [List.length_replicate] at e8
        exact e8
      rw [← e5]; exact h2'
  · have hi' : i = w := by have : ¬ i < w := by simpa using hge
                           omega
    subst hi'
    refine hexit _ _ ?_
    refine ev_of (octets_Num.k0_1 ..) ?_
    refine ev_if (by omega) ?_
    refine ev_O (h1'.at (n := 0) rfl) ?_
    refine ev_bif (by simp [ofB_len, numL_len]; omega) ?_
    refine ev_O (flatG_gs (h1'.at (n := 0) rfl) (Nat.le_trans (by simp; omega : _ ≤ 8) (Nat.le_of_eq hcl.symm)) (Nat.lt_of_lt_of_eq (by decide : 0 < 8) hcl.symm)) ?_
    refine ev_O (a := numL i n) ?_ (ev_ret rfl)
    have e7 : (List.drop 0 (List.replicate (i - i) (v8 0) ++ (ofBytes (numL i n) ++ List.replicate (8 - i) (v8 0)))).take ((i : Int).toNat * 1) = ofBytes (numL i n) := by
      simp [ofB_len, numL_len]
    exact (congrArg bytesOf e7).trans (bytes_of _)
abbrev rdB (l : List UInt8) (e : Int) : Box := .mk [vS (tx l), vI e]
theorem rd_open {l : List UInt8} {R : Hp} (h : Has sg R) : Ev (tab N (dp + 1) 186 [vS (tx l)] sg) (Rt fun v sg' => ∃ r, v = .gp r 0 ∧ Has sg' ((r, rdB l 0) :: R)) := by
  refine ev_of ((t186 ..).trans (octets_Open.main ..)) (ev_ret ⟨_, rfl, h.new _⟩)
theorem raw_ok {r : Nat} {a b : List UInt8} {R : Hp} (h : Has sg ((r, rdB (a ++ b) 0) :: R)) (hl : (a ++ b).length ≤ 1000000) :
    Ev (tab N (dp + 1) 278 [.gp r 0, vI a.length] sg) (Rt fun v sg' => v = vS (tx a) ∧ Has sg' ((r, rdB b 0) :: R)) := by
  refine ev_of ((t278 ..).trans (octets_Reader_Raw.main ..)) ?_
  refine ev_if rfl (ev_ldI h 0 rfl rfl (ev_else (by decide) (ev_else (by simp) (ev_ldS h 0 rfl rfl ?_))))
  have es : ((tx (a ++ b)).size : Int) = ((a.length + b.length : Nat) : Int) := by rw [tx_size, List.length_append]
  refine ev_else (by rw [es]; simp; omega) (ev_ldS h 0 rfl rfl (ev_if (by rw [es]; omega) (ev_ldS h 0 rfl rfl (ev_if (by rw [es]; omega) ?_))))
  refine ev_st h 0 rfl rfl (by show 1 ≤ 2; omega) (by show 0 < 2; omega) fun sg2 h2 => ev_ret ⟨?_, ?_⟩
  · rw [tx_cut]; simp
  · have e2 : cutS (tx (a ++ b)) (a.length : Int).toNat ((tx (a ++ b)).size : Int).toNat = tx b := by
      rw [es, tx_cut, Int.toNat_natCast, Int.toNat_natCast, List.drop_left, Nat.add_sub_cancel_left, List.take_length]
    rw [e2] at h2
    exact h2
theorem or_add {x y : Nat} (hx : x < 72057594037927936) (hy : y < 256) : bitsI .or .u64 (shiftI .shl .u64 (x : Int) 8) (IntKind.u64.wrap (y : Int)) = ((x * 256 + y : Nat) : Int) := by
  have e1 : shiftI .shl .u64 (x : Int) 8 = ((x * 256 : Nat) : Int) := by
    show IntKind.u64.wrap ((x : Int) * 2 ^ (min (8 : Int).toNat 64)) = _
    have : min (8 : Int).toNat 64 = 8 := by decide
    rw [this, Go.IntWalk.u64_in _ (by omega)]
    omega
  rw [e1, Go.IntWalk.u64_in _ (by omega)]
  show IntKind.u64.wrap (((BitVec.ofInt 64 ((x * 256 : Nat) : Int) ||| BitVec.ofInt 64 (y : Int)).toNat : Nat) : Int) = _
  rw [BitVec.ofInt_natCast, BitVec.ofInt_natCast, BitVec.toNat_or, BitVec.toNat_ofNat, BitVec.toNat_ofNat, Nat.mod_eq_of_lt (by omega), Nat.mod_eq_of_lt (by omega)]
  have e2 : x * 256 ||| y = x * 256 + y := by
    have := Nat.two_pow_add_eq_or_of_lt (i := 8) (b := y) (by omega) x
    rw [Nat.mul_comm] at this
    exact this.symm
  rw [e2, Go.IntWalk.u64_in _ (by omega)]
theorem valL_snoc (l : List UInt8) (x : UInt8) : ∀ a, valL (l ++ [x]) a = valL l a * 256 + x.toNat := by
  induction l with
  | nil => intro a; rfl
  | cons y l ih => intro a; exact ih _
theorem valL_lt (l : List UInt8) : ∀ a k, a < 2 ^ k → valL l a < 2 ^ (k + 8 * l.length) := by
  induction l with
  | nil => intro a k h; simpa [valL] using h
  | cons y l ih =>
    intro a k h
    have h1 : a * 256 + y.toNat < 2 ^ (k + 8) := by
      have := y.toNat_lt
      rw [Nat.pow_add]; omega
    have := ih _ _ h1
    simp only [valL, List.length_cons]
    rw [show k + 8 * (l.length + 1) = k + 8 + 8 * l.length by omega]
    exact this
theorem num_rd {r : Nat} {a b : List UInt8} {R : Hp} (h : Has sg ((r, rdB (a ++ b) 0) :: R)) (hl : (a ++ b).length ≤ 1000000) (h1 : 1 ≤ a.length) (h2 : a.length ≤ 8) (hN : 10 < N) :
    Ev (tab N (dp + 2) 187 [.gp r 0, vI a.length] sg) (Rt fun v sg' => v = vU (valL a 0 : Nat) ∧ Has sg' ((r, rdB b 0) :: R)) := by
  refine ev_of ((t187 ..).trans (octets_Reader_Num.main ..)) ?_
  refine ev_call (width_ok (by omega) (by omega)) rfl ?_
  rintro _ _ rfl
  refine ev_B rfl (ev_else (by decide) ?_)
  refine ev_call (raw_ok h hl) rfl ?_
  rintro _ sg2 ⟨rfl, g2⟩
  refine ev_S rfl ?_
  rw [tx_size, tx_list]
  refine ev_loop a.length (fun i st => st = mkS [5, 14, 15, 16] [.v (vU (valL (a.take i) 0 : Nat)) false, .ls 14 0 a.length, .v (vI a.length) false, .v (vI i) false] [none, some (.mk (ofBytes a)), none, none] (.sg sg2)) (by omega) rfl ?_
  rintro i st K hi rfl hnext hexit _
  refine ev_of (octets_Reader_Num.r0 ..) ?_
  refine ev_ite (fun hlt => ?_) (fun hge => ?_)
  · have hlt : i < a.length := by simpa using hlt
    have ei : (ofBytes a)[0 + (i : Int).toNat * 1]? = some (v8 ((a[i].toNat : Nat) : Int)) := by
      simp [ofBytes, List.getElem?_map, List.getElem?_eq_getElem hlt]
    refine ev_if (by omega) (ev_I ei (ev_else (by decide) ?_))
    rw [or_add ?_ a[i].toNat_lt, i64_nat (by omega)]
    · refine hnext _ hlt ?_
      rw [List.take_succ_eq_append_getElem hlt, valL_snoc]
    · have := valL_lt (a.take i) 0 0 (by decide)
      refine Nat.lt_of_lt_of_le this ?_
      rw [List.length_take, show (72057594037927936 : Nat) = 2 ^ 56 from rfl]
      exact Nat.pow_le_pow_right (by decide) (by omega)
  · have hi' : i = a.length := by have : ¬ i < a.length := by simpa using hge
                                  omega
    refine hexit _ _ ?_
    refine ev_of (octets_Reader_Num.k0_1 ..) (ev_ret ⟨?_, g2⟩)
    rw [hi', List.take_length]
end Go.Abs
namespace Go.Abs
open Go
set_option linter.unusedVariables false
set_option maxRecDepth 100000
def imV (l : List (Int × ByteArray)) : List AVal := l.map fun p => .agg [vI p.1, vS p.2]
theorem imV_len (l : List (Int × ByteArray)) : (imV l).length = l.length := List.length_map ..
theorem imV_at {l : List (Int × ByteArray)} {i : Nat} (h : i < l.length) : (imV l)[i]? = some (.agg [vI l[i].1, vS l[i].2]) := by
  simp [imV, List.getElem?_map, List.getElem?_eq_getElem h]
def jnB (d : Nat) (size : Nat) (ep : Int) (at_ : Nat) (num : Int) : Box := .mk [.gp d 0, vI size, vU ep, vI at_, vU num]
section
variable {Q : Out → Prop} {sg : Sg}
theorem ev_elemS {sz m : Nat} {i : Int} {nn : Bool} {l : List AVal} {cs : List AVal} {c : List AVal → R} (h0 : 0 ≤ i) (e : l[i.toNat]? = some (.agg cs)) (hm : cs.length = m) (hs : sz = m) (h : Ev (c cs) Q) :
    Ev (withO (elemV sz i (.sl nn sz l)) fun r => withO (loadC none sg r) fun p => bif (p.snd + m).ble p.fst.length then bindL (List.take m (List.drop p.snd p.fst)) c else none) Q := by
  subst hs
  have e1 : elemV sz i (.sl nn sz l) = some (.ep cs) := by
    simp only [elemV, Nat.beq_refl, cond_true, if_pos h0, e, withA, AVal.cells, hm]
  rw [e1]
  show Ev (bif (0 + sz).ble cs.length then bindL (List.take sz (List.drop 0 cs)) c else none) Q
  refine ev_bif (Nat.ble_eq_true_of_le (by omega)) ?_
  rw [List.drop_zero, ← hm, List.take_length]
  exact h
end
def flatI : List (Int × ByteArray) → List AVal
  | [] => []
  | p :: l => vI p.1 :: vS p.2 :: flatI l
theorem flatI_len : ∀ l, (flatI l).length = 2 * l.length
  | [] => rfl
  | p :: l => by simp [flatI, flatI_len l]; omega
theorem flatI_app (p : Int × ByteArray) : ∀ l, flatI (l ++ [p]) = flatI l ++ [vI p.1, vS p.2]
  | [] => rfl
  | q :: l => by simp [flatI, flatI_app p l]
theorem flatI_at : ∀ (l : List (Int × ByteArray)) (i : Nat) (p : Int × ByteArray), l[i]? = some p → ((flatI l).drop (i * 2)).take 2 = [vI p.1, vS p.2]
  | [], i, p, h => by simp at h
  | q :: l, 0, p, h => by
    simp at h; subst h; simp [flatI]
  | q :: l, i + 1, p, h => by
    have e : (i + 1) * 2 = (i * 2 + 1) + 1 := by omega
    rw [e]
    simp only [flatI, List.drop_succ_cons]
    exact flatI_at l i p (by simpa using h)
def ImH (a : AVal) (l : List (Int × ByteArray)) (H : Hp) : Prop := (∃ nn, a = .sl nn 2 (imV l) ∧ H = []) ∨ ∃ g, a = .gs g 2 0 l.length ∧ H = [(g, .mk (flatI l))]
theorem ImH.len {a : AVal} {l : List (Int × ByteArray)} {H : Hp} (h : ImH a l H) : lenV a = some l.length := by
  rcases h with ⟨nn, rfl, rfl⟩ | ⟨g, rfl, rfl⟩
  · simp [lenV, imV_len]
  · rfl
theorem ImH.plain {a : AVal} {l : List (Int × ByteArray)} {H : Hp} (h : ImH a l H) : plainA a = some a := by
  rcases h with ⟨nn, rfl, rfl⟩ | ⟨g, rfl, rfl⟩ <;> rfl
theorem ev_im {Q : Out → Prop} {sg : Sg} {L H : Hp} {a : AVal} {l : List (Int × ByteArray)} {i : Nat} {c : List AVal → Option Out} (hI : ImH a l H) (hL : Has sg L) (hs : ∀ q, q ∈ H → q ∈ L) (hi : i < l.length) (h : Ev (c [vI l[i].1, vS l[i].2]) Q) :
    Ev (withO (elemV 2 ((i : Nat) : Int) a) fun r => withO (loadC none sg r) fun p => bif (p.snd + 2).ble p.fst.length then bindL (List.take 2 (List.drop p.snd p.fst)) c else none) Q := by
  rcases hI with ⟨nn, rfl, rfl⟩ | ⟨g, rfl, rfl⟩
  · exact ev_elemS (by omega) (imV_at hi) rfl rfl h
  · obtain ⟨n, hn⟩ := List.mem_iff_getElem?.1 (hs (g, .mk (flatI l)) (by simp))
    refine ev_elem (by omega) (Int.ofNat_lt.2 hi) ?_
    have e1 : 0 + ((i : Nat) : Int).toNat * 2 = i * 2 := by simp
    rw [e1]
    exact ev_ldG hL n hn (flatI_at l i _ (List.getElem?_eq_getElem hi)) rfl (by decide) h
variable {N dp : Nat} {sg : Sg} {j d n size k at_ : Nat} {ep num : Int} {A R H : Hp} {a1 : AVal}
theorem room_ok (h : Has sg ((j, jnB d size ep at_ num) :: R)) (h1 : at_ ≤ size) (h2 : size ≤ 1024) : Ev (tab N (dp + 1) 146 [.gp j 0] sg) (Rt fun v sg' => v = vI ((size - at_ : Nat) : Int) ∧ sg' = sg) := by
  refine ev_of ((t146 ..).trans (journal_Journal_Room.main ..)) ?_
  refine ev_else (by decide) ?_
  refine ev_ldI h 0 rfl rfl ?_
  refine ev_ldI h 0 rfl rfl (ev_ret ⟨?_, rfl⟩)
  rw [i64_in (by omega)]
  congr 3; omega
theorem epoch_ok (h : Has sg ((j, jnB d size ep at_ num) :: R)) : Ev (tab N (dp + 1) 147 [.gp j 0] sg) (Rt fun v sg' => v = vU ep ∧ sg' = sg) := by
  refine ev_of ((t147 ..).trans (journal_Journal_Epoch.main ..)) ?_
  refine ev_else (by decide) ?_
  exact ev_ldI h 0 rfl rfl (ev_ret ⟨rfl, rfl⟩)
theorem jopen_ok (hA : Dk n k d A) (h : Has sg (A ++ R)) (h1 : 4 ≤ size) (h2 : size ≤ 1024) (h3 : size < n) :
    Ev (tab N (dp + 2) 238 [.gp d 0, vI size, vU ep] sg) (Rt fun v sg' => ∃ j, v = .tup [.gp j 0, vI 0] ∧ Has sg' ((j, jnB d size ep 0 0) :: (A ++ R))) := by
  refine ev_of ((t238 ..).trans (journal_Open.main ..)) ?_
  refine ev_if (by decide) (ev_if (by simp; omega) (ev_if (by simp; omega) ?_))
  refine ev_call (dk_len hA h) rfl ?_
  rintro _ _ ⟨rfl, rfl⟩
  refine ev_I rfl (ev_else (by simp; omega) (ev_ret ⟨_, rfl, h.new _⟩))
theorem jwrite_ok {kind e0 n0 a m : Int} {i : Nat} {p : ByteArray} (hA : Dk n k d A) (h : Has sg ((j, jnB d size ep at_ num) :: (A ++ R))) (hk : 1 ≤ kind ∧ kind ≤ 4) (ha : 0 ≤ a ∧ a ≤ 65535) (hm : 0 ≤ m ∧ m ≤ 65535) (hp : p.size = 480) (hN : 10 < N)
    (hi : 1 + at_ + i < n) (hn : n ≤ 100000) (hkk : k < 1073741824) :
    Ev (tab N (dp + 4) 249 [.gp j 0, vI i, secV kind e0 n0 a m p] sg) (Rt fun v sg' => v = vI 0 ∧ ∃ A', Dk n (k + 1) d A' ∧ Has sg' ((j, jnB d size ep at_ num) :: (A' ++ R))) := by
  refine ev_of ((t249 ..).trans (journal_Journal_write.main ..)) ?_
  refine ev_ldI h 0 rfl rfl ?_
  refine ev_ldI h 0 rfl rfl ?_
  refine ev_call (seal_ok hk ha hm hp hN) rfl ?_
  rintro _ _ ⟨s, rfl, hs⟩
  refine ev_T (ev_bif rfl (ev_S rfl (ev_I rfl (ev_else (by decide) ?_))))
  refine ev_ldA h 0 rfl rfl ?_
  refine ev_ldI h 0 rfl rfl ?_
  refine ev_A rfl ?_
  have e : IntKind.i64.wrap (IntKind.i64.wrap (1 + (at_ : Int)) + (i : Int)) = ((1 + at_ + i : Nat) : Int) := by
    rw [i64_in (n := 1 + (at_ : Int)) (by omega), i64_in (by omega)]; omega
  rw [e]
  refine ev_call (dk_write hA h.rot hi hs hkk) rfl ?_
  rintro _ sg1 ⟨rfl, A', hA', h1⟩
  exact ev_I rfl (ev_ret ⟨rfl, A', hA', h1.tor⟩)
theorem jpage_ok {p : Int} (h1 : 0 ≤ p) (h2 : p < 3840) : Ev (tab N (dp + 1) 246 [vI p] sg) (Rt fun v _ => v = vB true) := by
  refine ev_of ((t246 ..).trans (journal_page.main ..)) ?_
  refine ev_if (by simpa using h1) (ev_ret ?_)
  rw [decide_eq_true h2]
structure ImOk (n : Nat) (l : List (Int × ByteArray)) : Prop where
  nd : (l.map (·.1)).Nodup
  rg : ∀ p, p ∈ l → (0 ≤ p.1 ∧ p.1 < n) ∧ p.2.size = 480
def tV (_ : Unit) : AVal := vB true
theorem jcheck_ok {l : List (Int × ByteArray)} (hI : ImH a1 l H) (hl : ImOk n l) (hn : n ≤ 3840) (hne : l ≠ []) (hN : l.length < N) (hlen : l.length ≤ 100000) (h : Has sg R) (hs : ∀ q, q ∈ H → q ∈ R) :
    Ev (tab N (dp + 2) 139 [a1] sg) (Rt fun v sg' => v = vI 0 ∧ Has sg' R) := by
  refine ev_of ((t139 ..).trans (journal_Check.main ..)) ?_
  refine ev_O hI.len ?_
  have h0 := h.new (Box.map [])
  generalize sg.length = g at h0 ⊢
  refine ev_loop l.length (fun i st => ∃ sg' ms, st = mkS [0, 3, 7, 8, 9] [.v a1 false, .v (.gm g) false, .v a1 false, .v (vI l.length) false, .v (vI i) false] [none, none, none, none, none] (.sg sg') ∧
    Has sg' ((g, .map (emb tV ms)) :: R) ∧ ∀ x, x ∈ ms.map (·.1) ↔ x ∈ (l.take i).map (·.1)) hN ⟨_, [], rfl, h0, by simp⟩ ?_
  rintro i st K hi ⟨sg1, ms, rfl, h1, hms⟩ hnext hexit hret
  refine ev_of (journal_Check.r0 ..) ?_
  refine ev_ite (fun hlt => ?_) (fun hge => ?_)
  · have hlt : i < l.length := by simpa using hlt
    obtain ⟨hr1, hr2⟩ := hl.rg l[i] (List.getElem_mem hlt)
    refine ev_im hI h1 (fun q hq => List.mem_cons_of_mem _ (hs q hq)) hlt (ev_bif rfl (ev_L ?_))
    refine ev_I rfl (ev_call (jpage_ok hr1.1 (by omega)) rfl ?_)
    rintro _ _ rfl
    refine ev_B rfl (ev_if rfl (ev_S rfl (ev_if (by simp [hr2]) (ev_I rfl (ev_A rfl ?_)))))
    refine ev_map h1 0 rfl ?_
    refine ev_O (mGet_emb tV ..) ?_
    have hnot : l[i].1 ∉ ms.map (·.1) := by
      rw [hms]
      intro hm
      obtain ⟨q, hq, he⟩ := List.mem_map.1 hm
      obtain ⟨jj, hj, hje⟩ := List.mem_iff_getElem.1 hq
      rw [List.length_take] at hj
      rw [List.getElem_take] at hje
      have e1 : (l.map (·.1))[jj]? = some l[i].1 := by
        rw [List.getElem?_map, List.getElem?_eq_getElem (by omega), hje]; simp [he]
      have e2 : (l.map (·.1))[i]? = some l[i].1 := by rw [List.getElem?_map, List.getElem?_eq_getElem hlt]; rfl
      have := (List.getElem?_inj (by rw [List.length_map]; omega) hl.nd).1 (e1.trans e2.symm)
      omega
    rw [lk_none.2 hnot]
    refine ev_B (a := false) rfl (ev_else (by decide) ?_)
    refine ev_I rfl (ev_A rfl ?_)
    refine ev_map h1 0 rfl ?_
    refine ev_O (mSet_emb tV _ () _) ?_
    rw [i64_nat (by omega)]
    refine hnext _ hlt ⟨_, _, rfl, h1.put (n := 0) _ rfl, fun x => ?_⟩
    have e : (l.take (i + 1)).map (·.1) = (l.take i).map (·.1) ++ [l[i].1] := by
      rw [List.take_add_one, List.getElem?_eq_getElem hlt, List.map_append]; rfl
    rw [keys_ins, hms, e, List.mem_append, List.mem_singleton, or_comm]
  · have hge : i = l.length := by
      have : l.length ≤ i := by simpa using hge
      omega
    refine hexit _ _ ?_
    refine ev_of (journal_Check.k0_2 ..) ?_
    refine ev_O hI.len ?_
    have : l.length ≠ 0 := fun h => hne (List.eq_nil_of_length_eq_zero h)
    exact ev_else (by simp; omega) (ev_ret ⟨rfl, h1.tail⟩)
theorem append_ok {l : List (Int × ByteArray)} (hI : ImH a1 l H) (hA : Dk n k d A) (h : Has sg ((j, jnB d size ep at_ num) :: (A ++ R))) (hl : ImOk 3840 l) (hne : l ≠ []) (hroom : at_ + l.length < size) (hs : size ≤ 1024) (hn : size < n) (hn2 : n ≤ 100000)
    (hN : 2000 < N) (hk : k + 2000 < 1073741824) (hH : ∀ q, q ∈ H → q ∈ R) :
    Ev (tab N (dp + 5) 142 [.gp j 0, a1] sg) (Rt fun v sg' => v = vI 0 ∧ ∃ num' A', Dk n (k + l.length + 1) d A' ∧ Has sg' ((j, jnB d size ep (at_ + l.length + 1) num') :: (A' ++ R))) := by
  refine ev_of ((t142 ..).trans (journal_Journal_Append.main ..)) ?_
  refine ev_if (by decide) (ev_A hI.plain ?_)
  refine ev_call (jcheck_ok hI hl (Nat.le_refl _) hne (by omega) (by omega) h (fun q hq => by simp [hH q hq])) rfl ?_
  rintro _ sg1 ⟨rfl, h1⟩
  refine ev_I rfl (ev_else (by decide) ?_)
  have eL := hI.len
  refine ev_O eL ?_
  refine ev_call (room_ok h1 (by omega) hs) rfl ?_
  rintro _ _ ⟨rfl, rfl⟩
  refine ev_I rfl (ev_else (by simp; omega) ?_)
  refine ev_O eL ?_
  refine ev_loop l.length (fun i st => ∃ sg' A', st = mkS [0, 1, 24, 25, 26] [.v (.gp j 0) false, .v a1 false, .v a1 false, .v (vI l.length) false, .v (vI i) false] [none, none, none, none, none] (.sg sg') ∧
    Dk n (k + i) d A' ∧ Has sg' ((j, jnB d size ep at_ num) :: (A' ++ R))) (by omega) ⟨_, A, rfl, hA, h1⟩ ?_
  rintro i st K hi ⟨sg2, A2, rfl, hA2, h2⟩ hnext hexit hret
  refine ev_of (journal_Journal_Append.r0 ..) ?_
  refine ev_ite (fun hlt => ?_) (fun hge => ?_)
  · have hlt : i < l.length := by simpa using hlt
    obtain ⟨hr1, hr2⟩ := hl.rg l[i] (List.getElem_mem hlt)
    refine ev_im hI h2 (fun q hq => by simp [hH q hq]) hlt (ev_bif rfl (ev_L ?_))
    refine ev_I rfl (ev_S rfl ?_)
    refine ev_call (jwrite_ok hA2 h2 (by decide) ⟨hr1.1, by omega⟩ ⟨by omega, by omega⟩ hr2 (by omega) (by omega) hn2 (by omega)) rfl ?_
    rintro _ sg3 ⟨rfl, A3, hA3, h3⟩
    refine ev_I rfl (ev_else (by decide) ?_)
    rw [i64_nat (by omega)]
    exact hnext _ hlt ⟨_, A3, rfl, hA3, h3⟩
  · have hge : i = l.length := by
      have : l.length ≤ i := by simpa using hge
      omega
    subst hge
    refine hexit _ _ ?_
    refine ev_of (journal_Journal_Append.k0_2 ..) ?_
    refine ev_O eL ?_
    refine ev_call (pad_ok (n := 480) (by decide) (by decide)) rfl ?_
    rintro _ _ ⟨rfl, rfl⟩
    refine ev_S rfl (ev_O eL ?_)
    refine ev_call (jwrite_ok hA2 h2 (by decide) (by decide) ⟨by omega, by omega⟩ (zeros_size _) (by omega) (by omega) hn2 (by omega)) rfl ?_
    rintro _ sg3 ⟨rfl, A3, hA3, h3⟩
    refine ev_I rfl (ev_else (by decide) ?_)
    refine ev_ldI h3 0 rfl rfl (ev_O eL ?_)
    refine ev_st h3 0 rfl rfl (Nat.le_of_ble_eq_true rfl) (Nat.succ_pos _) fun sg4 h4 => ?_
    refine ev_ldI h4 0 rfl rfl ?_
    refine ev_st h4 0 rfl rfl (Nat.le_of_ble_eq_true rfl) (Nat.succ_pos _) fun sg5 h5 => ?_
    have e : IntKind.i64.wrap ((at_ : Int) + IntKind.i64.wrap ((l.length : Int) + 1)) = ((at_ + l.length + 1 : Nat) : Int) := by
      rw [i64_in (n := (l.length : Int) + 1) (by omega), i64_in (by omega)]; omega
    refine ev_ret ⟨rfl, IntKind.u64.wrap (num + 1), A3, hA3, ?_⟩
    rw [e] at h5
    exact h5
end Go.Abs
namespace Go.Abs
open Go
set_option linter.unusedVariables false
set_option maxRecDepth 100000
def mulHi (n0 n1 : Int) : Int := IntKind.u64.wrap (IntKind.u64.wrap (IntKind.u64.wrap (shiftI BinOp.shr IntKind.u64 n0 32 * shiftI BinOp.shr IntKind.u64 n1 32) + shiftI BinOp.shr IntKind.u64
  (IntKind.u64.wrap (IntKind.u64.wrap (shiftI BinOp.shr IntKind.u64 n0 32 * bitsI BinOp.and IntKind.u64 n1 4294967295) + shiftI BinOp.shr IntKind.u64 (IntKind.u64.wrap (bitsI BinOp.and IntKind.u64 n0 4294967295 * bitsI BinOp.and IntKind.u64 n1 4294967295)) 32)) 32) +
  shiftI BinOp.shr IntKind.u64 (IntKind.u64.wrap (bitsI BinOp.and IntKind.u64 (IntKind.u64.wrap (IntKind.u64.wrap (shiftI BinOp.shr IntKind.u64 n0 32 * bitsI BinOp.and IntKind.u64 n1 4294967295) + shiftI BinOp.shr IntKind.u64 (IntKind.u64.wrap (bitsI BinOp.and IntKind.u64 n0 4294967295 * bitsI BinOp.and IntKind.u64 n1 4294967295)) 32)) 4294967295 +
    IntKind.u64.wrap (bitsI BinOp.and IntKind.u64 n0 4294967295 * shiftI BinOp.shr IntKind.u64 n1 32))) 32)
def chkMul : Bool := (List.range 4900).all fun (n : Nat) => mulHi 1 (n : Int) == 0 && (IntKind.u64.wrap (1 * (n : Int)) == n && (IntKind.u64.wrap (n : Int) == n))
theorem chkMul_ok : chkMul = true := by kernel_rfl
variable {N dp : Nat} {sg : Sg} {d n k : Nat} {A R : Hp}
theorem mul_ok {n : Nat} (h : n < 4900) : Ev (tab N (dp + 2) 250 [vU 1, vU n] []) (Rt fun v _ => v = .tup [vU 0, vU n]) := by
  have hc := List.all_eq_true.1 chkMul_ok n (List.mem_range.2 h)
  simp only [Bool.and_eq_true, beq_iff_eq] at hc
  refine ev_of ((t250 ..).trans (math_bits_Mul.main ..)) ?_
  refine ev_call (φ := fun v _ => v = .tup [vU 0, vU n]) ?_ rfl ?_
  · refine ev_of ((t336 ..).trans (math_bits_Mul64.main ..)) ?_
    refine ev_else (by decide) (ev_else (by decide) (ev_else (by decide) (ev_else (by decide) (ev_else (by decide) (ev_ret ?_)))))
    show AVal.tup [vU (mulHi 1 n), vU (IntKind.u64.wrap (1 * (n : Int)))] = _
    rw [hc.1, hc.2.1]
  · rintro _ _ rfl
    exact ev_T (ev_bif rfl (ev_I rfl (ev_I rfl (ev_ret rfl))))
def rp (c n : Nat) (x e : AVal) : List AVal := List.replicate c x ++ List.replicate (n - c) e
theorem rp_len {c n : Nat} {x e : AVal} (h : c ≤ n) : (rp c n x e).length = n := by simp [rp]; omega
theorem rp_splice {c n k : Nat} {x e : AVal} (h : c + k ≤ n) : splice (rp c n x e) c (List.replicate k x) = rp (c + k) n x e := by
  simp only [splice, rp, List.length_replicate]
  rw [List.take_left' (by simp), List.drop_append, List.drop_eq_nil_of_le (by simp)]
  simp only [List.length_replicate, List.nil_append, List.drop_replicate]
  rw [← List.append_assoc, List.replicate_append_replicate]
  congr 2
  rw [Nat.sub_sub]; congr 1; omega
theorem copyV_gs {esz g o n m : Nat} {B : Box} {fl : List AVal} (h : sg[g]? = some B) (h1 : o + n * esz ≤ B.cells.length) (h0 : 0 < B.cells.length) :
    copyV esz sg (.gs g esz o n) m fl = some (min n m, sg.set g (.mk (splice B.cells o (fl.take (min n m * esz))))) := by
  have e : (Nat.ble (o + n * esz) B.cells.length && Nat.blt 0 B.cells.length) = true := by
    rw [Nat.ble_eq_true_of_le h1]; exact Nat.ble_eq_true_of_le h0
  simp only [copyV, Nat.beq_refl, cond_true, h, withO, e, bindL]
theorem repeat_ok {g0 : Nat} {s : ByteArray} (h : Has sg ((g0, .mk [vS s]) :: R)) (h1 : 1 ≤ n) (h2 : n < 4900) (hN : 5000 < N) :
    Ev (tab N (dp + 3) 149 [.gs g0 1 0 1, vI n] sg) (Rt fun v sg' => ∃ g, v = .gs g 1 0 n ∧ Has sg' ((g, .mk (List.replicate n (vS s))) :: R)) := by
  refine ev_of ((t149 ..).trans (slices_Repeat_string_string.main ..)) ?_
  refine ev_else (by simp <;> omega) ?_
  refine ev_O (a := 1) rfl ?_
  have hc := List.all_eq_true.1 chkMul_ok n (List.mem_range.2 h2)
  simp only [Bool.and_eq_true, beq_iff_eq] at hc
  have e0 : IntKind.u64.wrap ((1 : Nat) : Int) = 1 := by decide
  rw [hc.2.2, e0]
  refine ev_call (mul_ok h2) rfl ?_
  rintro _ _ rfl
  have e1 : IntKind.i64.wrap (n : Int) = n := i64_in (by omega)
  refine ev_T (ev_bif rfl (ev_I rfl (ev_I rfl (ev_if rfl (ev_else (by simp <;> omega) ?_)))))
  rw [e1]
  refine ev_if ⟨by omega, by omega, by omega⟩ (ev_A rfl ?_)
  have h3 := h.new (Box.mk (List.replicate (n : Int).toNat [vS ⟨#[]⟩]).flatten)
  have e2 : (List.replicate (n : Int).toNat [vS ⟨#[]⟩]).flatten = rp 0 n (vS s) (vS ⟨#[]⟩) := by
    rw [List.flatten_replicate_singleton]; simp [rp]
  rw [e2] at h3 ⊢
  refine ev_O (flatG_gs (h3.at (n := 1) rfl) (Nat.le_refl _) (Nat.succ_pos _)) ?_
  have e3 : (n : Int).toNat = n := by simp
  rw [e3]
  generalize hg : sg.length = g at h3 ⊢
  have hlen : (Box.mk (rp 0 n (vS s) (vS ⟨#[]⟩))).cells.length = n := rp_len (Nat.zero_le _)
  refine ev_O (copyV_gs (h3.at (n := 0) rfl) (by rw [hlen]; omega) (by rw [hlen]; omega)) ?_
  have h4 := h3.put (n := 0) (.mk (splice (rp 0 n (vS s) (vS ⟨#[]⟩)) 0 ([vS s].take (min n 1 * 1)))) rfl
  have e4 : [vS s].take (min n 1 * 1) = List.replicate 1 (vS s) := by
    have : min n 1 = 1 := by omega
    rw [this]; rfl
  have h5 : Has (List.set (sg ++ [Box.mk (rp 0 n (vS s) (vS ⟨#[]⟩))]) g (.mk (splice (rp 0 n (vS s) (vS ⟨#[]⟩)) 0 ([vS s].take (min n 1 * 1))))) ((g, .mk (rp 1 n (vS s) (vS ⟨#[]⟩))) :: R) := by
    rw [e4, rp_splice (by omega)] at h4 ⊢
    exact h4.sub (.cons_cons _ (.cons _ (List.Sublist.refl _)))
  refine ev_loop n (fun i st => ∃ (sg' : Sg) (c : Nat), st = mkS [7, 8] [.v (.gs g 1 0 n) false, .v (vI c) false] [none, none] (.sg sg') ∧ i + 1 ≤ c ∧ c ≤ n ∧ Has sg' ((g, .mk (rp c n (vS s) (vS ⟨#[]⟩))) :: R)) (by omega) ⟨_, 1, ?_, by omega, h1, h5⟩ ?_
  · have e5 : min n 1 = 1 := by omega
    simp only [e5]; rfl
  rintro i st K hi ⟨sg1, c, rfl, hc1, hc2, h6⟩ hnext hexit _
  refine ev_of (slices_Repeat_string_string.r0 ..) ?_
  have hl6 : (Box.mk (rp c n (vS s) (vS ⟨#[]⟩))).cells.length = n := rp_len hc2
  refine ev_ite (fun hlt => ?_) (fun hge => ?_)
  · have hlt : c < n := by
      have : (c : Int) < n := by simpa using hlt
      omega
    refine ev_if ⟨by omega, by omega, by omega⟩ ?_
    have ec : cutV (.gs g 1 0 n) (c : Int).toNat (n : Int).toNat = some (.gs g 1 (0 + c * 1) (n - c)) := by
      simp only [cutV, Int.toNat_natCast, if_pos hlt]
    refine ev_O ec (ev_if ⟨by omega, by omega, by omega⟩ ?_)
    have ec2 : cutV (.gs g 1 0 n) (Int.toNat 0) (c : Int).toNat = some (.gs g 1 (0 + 0 * 1) (c - 0)) := by
      have : (Int.toNat 0) < c := by show 0 < c; omega
      simp only [cutV, Int.toNat_natCast, if_pos this]; rfl
    refine ev_O ec2 (ev_A rfl ?_)
    refine ev_O (flatG_gs (h6.at (n := 0) rfl) (by rw [hl6]; omega) (by rw [hl6]; omega)) (ev_A rfl ?_)
    refine ev_O (copyV_gs (h6.at (n := 0) rfl) (by rw [hl6]; omega) (by rw [hl6]; omega)) ?_
    have e6 : min (n - c) (c - 0) = min (n - c) c := by omega
    have e7 : IntKind.i64.wrap ((c : Int) + ((min (n - c) c : Nat) : Int)) = ((c + min (n - c) c : Nat) : Int) := by
      rw [i64_in (by omega)]; simp
    simp only [e6, e7]
    refine hnext _ (by omega) ⟨_, c + min (n - c) c, rfl, by omega, by omega, ?_⟩
    have e8 : (List.take ((c - 0) * 1) (List.drop (0 + 0 * 1) (rp c n (vS s) (vS ⟨#[]⟩)))).take (min (n - c) c * 1) = List.replicate (min (n - c) c) (vS s) := by
      simp only [Nat.sub_zero, Nat.mul_one, Nat.zero_add, List.drop_zero, rp]
      rw [List.take_left' (by simp), List.take_replicate]
      congr 1; omega
    have h7 := h6.put (n := 0) (.mk (splice (rp c n (vS s) (vS ⟨#[]⟩)) (0 + c * 1) ((List.take ((c - 0) * 1) (List.drop (0 + 0 * 1) (rp c n (vS s) (vS ⟨#[]⟩)))).take (min (n - c) c * 1)))) rfl
    have e9 : 0 + c * 1 = c := by omega
    have e10 : splice (rp c n (vS s) (vS ⟨#[]⟩)) (0 + c * 1) ((List.take ((c - 0) * 1) (List.drop (0 + 0 * 1) (rp c n (vS s) (vS ⟨#[]⟩)))).take (min (n - c) c * 1)) = rp (c + min (n - c) c) n (vS s) (vS ⟨#[]⟩) := by
      rw [e8, e9, rp_splice (by omega)]
    show Has (List.set sg1 g (.mk (splice (rp c n (vS s) (vS ⟨#[]⟩)) (0 + c * 1) ((List.take ((c - 0) * 1) (List.drop (0 + 0 * 1) (rp c n (vS s) (vS ⟨#[]⟩)))).take (min (n - c) c * 1))))) _
    rw [e10] at h7 ⊢
    exact h7
  · have : c = n := by
      have : ¬ (c : Int) < n := by simpa using hge
      omega
    subst this
    refine hexit _ _ ?_
    refine ev_of (slices_Repeat_string_string.k0_1 ..) (ev_ret ⟨g, rfl, ?_⟩)
    have : rp c c (vS s) (vS ⟨#[]⟩) = List.replicate c (vS s) := by simp [rp]
    rw [this] at h6
    exact h6
theorem new_ok (h : Has sg R) (h1 : 1 ≤ n) (h2 : n ≤ 4865) (hN : 5000 < N) :
    Ev (tab N (dp + 4) 43 [vI n] sg) (Rt fun v sg' => ∃ d A, v = .tup [.gp d 0, vI 0] ∧ Dk n 0 d A ∧ Has sg' (A ++ R)) := by
  refine ev_of ((t43 ..).trans (disk_New.main ..)) ?_
  refine ev_if (by simp <;> omega) (ev_else (by simp <;> omega) ?_)
  refine ev_call blank_ok rfl ?_
  rintro _ _ rfl
  refine ev_S rfl (ev_bif rfl ?_)
  refine ev_call (repeat_ok (h.new _) h1 (by omega) hN) rfl ?_
  rintro _ sg1 ⟨g, rfl, h3⟩
  refine ev_A rfl (ev_bif rfl (ev_L (ev_ret ?_)))
  refine ⟨sg1.length, dkH sg1.length g 2 ⟨List.replicate n (zeros 512), [], 0, false, 0⟩, rfl, ⟨g, 2, _, rfl, rfl, rfl, by simp, rfl, by simp⟩, ?_⟩
  have h4 := h3.new (dkB g 2 ⟨List.replicate n (zeros 512), [], 0, false, 0⟩)
  have e1 : dkB g 2 ⟨List.replicate n (zeros 512), [], 0, false, 0⟩ = .mk [.gs g 1 0 n, .sl true 2 [], vI 0, vB false, vI 0] := by simp [dkB, wrV]
  have e2 : dkH sg1.length g 2 ⟨List.replicate n (zeros 512), [], 0, false, 0⟩ ++ R = (sg1.length, dkB g 2 ⟨List.replicate n (zeros 512), [], 0, false, 0⟩) :: (g, .mk (List.replicate n (vS (zeros 512)))) :: R := by
    simp [dkH, wrH]
  rw [e2]
  rw [e1] at h4 ⊢
  exact h4
end Go.Abs
