/- THE CALCULUS: what an evaluation comes to, as a predicate over outcomes; boxes that are held, in a list. -/
import Derived.Test.YtimoaolannkpcaaGreatHp
import Derived.Test.YtimoaolannkpcaaGreatOvDefs
import Derived.IntWalk
set_option linter.unusedVariables false
set_option linter.unusedSimpArgs false
set_option linter.unusedSectionVars false
namespace Go.Abs
open Go
set_option linter.unusedVariables false
abbrev vI (n : Int) : AVal := .at (.int .i64 n)
abbrev vU (n : Int) : AVal := .at (.int .u64 n)
abbrev vB (b : Bool) : AVal := .at (.bool b)
abbrev vS (s : ByteArray) : AVal := .at (.string s)

/-! ### Boxes that are held -/
abbrev Hp := List (Nat × Box)
def Has (sg : Sg) (L : Hp) : Prop := (L.map (·.1)).Nodup ∧ ∀ p, p ∈ L → sg[p.1]? = some p.2
theorem Has.perm {sg : Sg} {L M : Hp} (h : Has sg L) (p : L.Perm M) : Has sg M :=
  ⟨(p.map (·.1)).nodup_iff.1 h.1, fun q hq => h.2 q (p.mem_iff.2 hq)⟩
theorem Has.sub {sg : Sg} {L M : Hp} (h : Has sg L) (s : M.Sublist L) : Has sg M :=
  ⟨(s.map (·.1)).nodup h.1, fun q hq => h.2 q (s.subset hq)⟩
theorem Has.at {sg : Sg} {L : Hp} {n i : Nat} {B : Box} (h : Has sg L) (e : L[n]? = some (i, B)) : sg[i]? = some B :=
  h.2 (i, B) (List.mem_of_getElem? e)
theorem lt_of_at {sg : Sg} {d : Nat} {B : Box} (h : sg[d]? = some B) : d < sg.length := by
  rcases Nat.lt_or_ge d sg.length with h1 | h1
  · exact h1
  · rw [List.getElem?_eq_none h1] at h; cases h
theorem Has.put {sg : Sg} {L : Hp} {n i : Nat} {B : Box} (B' : Box) (h : Has sg L) (e : L[n]? = some (i, B)) : Has (sg.set i B') (L.set n (i, B')) := by
  have hn : n < L.length := by
    rcases Nat.lt_or_ge n L.length with h1 | h1
    · exact h1
    · rw [List.getElem?_eq_none h1] at e; cases e
  have hk : (L.set n (i, B')).map (·.1) = L.map (·.1) := by
    apply List.ext_getElem?
    intro m
    simp only [List.getElem?_map, List.getElem?_set]
    split
    · rename_i h1; subst h1; rw [e]; simp [hn]
    · rfl
  refine ⟨hk ▸ h.1, fun q hq => ?_⟩
  obtain ⟨m, hm⟩ := List.mem_iff_getElem?.1 hq
  rw [List.getElem?_set] at hm
  split at hm
  · rename_i h1
    simp [hn] at hm
    subst hm
    have := lt_of_at (h.at e)
    simp [this]
  · rename_i h1
    have hne : i ≠ q.1 := by
      intro he
      apply h1
      have hm2 : m < L.length := by
        rcases Nat.lt_or_ge m L.length with h2 | h2
        · exact h2
        · rw [List.getElem?_eq_none h2] at hm; cases hm
      have x1 : (L.map (·.1))[n]? = some i := by simp [e]
      have x2 : (L.map (·.1))[m]? = some i := by simp [hm, he]
      exact (List.getElem?_inj (by simpa using hn) h.1).1 (x1.trans x2.symm)
    rw [List.getElem?_set_ne hne]
    exact h.2 q (List.mem_of_getElem? hm)
theorem Has.new {sg : Sg} {L : Hp} (B : Box) (h : Has sg L) : Has (sg ++ [B]) ((sg.length, B) :: L) := by
  refine ⟨?_, fun q hq => ?_⟩
  · rw [List.map_cons, List.nodup_cons]
    refine ⟨fun hm => ?_, h.1⟩
    obtain ⟨q, hq, e⟩ := List.mem_map.1 hm
    have := lt_of_at (h.2 q hq)
    simp only at e; omega
  · rcases List.mem_cons.1 hq with rfl | hq
    · simp
    · have := lt_of_at (h.2 q hq)
      rw [List.getElem?_append_left this]; exact h.2 q hq
theorem Has.sw {sg : Sg} (X D : Hp) {R : Hp} (h : Has sg (X ++ (D ++ R))) : Has sg (D ++ (X ++ R)) := h.perm (List.perm_append_comm_assoc X D R)
theorem Has.tail {sg : Sg} {x : Nat × Box} {L : Hp} (h : Has sg (x :: L)) : Has sg L := h.sub (List.sublist_cons_self x L)
theorem Has.drop {sg : Sg} (X : Hp) {L : Hp} (h : Has sg (X ++ L)) : Has sg L := h.sub (List.sublist_append_right X L)
theorem Has.rot {sg : Sg} {x : Nat × Box} {A R : Hp} (h : Has sg (x :: (A ++ R))) : Has sg (A ++ (x :: R)) := h.perm List.perm_middle.symm
theorem Has.tor {sg : Sg} {x : Nat × Box} {A R : Hp} (h : Has sg (A ++ (x :: R))) : Has sg (x :: (A ++ R)) := h.perm List.perm_middle
theorem has_nil (sg : Sg) : Has sg [] := ⟨List.nodup_nil, fun _ h => by cases h⟩

/-! ### Outcomes -/
def Ev (r : R) (Q : Out → Prop) : Prop := ∃ o, r = some o ∧ Q o
def Rt (φ : AVal → Sg → Prop) : Out → Prop
  | .ret v sg => φ v sg
  | .pan _ _ => False
/-- It gives, or it panics. -/
def Rp (φ ψ : AVal → Sg → Prop) : Out → Prop
  | .ret v sg => φ v sg
  | .pan v sg => ψ v sg
theorem ev_ret {v : AVal} {sg : Sg} {φ : AVal → Sg → Prop} (h : φ v sg) : Ev (some (.ret v sg)) (Rt φ) := ⟨_, rfl, h⟩
theorem ev_out {o : Out} {Q : Out → Prop} (h : Q o) : Ev (some o) Q := ⟨_, rfl, h⟩
theorem Ev.imp {r : R} {Q Q' : Out → Prop} (h : Ev r Q) (hq : ∀ o, Q o → Q' o) : Ev r Q' := by
  obtain ⟨o, h1, h2⟩ := h; exact ⟨o, h1, hq o h2⟩
theorem Ev.imt {r : R} {φ ψ : AVal → Sg → Prop} (h : Ev r (Rt φ)) (hq : ∀ v sg, φ v sg → ψ v sg) : Ev r (Rt ψ) := h.imp fun o => by
  cases o with
  | ret v sg => exact hq v sg
  | pan v sg => exact fun h => h.elim
theorem ev_get {r : R} {φ : AVal → Sg → Prop} (h : Ev r (Rt φ)) : ∃ v sg, r = some (.ret v sg) ∧ φ v sg := by
  obtain ⟨o, h1, h2⟩ := h
  cases o with
  | ret v sg => exact ⟨v, sg, h1, h2⟩
  | pan v sg => exact h2.elim
theorem ev_of {r r' : R} {Q : Out → Prop} (e : r = r') (h : Ev r' Q) : Ev r Q := e ▸ h
section
variable {Q : Out → Prop}
theorem ev_call {C : CallF} {f : FuncId} {as : List AVal} {sg : Sg} {φ : AVal → Sg → Prop} {ok pan : AVal → Sg → R} (h : Ev (C f as sg) (Rt φ)) (hf : Nat.blt f 1000000 = true) (hk : ∀ v sg', φ v sg' → Ev (ok v sg') Q) :
    Ev (withOut (bif Nat.blt f 1000000 then C f as sg else none) ok pan) Q := by
  obtain ⟨v, sg', h1, h2⟩ := ev_get h
  rw [hf, cond_true, h1]; exact hk v sg' h2
theorem ev_callP {C : CallF} {f : FuncId} {as : List AVal} {sg : Sg} {φ ψ : AVal → Sg → Prop} {ok pan : AVal → Sg → R} (h : Ev (C f as sg) (Rp φ ψ)) (hf : Nat.blt f 1000000 = true) (hk : ∀ v sg', φ v sg' → Ev (ok v sg') Q) (hp : ∀ v sg', ψ v sg' → Ev (pan v sg') Q) :
    Ev (withOut (bif Nat.blt f 1000000 then C f as sg else none) ok pan) Q := by
  obtain ⟨o, h1, h2⟩ := h
  rw [hf, cond_true, h1]
  cases o with
  | ret v sg' => exact hk v sg' h2
  | pan v sg' => exact hp v sg' h2
theorem ev_if {c : Prop} [Decidable c] {x y : R} (h : c) (hx : Ev x Q) : Ev (if c then x else y) Q := by rw [if_pos h]; exact hx
theorem ev_else {c : Prop} [Decidable c] {x y : R} (h : ¬c) (hy : Ev y Q) : Ev (if c then x else y) Q := by rw [if_neg h]; exact hy
theorem ev_ite {c : Prop} [Decidable c] {x y : R} (hx : c → Ev x Q) (hy : ¬c → Ev y Q) : Ev (if c then x else y) Q := by
  by_cases h : c
  · exact ev_if h (hx h)
  · exact ev_else h (hy h)
theorem ev_bif {b : Bool} {x y : R} (h : b = true) (hx : Ev x Q) : Ev (bif b then x else y) Q := by rw [h]; exact hx
theorem ev_bie {b : Bool} {x y : R} (h : b = false) (hx : Ev y Q) : Ev (bif b then x else y) Q := by rw [h]; exact hx
theorem ev_O {β : Type} {o : Option β} {a : β} {c : β → R} (e : o = some a) (h : Ev (c a) Q) : Ev (withO o c) Q := by rw [e]; exact h
theorem ev_A {o : Option AVal} {a : AVal} {c : AVal → R} (e : o = some a) (h : Ev (c a) Q) : Ev (withA o c) Q := by rw [e]; exact h
theorem ev_I {o : Option AVal} {k : IntKind} {a : Int} {c : Int → R} (e : o = some (.at (.int k a))) (h : Ev (c a) Q) : Ev (withI k o c) Q := by rw [e, wI]; exact h
theorem ev_B {o : Option AVal} {a : Bool} {c : Bool → R} (e : o = some (.at (.bool a))) (h : Ev (c a) Q) : Ev (withB o c) Q := by rw [e]; exact h
theorem ev_S {o : Option AVal} {a : ByteArray} {c : ByteArray → R} (e : o = some (.at (.string a))) (h : Ev (c a) Q) : Ev (withS o c) Q := by rw [e]; exact h
theorem ev_T {vs : List AVal} {c : List AVal → R} (h : Ev (c vs) Q) : Ev (withT (.tup vs) c) Q := h
theorem ev_L {l : List AVal} {c : List AVal → R} (h : Ev (c l) Q) : Ev (bindL l c) Q := h
theorem ev_L2 {l l' : List AVal} {c : List AVal → R} (e : l = l') (h : Ev (c l') Q) : Ev (bindL l c) Q := by rw [e]; exact h
theorem ne_of_cell {B : Box} {o : Nat} {a : AVal} (h : B.cells[o]? = some a) : 0 < B.cells.length := by
  rcases Nat.lt_or_ge o B.cells.length with h1 | h1
  · omega
  · rw [List.getElem?_eq_none h1] at h; cases h
variable {sg : Sg} {L : Hp} {n g o : Nat} {B : Box}
theorem ev_ld {c : List AVal × Nat → R} (hL : Has sg L) (n : Nat) (e : L[n]? = some (g, B)) (hne : 0 < B.cells.length) (h : Ev (c (B.cells, o)) Q) :
    Ev (withO (loadC none sg (.gp g o)) c) Q := by rw [loadC_gp (hL.at e) hne]; exact h
theorem ev_ldA {a : AVal} {c : AVal → R} (hL : Has sg L) (n : Nat) (e : L[n]? = some (g, B)) (ea : B.cells[o]? = some a) (h : Ev (c a) Q) :
    Ev (withO (loadC none sg (.gp g o)) fun p => withA p.fst[p.snd]? c) Q := ev_ld hL n e (ne_of_cell ea) (ev_A ea h)
theorem ev_ldI {k : IntKind} {a : Int} {c : Int → R} (hL : Has sg L) (n : Nat) (e : L[n]? = some (g, B)) (ea : B.cells[o]? = some (.at (.int k a))) (h : Ev (c a) Q) :
    Ev (withO (loadC none sg (.gp g o)) fun p => withI k p.fst[p.snd]? c) Q := ev_ld hL n e (ne_of_cell ea) (ev_I ea h)
theorem ev_ldB {a : Bool} {c : Bool → R} (hL : Has sg L) (n : Nat) (e : L[n]? = some (g, B)) (ea : B.cells[o]? = some (.at (.bool a))) (h : Ev (c a) Q) :
    Ev (withO (loadC none sg (.gp g o)) fun p => withB p.fst[p.snd]? c) Q := ev_ld hL n e (ne_of_cell ea) (ev_B ea h)
theorem ev_ldS {a : ByteArray} {c : ByteArray → R} (hL : Has sg L) (n : Nat) (e : L[n]? = some (g, B)) (ea : B.cells[o]? = some (.at (.string a))) (h : Ev (c a) Q) :
    Ev (withO (loadC none sg (.gp g o)) fun p => withS p.fst[p.snd]? c) Q := ev_ld hL n e (ne_of_cell ea) (ev_S ea h)
theorem ev_elem {sz len : Nat} {i : Int} {c : AVal → R} (h0 : 0 ≤ i) (h1 : i < len) (h : Ev (c (.gp g (o + i.toNat * sz))) Q) : Ev (withO (elemV sz i (.gs g sz o len)) c) Q := by
  rw [elemV_gs h0 h1]; exact h
/-- Writing: L' is what is held then. -/
theorem ev_st {m : Nat} {v : AVal} {c : Sg → R} (hL : Has sg L) (n : Nat) (e : L[n]? = some (g, B)) (hv : v.cells.length = m) (ho : o + m ≤ B.cells.length) (h0 : 0 < B.cells.length)
    (h : ∀ sg', Has sg' (L.set n (g, .mk (splice B.cells o v.cells))) → Ev (c sg') Q) : Ev (withO (storeG none sg (.gp g o) m v) c) Q := by
  rw [storeG_gp (hL.at e) hv ho h0]; exact h _ (hL.put _ e)
theorem ev_map {es : List (AVal × AVal)} {c : Nat × List (AVal × AVal) → R} (hL : Has sg L) (n : Nat) (e : L[n]? = some (g, .map es)) (h : Ev (c (g, es)) Q) :
    Ev (withO (mapV sg (.gm g)) c) Q := by
  have : mapV sg (.gm g) = some (g, es) := by simp only [mapV, hL.at e]
  rw [this]; exact h
theorem ev_app_nil {ty : Option TypeId} {esz bytes sz m : Nat} {fl : List AVal} {c : AVal × Sg → R} (hL : Has sg L) (h : ∀ g' sg', Has sg' ((g', boxT ty fl) :: L) → Ev (c (.gs g' esz 0 m, sg')) Q) :
    Ev (withO (app1 ty esz bytes sg (.sl true sz []) m fl) c) Q := by
  rw [app1_nil]; exact h _ _ (hL.new _)
theorem ev_app_gs {esz bytes k m : Nat} {fl cs : List AVal} {c : AVal × Sg → R} (hL : Has sg L) (n : Nat) (e : L[n]? = some (g, .mk cs)) (hl : cs.length = k * esz) (h0 : 0 < cs.length) (hb : (k + m) * bytes ≤ 35184372088832)
    (h : ∀ g' sg', Has sg' ((g', .mk (cs ++ fl)) :: L.set n (g, .mk [])) → Ev (c (.gs g' esz 0 (k + m), sg')) Q) :
    Ev (withO (app1 none esz bytes sg (.gs g esz 0 k) m fl) c) Q := by
  rw [app1_gs (hL.at e) rfl hl h0 hb]
  refine h _ _ ?_
  have h1 := (hL.put (.mk []) e).new (.mk (cs ++ fl))
  rw [List.length_set] at h1; exact h1
/-- A struct that is read. -/
theorem ev_ldG {m : Nat} {cs : List AVal} {c : List AVal → R} (hL : Has sg L) (n : Nat) (e : L[n]? = some (g, B)) (ec : (B.cells.drop o).take m = cs) (hm : cs.length = m) (h0 : 0 < m) (h : Ev (c cs) Q) :
    Ev (withO (loadC none sg (.gp g o)) fun p => bif (p.snd + m).ble p.fst.length then bindL (List.take m (List.drop p.snd p.fst)) c else none) Q := by
  have h1 : o + m ≤ B.cells.length := by
    have := congrArg List.length ec
    simp only [List.length_take, List.length_drop] at this
    omega
  refine ev_ld hL n e (by omega) ?_
  show Ev (bif (o + m).ble B.cells.length then bindL (List.take m (List.drop o B.cells)) c else none) Q
  rw [ec]
  exact ev_bif (Nat.ble_eq_true_of_le h1) h
/-- A loop: I holds at the head, i rounds were done; m rounds at most. -/
theorem ev_iter {rnd : St → (Ex → St → R) → R} {k : Ex → St → R} (m : Nat) (I : Nat → St → Prop)
    (hR : ∀ i st K, i ≤ m → I i st → (∀ st', i < m → I (i + 1) st' → Ev (K .normal st') Q) → (∀ id st', Ev (k (.exit id) st') Q → Ev (K (.exit id) st') Q) → (∀ st', Ev (k .ret st') Q → Ev (K .ret st') Q) → Ev (rnd st K) Q) :
    ∀ (j i M : Nat) (st : St), i + j = m → j < M → I i st → Ev (iter rnd M st k) Q
  | j, i, M + 1, st, hi, hM, h => by
    show Ev (rnd st _) Q
    refine hR i st _ (by omega) h (fun st' hlt h' => ?_) (fun id st' h' => h') (fun st' h' => h')
    match j, hlt with
    | j + 1, _ => exact ev_iter m I hR j (i + 1) M st' (by omega) (by omega) h'
    | 0, hlt => omega
  | j, i, 0, st, hi, hM, h => by omega
theorem ev_loop {rnd : St → (Ex → St → R) → R} {k : Ex → St → R} {M : Nat} {st : St} (m : Nat) (I : Nat → St → Prop) (hM : m < M) (h0 : I 0 st)
    (hR : ∀ i st K, i ≤ m → I i st → (∀ st', i < m → I (i + 1) st' → Ev (K .normal st') Q) → (∀ id st', Ev (k (.exit id) st') Q → Ev (K (.exit id) st') Q) → (∀ st', Ev (k .ret st') Q → Ev (K .ret st') Q) → Ev (rnd st K) Q) :
    Ev (iter rnd M st k) Q := ev_iter m I hR m 0 M st (by omega) hM h0
end
theorem splice_map {α : Type} (f : α → AVal) {l : List α} {i : Nat} {x : α} {v : AVal} (hv : v.cells = [f x]) (h : i < l.length) : splice (l.map f) (0 + ((i : Nat) : Int).toNat * 1) v.cells = (l.set i x).map f := by
  have e : 0 + ((i : Nat) : Int).toNat * 1 = i := by simp
  rw [e, hv]
  simp only [splice, List.length_singleton]
  rw [List.map_set, List.set_eq_take_append_cons_drop, if_pos (by simpa using h)]
  simp
theorem i64_nat {i : Nat} (h : i < 4611686018427387904) : IntKind.i64.wrap (((i : Nat) : Int) + 1) = ((i + 1 : Nat) : Int) := by
  rw [Go.IntWalk.i64_in _ ⟨by omega, by omega⟩]; simp
/-! ### Maps of numbers -/
section
variable {α : Type}
def emb (f : α → AVal) (l : List (Int × α)) : List (AVal × AVal) := l.map fun p => (vI p.1, f p.2)
def lk (k : Int) : List (Int × α) → Option α
  | [] => none
  | (k', v) :: l => if k = k' then some v else lk k l
def insM (k : Int) (v : α) : List (Int × α) → List (Int × α)
  | [] => [(k, v)]
  | (k', v') :: l => if k = k' then (k, v) :: l else (k', v') :: insM k v l
def delM (k : Int) : List (Int × α) → List (Int × α)
  | [] => []
  | (k', v') :: l => if k = k' then l else (k', v') :: delM k l
variable (f : α → AVal)
theorem mGet_emb (k : Int) : ∀ l, mGet (vI k) (emb f l) = some ((lk k l).map f)
  | [] => rfl
  | (k', v) :: l => by
    have ih := mGet_emb k l
    simp only [emb] at ih
    simp only [emb, List.map_cons, mGet, keyIs, kEq, cond_true, lk]
    by_cases h : k = k'
    · simp [h]
    · have hb : (k == k') = false := by simpa using h
      simp only [hb, if_neg h, ih]
      try rfl
theorem mSet_emb (k : Int) (v : α) : ∀ l, mSet (vI k) (f v) (emb f l) = some (emb f (insM k v l))
  | [] => rfl
  | (k', v') :: l => by
    have ih := mSet_emb k v l
    simp only [emb] at ih
    simp only [emb, List.map_cons, mSet, keyIs, kEq, cond_true, insM]
    by_cases h : k = k'
    · simp [h]
    · have hb : (k == k') = false := by simpa using h
      simp only [hb, if_neg h, ih]
      try rfl
theorem mDel_emb (k : Int) : ∀ l, mDel (vI k) (emb f l) = some (emb f (delM k l))
  | [] => rfl
  | (k', v') :: l => by
    have ih := mDel_emb k l
    simp only [emb] at ih
    simp only [emb, List.map_cons, mDel, keyIs, kEq, cond_true, delM]
    by_cases h : k = k'
    · simp [h]
    · have hb : (k == k') = false := by simpa using h
      simp only [hb, if_neg h, ih]
      try rfl
theorem keysI_emb : ∀ (l : List (Int × α)), keysI (emb f l) = some (l.map (·.1))
  | [] => rfl
  | (k, v) :: l => by
    have ih := keysI_emb l
    simp only [emb] at ih
    simp only [emb, List.map_cons, keysI, ih]
theorem emb_len (l : List (Int × α)) : (emb f l).length = l.length := List.length_map ..
theorem lk_ins (k : Int) (v : α) (j : Int) : ∀ l, lk j (insM k v l) = if j = k then some v else lk j l
  | [] => by simp [insM, lk]
  | (k', v') :: l => by
    have ih := lk_ins k v j l
    simp only [insM]
    by_cases h : k = k'
    · subst h; simp only [if_true, lk]; split <;> rfl
    · simp only [if_neg h, lk, ih]
      by_cases h2 : j = k'
      · subst h2; simp [Ne.symm h]
      · simp [h2]
theorem lk_none {j : Int} : ∀ {l : List (Int × α)}, lk j l = none ↔ j ∉ l.map (·.1)
  | [] => by simp [lk]
  | (k', v') :: l => by
    simp only [lk, List.map_cons, List.mem_cons, not_or]
    by_cases h : j = k'
    · simp [h]
    · simp [h, lk_none (l := l)]
theorem lk_del (k : Int) (j : Int) : ∀ {l : List (Int × α)}, (l.map (·.1)).Nodup → lk j (delM k l) = if j = k then none else lk j l
  | [], _ => by simp [delM, lk]
  | (k', v') :: l, h => by
    simp only [List.map_cons, List.nodup_cons] at h
    have ih := lk_del k j h.2
    simp only [delM]
    by_cases h1 : k = k'
    · subst h1
      simp only [if_true, lk]
      by_cases h2 : j = k
      · subst h2; simp [lk_none.2 h.1]
      · simp [h2]
    · simp only [if_neg h1, lk, ih]
      by_cases h2 : j = k'
      · subst h2; simp [Ne.symm h1]
      · simp [h2]
theorem keys_ins {k : Int} {v : α} : ∀ {l : List (Int × α)} {j : Int}, j ∈ (insM k v l).map (·.1) ↔ j = k ∨ j ∈ l.map (·.1)
  | [], j => by simp [insM]
  | (k', v') :: l, j => by
    have ih := keys_ins (k := k) (v := v) (l := l) (j := j)
    simp only [insM]
    by_cases h : k = k'
    · subst h; simp
    · simp only [if_neg h, List.map_cons, List.mem_cons, ih]
      constructor
      · rintro (h1 | h1 | h1) <;> simp [h1]
      · rintro (h1 | h1 | h1) <;> simp [h1]
theorem nodup_ins {k : Int} {v : α} : ∀ {l : List (Int × α)}, (l.map (·.1)).Nodup → ((insM k v l).map (·.1)).Nodup
  | [], _ => by simp [insM]
  | (k', v') :: l, h => by
    simp only [List.map_cons, List.nodup_cons] at h
    simp only [insM]
    by_cases h1 : k = k'
    · subst h1; simpa using h
    · simp only [if_neg h1, List.map_cons, List.nodup_cons]
      refine ⟨fun hm => ?_, nodup_ins h.2⟩
      rcases keys_ins.1 hm with h2 | h2
      · exact h1 h2.symm
      · exact h.1 h2
theorem del_sub (k : Int) : ∀ (l : List (Int × α)), (delM k l).Sublist l
  | [] => List.Sublist.slnil
  | (k', v') :: l => by
    simp only [delM]
    by_cases h : k = k'
    · simp only [if_pos h]; exact List.sublist_cons_self _ _
    · simp only [if_neg h]; exact (del_sub k l).cons_cons _
theorem nodup_del {k : Int} {l : List (Int × α)} (h : (l.map (·.1)).Nodup) : ((delM k l).map (·.1)).Nodup := ((del_sub k l).map (·.1)).nodup h
end
/-- Numbers below n, none twice, are at most n. -/
theorem len_le_of_nodup {n : Nat} : ∀ {l : List Int}, l.Nodup → (∀ x, x ∈ l → 0 ≤ x ∧ x < n) → l.length ≤ n := by
  induction n with
  | zero =>
    intro l _ h2
    cases l with
    | nil => simp
    | cons x l => have := h2 x (by simp); omega
  | succ n ih =>
    intro l h1 h2
    have h3 := ih (l := l.erase (n : Int)) (h1.erase _) (fun x hx => by
      have a1 := h2 x (List.mem_of_mem_erase hx)
      have a2 : x ≠ (n : Int) := by
        rintro rfl
        exact (List.Nodup.not_mem_erase h1) hx
      omega)
    rw [List.length_erase] at h3
    split at h3 <;> omega
end Go.Abs
