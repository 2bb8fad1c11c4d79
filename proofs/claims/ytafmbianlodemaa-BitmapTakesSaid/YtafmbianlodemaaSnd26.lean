/- THE ENGINE, part 29: a region that draws its order. -/
import Derived.Test.YtafmbianlodemaaSnd25
import Derived.Orders
namespace Go.Abs
set_option linter.unusedVariables false
set_option linter.unusedSimpArgs false
set_option linter.unusedSectionVars false

def rdI (i : AI) : List Res := (match i.g with
  | some (t, _) => [.s t]
  | none => []) ++ readsOf i.dst i.op
def wrI (i : AI) : List Res := writesOf i.dst i.op

theorem ds_writes {d : Option Nat} {o : AOp} {r : Res} (h : r ∈ ds d) : r ∈ writesOf d o := by
  cases o <;> simp only [writesOf] <;> first | exact h | exact List.mem_cons_of_mem _ h | exact List.mem_append_right _ h

/-- One instruction of such a region. -/
theorem execD_step {C : CallF} {i : AI} {st : St} {k : St → R} {out : Out} (h : execD C i st k = some out) :
    ∃ us, k (upds st us) = some out ∧ (∀ u ∈ us, u.1 ∈ wrI i) ∧ ∀ st', Agree (rdI i) st st' → ∀ k' : St → R, execD C i st' k' = k' (upds st' us) := by
  unfold execD at h
  cases hg : i.g with
  | none =>
    rw [hg] at h
    simp only at h
    obtain ⟨s, h1, h2, h3⟩ := sem_step h
    cases s with
    | pan v sg => cases h1
    | go us =>
      refine ⟨us, h1, goodU_mem h2, fun st' hag k' => ?_⟩
      unfold execD
      rw [hg]
      exact h3 st' hag.right _
  | some tb =>
    obtain ⟨t, want⟩ := tb
    rw [hg] at h
    simp only at h
    split at h
    · rename_i b f hs
      have get : ∀ (st' : St), rdT st' t = .v (.at (.bool b)) f → ∀ x : Bool, b = x → upd st' (.s t) (.sv (.v (.at (.bool x)) f)) = st' := by
        rintro st' h' x rfl
        have : st' (.s t) = .sv (.v (.at (.bool b)) f) := by
          unfold rdT at h'
          split at h'
          · rename_i s' h''; rw [h'', h']
          · cases h'
        rw [← this]; exact upd_getself _ _
      have same : ∀ st', Agree (rdI i) st st' → rdT st' t = .v (.at (.bool b)) f := fun st' hag => by
        rw [← hs]
        exact agree_T (hag _ (by simp [rdI, hg]))
      split at h
      · rename_i hbw
        rw [get st hs want hbw] at h
        obtain ⟨s, h1, h2, h3⟩ := sem_step h
        cases s with
        | pan v sg => cases h1
        | go us =>
          refine ⟨us, h1, goodU_mem h2, fun st' hag k' => ?_⟩
          unfold execD
          rw [hg]
          simp only [same st' hag, hbw, if_true]
          have e := get st' (same st' hag) want hbw
          rw [e]
          exact h3 st' hag.right _
      · rename_i hbw
        have hn : b = !want := by cases b <;> cases want <;> simp_all
        rw [get st hs (!want) hn] at h
        refine ⟨_, h, fun u hu => ds_writes ?_, fun st' hag k' => ?_⟩
        · cases hd : i.dst with
          | none => rw [hd] at hu; cases hu
          | some d => rw [hd] at hu; simp [dstU] at hu; subst hu; simp [ds]
        · unfold execD
          rw [hg]
          simp only [same st' hag, hbw, if_false]
          have e := get st' (same st' hag) (!want) hn
          rw [e]
    · rename_i f hs
      have same : ∀ st', Agree (rdI i) st st' → rdT st' t = .v (.tup []) f := fun st' hag => by
        rw [← hs]
        exact agree_T (hag _ (by simp [rdI, hg]))
      refine ⟨_, h, fun u hu => ds_writes ?_, fun st' hag k' => ?_⟩
      · cases hd : i.dst with
        | none => rw [hd] at hu; cases hu
        | some d => rw [hd] at hu; simp [dstU] at hu; subst hu; simp [ds]
      · unfold execD
        rw [hg]
        simp only [same st' hag]
    · cases h

def sep (A B : List Res) : Bool := match A with
  | [] => true
  | r :: A => bif inR B r then false else sep A B
theorem sep_iff {A B : List Res} : sep A B = true ↔ ∀ r ∈ A, r ∉ B := by
  induction A with
  | nil => simp [sep]
  | cons r A ih =>
    simp only [sep]
    cases h : inR B r with
    | true => simp [inR_iff.1 h]
    | false =>
      have : r ∉ B := fun hm => by rw [inR_iff.2 hm] at h; cases h
      simp [ih, this]

/-- Two instructions whose order does not matter. -/
def apartI (i j : AI) : Bool := sep (wrI i) (rdI j) && (sep (wrI j) (rdI i) && sep (wrI i) (wrI j))

theorem upds_other {us : List (Res × RVal)} {q : Res} (h : ∀ u ∈ us, u.1 ≠ q) : ∀ (st : St), upds st us q = st q := by
  induction us with
  | nil => intro st; rfl
  | cons u us ih =>
    intro st
    obtain ⟨r, x⟩ := u
    simp only [upds]
    rw [ih (fun u hu => h u (List.mem_cons_of_mem _ hu))]
    have hn : r ≠ q := h (r, x) (by simp)
    unfold upd
    cases hq : q.is r with
    | true => exact absurd (Res.is_iff.1 hq).symm hn
    | false => rfl
theorem upds_same {us : List (Res × RVal)} {q : Res} : ∀ {st st' : St}, st q = st' q → upds st us q = upds st' us q := by
  induction us with
  | nil => intro st st' h; exact h
  | cons u us ih =>
    intro st st' h
    obtain ⟨r, x⟩ := u
    simp only [upds]
    refine ih ?_
    unfold upd
    cases q.is r <;> simp [h]
theorem upds_comm {us vs : List (Res × RVal)} (h : ∀ u ∈ us, ∀ v ∈ vs, u.1 ≠ v.1) (st : St) : upds (upds st us) vs = upds (upds st vs) us := by
  funext q
  by_cases hu : ∃ u ∈ us, u.1 = q
  · obtain ⟨u, hu, rfl⟩ := hu
    rw [upds_other (fun v hv e => h u hu v hv e.symm)]
    exact upds_same (upds_other (fun v hv e => h u hu v hv e.symm) st).symm
  · have hu' : ∀ u ∈ us, u.1 ≠ q := fun u hm e => hu ⟨u, hm, e⟩
    rw [upds_other hu' (upds st vs)]
    exact upds_same (upds_other hu' st)

theorem execD_swap {C : CallF} {i j : AI} (h : apartI i j = true) {st : St} {k : St → R} {out : Out} (e : execD C j st (fun s => execD C i s k) = some out) :
    execD C i st (fun s => execD C j s k) = some out := by
  simp only [apartI, Bool.and_eq_true, sep_iff] at h
  obtain ⟨h1, h2, h3⟩ := h
  obtain ⟨us, e1, w1, l1⟩ := execD_step e
  obtain ⟨vs, e2, w2, l2⟩ := execD_step e1
  have a1 : Agree (rdI i) (upds st us) st := fun r hr => (upds_other (fun u hu e => h2 _ (w1 u hu) (e ▸ hr)) st).symm
  have a2 : Agree (rdI j) st (upds st vs) := fun r hr => upds_other (fun u hu e => h1 _ (w2 u hu) (e ▸ hr)) st
  rw [l2 st a1, l1 _ a2, ← upds_comm (fun u hu v hv e => h3 _ (w2 v hv) (e ▸ w1 u hu))]
  exact e2

theorem execsD_front {C : CallF} {i : AI} {post : List AI} {k : St → R} {out : Out} : ∀ {pre : List AI}, (∀ j ∈ pre, apartI i j = true) → ∀ {st : St}, execsD C (pre ++ i :: post) st k = some out →
    execsD C (i :: (pre ++ post)) st k = some out
  | [], _, st, h => h
  | j :: pre, hp, st, h => by
    simp only [List.cons_append, execsD] at h ⊢
    obtain ⟨us, e1, w1, l1⟩ := execD_step h
    have := execsD_front (fun j hj => hp j (List.mem_cons_of_mem _ hj)) e1
    simp only [execsD] at this
    refine execD_swap (hp j (by simp)) ?_
    rw [l1 st (fun r _ => rfl)]
    exact this

theorem execD_exec {C : CallF} {i : AI} {st : St} {k : St → R} {out : Out} (h : execD C i st k = some out) : exec C i st k = some out := by
  have key : ∀ (st1 : St), sem C i.dst i.op st1 (afterD st1 k) = some out → sem C i.dst i.op st1 (after st1 k) = some out := fun st1 h1 => by
    obtain ⟨s, h2, h3, h4⟩ := sem_step h1
    rw [h4 st1 (fun r _ => rfl)]
    cases s with
    | go us => exact h2
    | pan v sg => cases h2
  unfold execD at h
  unfold exec
  split at h
  · exact key _ h
  · split at h
    · split at h
      · rename_i hb; simp only [hb, if_true]; exact key _ h
      · rename_i hb; simp only [hb, if_false]; exact h
    · exact h
    · cases h

/-- What must have gone before. -/
def befores (ops : Array Oper) (i : Nat) : List Nat := match ops[i]? with
  | some o => (o.after.toList.filter (Region.binds .any)).map (·.on)
  | none => []
def ord (ops : Array Oper) : Nat → Nat → Nat → Bool
  | 0, i, j => (befores ops i).any fun m => Nat.beq m j
  | n + 1, i, j => (befores ops i).any fun m => Nat.beq m j || ord ops n m j

def dummy : AI := ⟨none, none, .nilS 0⟩
def drawRow (ops : Array Oper) (is : List AI) (i : Nat) : Nat → Bool
  | 0 => true
  | j + 1 => (apartI (is.getD i dummy) (is.getD j dummy) || ord ops 8 i j) && drawRow ops is i j
def drawAll (ops : Array Oper) (is : List AI) : Nat → Bool
  | 0 => true
  | i + 1 => ((befores ops i).all (fun j => Nat.blt j i) && drawRow ops is i i) && drawAll ops is i
def drawChk (ops : Array Oper) (is : List AI) : Bool := drawAll ops is is.length

theorem drawRow_spec {ops : Array Oper} {is : List AI} {i : Nat} : ∀ {n j : Nat}, drawRow ops is i n = true → j < n → apartI (is.getD i dummy) (is.getD j dummy) = true ∨ ord ops 8 i j = true
  | n + 1, j, h, hj => by
    simp only [drawRow, Bool.and_eq_true, Bool.or_eq_true] at h
    rcases Nat.lt_succ_iff_lt_or_eq.1 hj with hj | rfl
    · exact drawRow_spec h.2 hj
    · exact h.1
theorem drawAll_spec {ops : Array Oper} {is : List AI} : ∀ {n i : Nat}, drawAll ops is n = true → i < n → (∀ j ∈ befores ops i, j < i) ∧ drawRow ops is i i = true
  | n + 1, i, h, hi => by
    simp only [drawAll, Bool.and_eq_true] at h
    rcases Nat.lt_succ_iff_lt_or_eq.1 hi with hi | rfl
    · exact drawAll_spec h.2 hi
    · refine ⟨fun j hj => ?_, h.1.2⟩
      have := List.all_eq_true.1 h.1.1 j hj
      exact Nat.blt_eq ▸ this

/-- All that must go before what is done is done. -/
def Down (ops : Array Oper) (listed : Array Bool) : Prop := ∀ x, listed.getD x false = true → ∀ m ∈ befores ops x, listed.getD m false = true

theorem ord_listed {ops : Array Oper} {listed : Array Bool} (hd : Down ops listed) : ∀ {n i j : Nat}, (∀ m ∈ befores ops i, listed.getD m false = true) → ord ops n i j = true → listed.getD j false = true
  | 0, i, j, h, ho => by
    simp only [ord, List.any_eq_true] at ho
    obtain ⟨m, hm, e⟩ := ho
    rw [← Nat.eq_of_beq_eq_true e]; exact h m hm
  | n + 1, i, j, h, ho => by
    simp only [ord, List.any_eq_true, Bool.or_eq_true] at ho
    obtain ⟨m, hm, e | e⟩ := ho
    · rw [← Nat.eq_of_beq_eq_true e]; exact h m hm
    · exact ord_listed hd (hd m (h m hm)) e

theorem ready_befores {ops : Array Oper} {listed : Array Bool} {i : Nat} (h : i ∈ Region.ready .any ops listed) : listed.getD i true = false ∧ i < ops.size ∧ ∀ m ∈ befores ops i, listed.getD m false = true := by
  obtain ⟨h0, o, ho, hall⟩ := mem_ready.1 h
  refine ⟨h0, (Array.getElem?_eq_some_iff.1 ho).1, fun m hm => ?_⟩
  simp only [befores, ho, List.mem_map, List.mem_filter, Array.mem_toList_iff] at hm
  obtain ⟨e, ⟨he, hb⟩, rfl⟩ := hm
  exact hall e he hb
theorem ready_of {ops : Array Oper} {listed : Array Bool} {i : Nat} (h0 : listed.getD i true = false) (hi : i < ops.size) (h : ∀ m ∈ befores ops i, listed.getD m false = true) : i ∈ Region.ready .any ops listed := by
  refine mem_ready.2 ⟨h0, ops[i], Array.getElem?_eq_getElem hi, fun e he hb => h _ ?_⟩
  simp only [befores, Array.getElem?_eq_getElem hi, List.mem_map, List.mem_filter, Array.mem_toList_iff]
  exact ⟨e, ⟨he, hb⟩, rfl⟩

section
variable {P : Program} {C : CallF} {nt : Nat}

theorem wpAny_ok {ops : Array Oper} {is : List AI} {Q : Exit → Act → World → Prop} {G0 : Gh} {w0 : World} {dfs : List Deferred} {out : Out} {k : Ex → St → R} (hK : KOK nt G0 w0 dfs out k Q)
    (hlen : ops.toList.length = is.length) (hai : ∀ (j : Nat) o i, ops.toList[j]? = some o → is[j]? = some i → AIOK P C nt ops o i) (hc : drawChk ops is = true) :
    ∀ (rem : List Nat) (fuel : Nat) (listed : Array Bool) (G : Gh) (st : St) (a : Act) (w : World), fuel = rem.length → listed.size = ops.size → Down ops listed →
      (∀ i, i < ops.size → (listed.getD i true = false ↔ i ∈ rem)) → (∀ i ∈ rem, i < ops.size) → rem.Pairwise (· < ·) →
      Rel G nt st a.tmps w → a.defers = dfs → Fr G0 w0 G w → execsD C (rem.map fun i => is.getD i dummy) st (k .normal) = some out → wpAny P .any ops Q fuel listed a w := by
  intro rem fuel
  induction fuel generalizing rem with
  | zero =>
    intro listed G st a w hf hs hdn hl hr hp H hd F h
    cases rem with
    | cons => simp at hf
    | nil =>
      refine ⟨?_, hK.1 .normal st G a w h H hd F⟩
      cases hz : Region.ready .any ops listed with
      | nil => rfl
      | cons i l =>
        obtain ⟨h1, h2, _⟩ := ready_befores (i := i) (by rw [hz]; simp)
        have := (hl i h2).1 h1
        cases this
  | succ fuel ih =>
    intro listed G st a w hf hs hdn hl hr hp H hd F h
    have hsz : ops.size = is.length := by rw [← hlen]; simp
    refine ⟨fun hz => ?_, fun i hi => ?_⟩
    · cases rem with
      | nil => simp at hf
      | cons i rem =>
        have hil : i < ops.size := hr i (by simp)
        have hin : i ∈ Region.ready .any ops listed := by
          refine ready_of ((hl i hil).2 (by simp)) hil fun m hm => ?_
          have hlt := (drawAll_spec hc (by omega)).1 m hm
          cases hq : listed.getD m false with
          | true => rfl
          | false =>
            have hml : m < ops.size := by omega
            have hq' : listed.getD m true = false := by
              rw [Array.getD_eq_getD_getElem?] at hq ⊢
              rw [Array.getElem?_eq_getElem (by omega)] at hq ⊢
              exact hq
            have := (hl m hml).1 hq'
            rcases List.mem_cons.1 this with rfl | hmr
            · omega
            · have := (List.pairwise_cons.1 hp).1 m hmr; omega
        rw [hz] at hin; cases hin
    · obtain ⟨h1, h2, h3⟩ := ready_befores hi
      have hir := (hl i h2).1 h1
      obtain ⟨pre, post, rfl⟩ := List.append_of_mem hir
      have hpre : ∀ j ∈ pre, j < i := fun j hj => (List.pairwise_append.1 hp).2.2 j hj i (by simp)
      have hpost : ∀ j ∈ post, i < j := fun j hj => (List.pairwise_cons.1 (List.pairwise_append.1 hp).2.1).1 j hj
      rw [List.map_append, List.map_cons] at h
      have h' := execsD_front (fun x hx => by
        obtain ⟨j, hj, rfl⟩ := List.mem_map.1 hx
        have hjl : j < ops.size := by have := hpre j hj; omega
        rcases drawRow_spec (drawAll_spec hc (by omega)).2 (hpre j hj) with ha | ho
        · exact ha
        · have hl1 := ord_listed hdn h3 ho
          have hl2 := (hl j hjl).2 (by simp [hj])
          rw [Array.getD_eq_getD_getElem?, Array.getElem?_eq_getElem (by omega)] at hl1 hl2
          simp at hl1 hl2
          rw [hl1] at hl2; cases hl2) h
      simp only [execsD] at h'
      rw [← List.map_append] at h'
      have hx := execD_exec h'
      have hoi : ops[i]? = some ops[i] := Array.getElem?_eq_getElem h2
      have hii : is[i]? = some (is.getD i dummy) := by rw [List.getD_eq_getElem?_getD, List.getElem?_eq_getElem (by omega)]; rfl
      have hrem : fuel = (pre ++ post).length := by simp at hf ⊢; omega
      have hin : ∀ x, x < ops.size → ((listed.setIfInBounds i true).getD x true = false ↔ x ∈ pre ++ post) := fun x hx => by
        by_cases he : i = x
        · subst he
          have : i ∉ pre ++ post := fun hm => by
            rcases List.mem_append.1 hm with hm | hm
            · exact absurd (hpre i hm) (by omega)
            · exact absurd (hpost i hm) (by omega)
          simp only [this, iff_false]
          rw [Array.getD_eq_getD_getElem?, Array.getElem?_setIfInBounds_self_of_lt (by omega)]
          simp
        · rw [getD_set_ne true he, hl x hx]
          have : x ≠ i := fun e => he e.symm
          simp [List.mem_append, List.mem_cons, this]
      have hdn' : Down ops (listed.setIfInBounds i true) := fun x hx m hm => by
        by_cases he : i = x
        · subst he; exact getD_set_true (h3 m hm)
        · rw [getD_set_ne false he] at hx
          exact getD_set_true (hdn x hx m hm)
      obtain ⟨e1, e2⟩ := exec_ok (hai i _ _ (by rw [Array.getElem?_toList]; exact hoi) hii) H hx (next := wpAny P .any ops Q fuel (listed.setIfInBounds i true)) (Q := Q)
        (fun st' G' a' w' hk R' hd' F' => ih (pre ++ post) (listed.setIfInBounds i true) G' st' a' w' hrem (by simpa using hs) hdn' hin
          (fun x hx => hr x (by rcases List.mem_append.1 hx with hx | hx <;> simp [hx])) (hp.sublist (by simp)) R' (hd'.trans hd) (F.trans F') hk)
        (fun v sg G' st' u w' hq hv R' hs F' => hK.2 v sg G' st' a u w' hq hv R' hs hd (F.trans F'))
      unfold wpOp
      rw [hoi]
      simp only
      cases hw : Region.wanted ops[i] (yielded ops a.tmps) with
      | true => rw [if_pos rfl]; exact .inl (e1 hw)
      | false => rw [if_neg (by simp)]; exact e2 hw

theorem range_map {is : List AI} : (List.range is.length).map (fun i => is.getD i dummy) = is := by
  apply List.ext_getElem?
  intro i
  rw [List.getElem?_map]
  by_cases h : i < is.length
  · rw [List.getElem?_eq_getElem (by simpa using h), List.getElem?_eq_getElem h]; simp [h]
  · rw [List.getElem?_eq_none (by simpa using h), List.getElem?_eq_none (by omega)]; rfl

theorem drawOK_of {id : Nat} {ops : Array Oper} {is : List AI} (hm : P.follows .mixedOrders = true) (hlen : ops.toList.length = is.length) (hai : ∀ (j : Nat) o i, ops.toList[j]? = some o → is[j]? = some i → AIOK P C nt ops o i)
    (hc : drawChk ops is = true) : DrawOK P C nt id ops is := by
  intro Q G0 w0 dfs out k hK G st a w H hd F h
  have hsz : ops.size = is.length := by rw [← hlen]; simp
  have lf : ∀ i, (Array.replicate ops.size false).getD i false = false := fun i => by
    rw [Array.getD_eq_getD_getElem?, Array.getElem?_replicate]; split <;> rfl
  refine wp_region_any hm ?_
  refine wpAny_ok hK hlen hai hc (List.range ops.size) ops.size _ G st a { w with drawn := w.drawn + 1 } (by simp) (by simp) (fun x hx => ?_) (fun i hi => ?_) (fun i hi => by simpa using hi) List.pairwise_lt_range ?_ hd ?_ ?_
  · rw [lf] at hx; cases hx
  · rw [Array.getD_eq_getD_getElem?, Array.getElem?_replicate]; simp [hi]
  · exact ⟨H.size, H.slots, H.lbox, H.gbox, H.gdom, H.frz, H.ownlt⟩
  · exact ⟨F.os, F.tape, F.output, F.size, F.Z, F.ι, F.rest⟩
  · rw [hsz, range_map]; exact h
end
end Go.Abs
