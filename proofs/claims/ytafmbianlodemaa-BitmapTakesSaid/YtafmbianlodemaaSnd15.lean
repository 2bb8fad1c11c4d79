/- THE ENGINE, part 18: calls. -/
import Derived.Test.YtafmbianlodemaaSnd14
namespace Go.Abs
set_option linter.unusedSectionVars false
set_option linter.unusedVariables false
set_option linter.unusedSimpArgs false

/-- What the common store says of a world, between calls. -/
structure GRel (G : Gh) (sg : Sg) (w : World) : Prop where
  gbox : ∀ (g : Nat) B, sg[g]? = some B → B.cells ≠ [] → ∃ b, G.ι g = some b ∧ G.own b.1 = some (.gbox g) ∧ BoxR G w B b.1 ∧ Room w b
  gdom : ∀ g, sg.length ≤ g → G.ι g = none
  frz : ∀ a v, G.Z a = some v → w.cell? a = some v ∧ one v = true ∧ G.own a.block = none
  ownlt : ∀ b o, G.own b = some o → b < w.heap.size
  ownG : ∀ b o, G.own b = some o → ∃ g, o = .gbox g

/-- How a call has ended. -/
def OutOK (G : Gh) (w : World) : Out → Ending → Prop
  | .ret v sg, e => ∃ u, e = .returned u ∧ VR G.Z G.ι v u ∧ GRel G sg w
  | .pan v sg, e => ∃ u, e = .panicked [{ v := u, recovered := false }] ∧ VR G.Z G.ι v u ∧ GRel G sg w

/-- What a call comes to. -/
def CallOK (P : Program) (f : FuncId) (as : List AVal) (sg : Sg) (out : Out) : Prop :=
  ∀ (G : Gh) (w : World) (args : Array Value), GRel G sg w → as.length = args.size → (∀ (i : Nat) a v, as[i]? = some a → args[i]? = some v → VR G.Z G.ι a v ∧ ∀ vs, a ≠ .tup vs) →
    Calls P f args w fun e w' => ∃ G', Fr G w G' w' ∧ OutOK G' w' out e

/-- A function that a call enters. -/
def Enters (P : Program) (f : FuncId) : Prop := ∃ fn, P.funcs[f]? = some fn ∧ fn.body ≠ none ∧ fn.name ≠ "runtime.NumGoroutine"

def SoundC (P : Program) (C : CallF) : Prop := ∀ f as sg out, C f as sg = some out → Enters P f ∧ CallOK P f as sg out

def Gh.callee (G : Gh) : Gh := { G with own := fun b => match G.own b with
  | some (.gbox g) => some (.gbox g)
  | _ => none }

section
variable {P : Program} {C : CallF} {nt : Nat} {o : Oper}

theorem callee_gbox {G : Gh} {b g : Nat} (h : G.own b = some (.gbox g)) : G.callee.own b = some (.gbox g) := by simp [Gh.callee, h]
theorem callee_some {G : Gh} {b : Nat} {oo : Owner} (h : G.callee.own b = some oo) : G.own b = some oo ∧ ∃ g, oo = .gbox g := by
  unfold Gh.callee at h
  simp only at h
  split at h
  · rename_i g hg; cases h; exact ⟨hg, g, rfl⟩
  · cases h

theorem Rel.toG {G : Gh} {st : St} {tm : Array Value} {w : World} (H : Rel G nt st tm w) {sg : Sg} (hsg : st .g = .sg sg) : GRel G.callee sg w where
  gbox g B hB hne := by
    obtain ⟨b, h1, h2, h3, h4⟩ := H.gbox sg hsg g B hB hne
    exact ⟨b, h1, callee_gbox h2, h3, h4⟩
  gdom := H.gdom sg hsg
  frz a v h := by
    obtain ⟨h1, h2, h3⟩ := H.frz a v h
    refine ⟨h1, h2, ?_⟩
    cases ho : G.callee.own a.block with
    | none => rfl
    | some oo =>
      obtain ⟨h4, g, rfl⟩ := callee_some ho
      obtain ⟨i, hi⟩ := h3 _ h4
      cases hi
  ownlt b oo h := H.ownlt b oo (callee_some h).1
  ownG b oo h := (callee_some h).2

theorem Rel.fromG {G G1 : Gh} {st : St} {tm : Array Value} {w w1 : World} (H : Rel G nt st tm w) {sg sg' : Sg} (hsg : st .g = .sg sg) (F : Fr G.callee w G1 w1) (K : GRel G1 sg' w1) :
    ∃ G2, Rel G2 nt (upd st .g (.sg sg')) tm w1 ∧ Fr G w G2 w1 ∧ G2.Z = G1.Z ∧ G2.ι = G1.ι := by
  let G2 : Gh := { G1 with lm := G.lm, own := fun b => match G.own b with
    | some (.slot i) => some (.slot i)
    | some (.lbox s) => some (.lbox s)
    | _ => G1.own b }
  have hloc : ∀ b oo, G.own b = some oo → (∀ g, oo ≠ .gbox g) → G.callee.own b = none := by
    intro b oo h hg
    cases hc : G.callee.own b with
    | none => rfl
    | some o2 =>
      obtain ⟨h1, g, rfl⟩ := callee_some hc
      rw [h] at h1; cases h1; exact absurd rfl (hg g)
  have hown : ∀ b oo, G.own b = some oo → (∀ g, oo ≠ .gbox g) → G2.own b = some oo := by
    intro b oo h hg
    cases oo with
    | gbox g => exact absurd rfl (hg g)
    | slot i => simp [G2, h]
    | lbox s => simp [G2, h]
  have hheap : ∀ b oo, G.own b = some oo → (∀ g, oo ≠ .gbox g) → w1.heap[b]? = w.heap[b]? ∧ ∀ j s, G1.Z ⟨b, j, s⟩ = G.Z ⟨b, j, s⟩ := by
    intro b oo h hg
    obtain ⟨h1, h2, h3⟩ := F.rest b (H.ownlt b oo h) (hloc b oo h hg)
    exact ⟨h1, h3⟩
  have hll : ∀ i, upd st .g (.sg sg') (.l i) = st (.l i) := fun i => upd_ne _ _ (by simp)
  have hls : ∀ i, upd st .g (.sg sg') (.s i) = st (.s i) := fun i => upd_ne _ _ (by simp)
  have hg2 : ∀ b oo, G2.own b = some oo → (G.own b = some oo ∧ ∀ g, oo ≠ .gbox g) ∨ G1.own b = some oo := by
    intro b oo h
    simp only [G2] at h
    split at h
    · rename_i i hi; cases h; exact .inl ⟨hi, by simp⟩
    · rename_i i hi; cases h; exact .inl ⟨hi, by simp⟩
    · exact .inr h
  have hown1 : ∀ b g, G1.own b = some (.gbox g) → G2.own b = some (.gbox g) := by
    intro b g h
    simp only [G2]
    split
    · rename_i i hi
      have := (F.rest b (H.ownlt b _ hi) (hloc b _ hi (by simp))).2.1
      rw [h] at this; cases this
    · rename_i i hi
      have := (F.rest b (H.ownlt b _ hi) (hloc b _ hi (by simp))).2.1
      rw [h] at this; cases this
    · exact h
  have hZ : ∀ a v, G.Z a = some v → G1.Z a = some v := F.Z
  have hι : ∀ g b, G.ι g = some b → G1.ι g = some b := F.ι
  refine ⟨G2, ⟨H.size, fun i s hi => ?_, fun i B hB => ?_, fun s hs g B hB hne => ?_, fun s hs => ?_, fun a v h => ?_, fun b oo h => ?_⟩, ⟨F.os, F.tape, F.output, F.size, hZ, hι, fun b hb ho => ?_⟩, rfl, rfl⟩
  · rw [hls] at hi
    have h0 := H.slots i s hi
    have h1 : SlotR G2 st w1 i s (tm.getD i undef) := by
      cases s with
      | v vv f =>
        refine ⟨h0.1.imp id fun h => h.mono hZ hι, fun hf => ?_⟩
        obtain ⟨nn, sz, l, e1, e2⟩ := h0.2 hf
        refine ⟨nn, sz, l, e1, ?_⟩
        rcases e2 with e2 | ⟨b, off, n, cap, e3, e4, e5⟩
        · exact .inl e2
        · obtain ⟨k1, k2⟩ := hheap b _ e4 (by simp)
          refine .inr ⟨b, off, n, cap, e3, hown b _ e4 (by simp), ?_⟩
          obtain ⟨arr, T, fr, p1, p2, p3, p4⟩ := e5
          exact ⟨arr, T, fr, k1.trans p1, p2, fun j hj => (k2 j none).trans (p3 j hj), p4⟩
      | lp b off => exact h0
      | ls b off n => exact h0
    exact h1.congr fun b B hB => ⟨B, by rw [hll]; exact hB⟩
  · rw [hll] at hB
    obtain ⟨b, e1, e2, arr, T, fr, p1, p2, p3, p4⟩ := H.lbox i B hB
    obtain ⟨k1, k2⟩ := hheap b _ e2 (by simp)
    exact ⟨b, e1, hown b _ e2 (by simp), arr, T, fr, k1.trans p1, p2, p3, fun j c hc => by obtain ⟨u, q1, q2, q3⟩ := p4 j c hc; exact ⟨u, q1, q2.mono hZ hι, q3⟩⟩
  · rw [upd_self] at hs; cases hs
    obtain ⟨b, e1, e2, e3, e4⟩ := K.gbox g B hB hne
    exact ⟨b, e1, hown1 b.1 g e2, e3, e4⟩
  · rw [upd_self] at hs; cases hs
    exact K.gdom
  · obtain ⟨e1, e2, e3⟩ := K.frz a v h
    refine ⟨e1, e2, fun oo ho => ?_⟩
    rcases hg2 _ oo ho with ⟨h1, h2⟩ | h1
    · cases oo with
      | gbox g => exact absurd rfl (h2 g)
      | slot i => exact ⟨i, rfl⟩
      | lbox s =>
        obtain ⟨k1, k2⟩ := hheap _ _ h1 h2
        have : G.Z a = some v := by
          have := k2 a.off a.spot
          rw [show (⟨a.block, a.off, a.spot⟩ : Addr) = a from rfl] at this
          rw [← this]; exact h
        obtain ⟨i, hi⟩ := (H.frz a v this).2.2 _ h1
        cases hi
    · rw [e3] at h1; cases h1
  · rcases hg2 _ oo h with ⟨h1, h2⟩ | h1
    · exact Nat.lt_of_lt_of_le (H.ownlt b oo h1) F.size
    · exact K.ownlt b oo h1
  · have hc : G.callee.own b = none := by simp [Gh.callee, ho]
    obtain ⟨h1, h2, h3⟩ := F.rest b hb hc
    exact ⟨h1, by simp [G2, ho, h2], h3⟩

theorem withRes_some {ks : List CK} {v : AVal} {α : Type} {out : α} {c : AVal → Option α} (h : withRes ks v c = some out) : ∃ v', c v' = some out ∧ ∀ Z ι u, VR Z ι v u → VR Z ι v' u := by
  unfold withRes at h
  split at h
  · exact ⟨v, h, fun _ _ _ h => h⟩
  · obtain ⟨v', h1, h2⟩ := withK_some h
    cases h1
    exact ⟨v, h2, fun _ _ _ h => h⟩
  · unfold withT at h
    split at h
    · rename_i vs
      obtain ⟨h1, h2⟩ := bif_some h
      obtain ⟨as, h3, h4, h5⟩ := withKs_some h2
      have hl := Nat.eq_of_beq_eq_true h1
      have : as = vs := by
        apply List.ext_getElem?
        intro j
        by_cases hj : j < ks.length
        · have := h4 j hj; simpa using this
        · rw [List.getElem?_eq_none (by omega), List.getElem?_eq_none (by omega)]
      subst this
      exact ⟨_, h5, fun _ _ _ h => h⟩
    · cases h

/-- A call with these values. -/
theorem call_ok (hC : SoundC P C) {G : Gh} {st : St} {a : Act} {w : World} (H : Rel G nt st a.tmps w) (hd : ∀ x, o.dst = some x → x < nt) {f : FuncId} {vs : List AVal} {args : Array Value} {sg : Sg} {ks : List CK} {out : Out} {c : Step → R}
    (hl : vs.length = args.size) (hv : ∀ (i : Nat) aa v, vs[i]? = some aa → args[i]? = some v → VR G.Z G.ι aa v ∧ ∀ vs, aa ≠ .tup vs) (hsg : st .g = .sg sg)
    (h : withOut (C f vs sg) (fun v sg' => withRes ks v fun v => c (.go ((.g, .sg sg') :: dstU o.dst (.v v false)))) (fun v sg' => c (.pan v sg')) = some out)
    (hrun : (execOp a.eval o).run P w = .ok (.enter f args) w) {next : Act → World → Prop} {Q : Exit → Act → World → Prop}
    (hn : ∀ us G' a' w', c (.go us) = some out → Rel G' nt (upds st us) a'.tmps w' → a'.defers = a.defers → Fr G w G' w' → next a' w')
    (hp : ∀ v sg G' u w', c (.pan v sg) = some out → VR G'.Z G'.ι v u → Rel G' nt (upd st .g (.sg sg)) a.tmps w' → Fr G w G' w' → Q (.panic [{ v := u, recovered := false }]) a w') :
    o.wp P a w next Q := by
  unfold Oper.wp
  rw [hrun, Oper.upon_enter]
  unfold withOut at h
  split at h
  · rename_i v sg' hc
    refine ((hC f vs sg _ hc).2 G.callee w args (H.toG hsg) hl hv).mono ?_
    rintro e w' ⟨G1, F, u, rfl, hu, K⟩
    obtain ⟨G2, R2, F2, hz, hi⟩ := H.fromG hsg F K
    obtain ⟨v', hc', hvr⟩ := withRes_some h
    have hu' : VR G2.Z G2.ι v' u := by rw [hz, hi]; exact hvr _ _ _ hu
    exact hn _ G2 _ _ hc' (R2.dst hd fun _ _ => slotV hu') (put_defers _ _ _) F2
  · rename_i v sg' hc
    refine ((hC f vs sg _ hc).2 G.callee w args (H.toG hsg) hl hv).mono ?_
    rintro e w' ⟨G1, F, u, rfl, hu, K⟩
    obtain ⟨G2, R2, F2, hz, hi⟩ := H.fromG hsg F K
    exact hp v sg' G2 u w' h (by rw [hz, hi]; exact hu) R2 F2
  · cases h

theorem callFunc_run {f : FuncId} (h : Enters P f) (args : Array Value) (w : World) : (callFunc f args).run P w = .ok (.enter f args) w := by
  obtain ⟨fn, h1, h2, h3⟩ := h
  simp [callFunc, h1, h2, h3]

theorem withOut_enters (hC : SoundC P C) {f : FuncId} {vs : List AVal} {sg : Sg} {α : Type} {out : α} {c1 c2 : AVal → Sg → Option α} (h : withOut (C f vs sg) c1 c2 = some out) : Enters P f := by
  unfold withOut at h
  split at h
  · rename_i hc; exact (hC _ _ _ _ hc).1
  · rename_i hc; exact (hC _ _ _ _ hc).1
  · cases h

theorem ok_call (hC : SoundC P C) {f : FuncId} {xs : Array Operand} {tys : Array TypeId} {ks : List CK} (hd : ∀ x, o.dst = some x → x < nt) (hop : o.op = .call { callee := .value (.func f), args := xs, argTypes := tys }) :
    OpOK P C nt o (.call f xs.toList ks) := by
  intro G st a w H out c h next Q hn hp
  simp only [sem] at h
  split at h
  · rename_i as has
    split at h
    · rename_i sg hsg
      obtain ⟨hl, hv⟩ := args_rel H has
      refine call_ok (args := xs.map a.eval) hC H hd (by simpa using hl) (fun i aa v h1 h2 => ?_) hsg h ?_ hn hp
      · obtain ⟨x, hx, hr, ht⟩ := hv i aa h1
        rw [Array.getElem?_toList] at hx
        simp [hx] at h2
        subst h2; exact ⟨hr, ht⟩
      · simp [execOp, hop, resolve, Deferred.ofValue, Act.eval, invoke, callFunc_run (withOut_enters hC h)]
    · cases h
  · cases h

theorem ok_callV (hC : SoundC P C) {x : Operand} {xs : Array Operand} {tys : Array TypeId} {ks : List CK} (hd : ∀ x, o.dst = some x → x < nt) (hop : o.op = .call { callee := .value x, args := xs, argTypes := tys })
    : OpOK P C nt o (.callV x xs.toList ks) := by
  intro G st a w H out c h next Q hn hp
  simp only [sem] at h
  split at h
  · rename_i f first cap hx
    split at h
    · rename_i as has
      split at h
      · rename_i sg hsg
        obtain ⟨hl, hv⟩ := args_rel H has
        obtain ⟨hvx, _⟩ := rdA_rel H hx
        generalize he : a.eval x = u at hvx
        cases hvx with
        | clo hl1 h1 hl2 h2 ht =>
          rename_i vf vc
          have hargs : (first ++ (as ++ cap)).length = (vf ++ (xs.map a.eval) ++ vc).size := by simp [hl1, hl2, hl]
          refine call_ok (args := vf ++ (xs.map a.eval) ++ vc) hC H hd hargs (fun i aa v e1 e2 => ?_) hsg h ?_ hn hp
          · rw [List.getElem?_append] at e1
            rw [Array.append_assoc, Array.getElem?_append] at e2
            rw [hl1] at e1
            split at e1
            · rename_i hlt
              rw [if_pos hlt] at e2
              exact ⟨h1 i aa v e1 e2, ht aa (List.mem_append.2 (.inl (List.mem_of_getElem? e1)))⟩
            · rename_i hlt
              rw [if_neg hlt] at e2
              rw [List.getElem?_append] at e1
              rw [Array.getElem?_append] at e2
              have hsz : (xs.map a.eval).size = as.length := by simp [hl]
              rw [hsz] at e2
              split at e1
              · rename_i hlt2
                rw [if_pos hlt2] at e2
                obtain ⟨x', hx', hr', ht'⟩ := hv _ aa e1
                rw [Array.getElem?_toList] at hx'
                simp [hx'] at e2
                subst e2; exact ⟨hr', ht'⟩
              · rename_i hlt2
                rw [if_neg hlt2] at e2
                exact ⟨h2 _ aa v e1 e2, ht aa (List.mem_append.2 (.inr (List.mem_of_getElem? e1)))⟩
          · simp [execOp, hop, resolve, he, Deferred.ofValue, invoke, callFunc_run (withOut_enters hC h)]
      · cases h
    · cases h
  · cases h
end
end Go.Abs
