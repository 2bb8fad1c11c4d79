/- THE ENGINE, part 5: operations that make no memory. -/
import Derived.Test.YtafmbianlodemaaSnd1
import Derived.Test.YtafmbianlodemaaComp
import Derived.Laws.Entries
namespace Go.Abs
set_option linter.unusedSectionVars false
set_option linter.unusedVariables false
set_option linter.unusedSimpArgs false

def OpOK (P : Program) (C : CallF) (nt : Nat) (o : Oper) (ao : AOp) : Prop :=
  ∀ (G : Gh) (st : St) (a : Act) (w : World), Rel G nt st a.tmps w → ∀ (out : Out) (c : Step → R), sem C o.dst ao st c = some out →
    ∀ (next : Act → World → Prop) (Q : Exit → Act → World → Prop),
    (∀ us G' a' w', c (.go us) = some out → Rel G' nt (upds st us) a'.tmps w' → a'.defers = a.defers → Fr G w G' w' → next a' w') →
    (∀ v sg G' u w', c (.pan v sg) = some out → VR G'.Z G'.ι v u → Rel G' nt (upd st .g (.sg sg)) a.tmps w' → Fr G w G' w' → Q (.panic [{ v := u, recovered := false }]) a w') →
    o.wp P a w next Q

section
variable {P : Program} {C : CallF} {nt : Nat} {o : Oper}

theorem opVal {G : Gh} {st : St} {a : Act} {w : World} (H : Rel G nt st a.tmps w) (hd : ∀ x, o.dst = some x → x < nt) {out : Out} {c : Step → R} {s : Slot} {v : Value}
    (hrun : (execOp a.eval o).run P w = .ok (.value v) w) (hs : ∀ x, SlotR G st w x s v) (hc : c (.go (dstU o.dst s)) = some out)
    {next : Act → World → Prop} {Q : Exit → Act → World → Prop}
    (hn : ∀ us G' a' w', c (.go us) = some out → Rel G' nt (upds st us) a'.tmps w' → a'.defers = a.defers → Fr G w G' w' → next a' w') : o.wp P a w next Q :=
  wp_val hrun (hn _ G _ w hc (H.dst hd fun x _ => hs x) (put_defers _ _ _) (Fr.refl _ _))

theorem at_eq {Z : Fz} {ι : Iot} {v u : Value} (h : VR Z ι (.at v) u) : u = v := by cases h; rfl

theorem ok_mov {x : Operand} (hd : ∀ x, o.dst = some x → x < nt) (hop : ∀ ρ, execOp ρ o = pure (.value (ρ x))) : OpOK P C nt o (.mov x) := by
  intro G st a w H out c h next Q hn hp
  exact opVal (P := P) H hd (s := unflag (rdO st x)) (v := a.eval x) (by rw [hop]; rfl) (fun i => (rdO_rel H x).slot) h hn

theorem ok_move {x : Operand} (hd : ∀ x, o.dst = some x → x < nt) (hop : o.op = .move x ∨ o.op = .assign x) : OpOK P C nt o (.mov x) :=
  ok_mov hd fun ρ => by rcases hop with h | h <;> simp [execOp, h]

theorem ok_nilS {sz : Nat} (hd : ∀ x, o.dst = some x → x < nt) (hop : o.op = .move (.const (.slice none 0 0)) ∨ o.op = .assign (.const (.slice none 0 0))) : OpOK P C nt o (.nilS sz) := by
  intro G st a w H out c h next Q hn hp
  exact opVal (P := P) H hd (s := .v (.sl true sz []) true) (v := .slice none 0 0) (by rcases hop with h | h <;> simp [execOp, h, Act.eval])
    (fun i => ⟨.inr .nil, fun _ => ⟨true, sz, [], rfl, .inl rfl⟩⟩) h hn

theorem ok_movA {x : Nat} (hd : ∀ x, o.dst = some x → x < nt) (hx : x < nt) (hne : o.dst ≠ some x) (hop : o.op = .move (.tmp x) ∨ o.op = .assign (.tmp x)) : OpOK P C nt o (.movA x) := by
  intro G st a w H out c h next Q hn hp
  simp only [sem] at h
  have hr : ∀ s, rdT st x = s → st (.s x) = .sv s ∨ s = .v .junk false := by
    intro s hs; unfold rdT at hs; split at hs
    · rename_i s' h'; left; rw [h', hs]
    · right; exact hs.symm
  cases hs : rdT st x with
  | lp => rw [hs] at h; cases h
  | ls => rw [hs] at h; cases h
  | v v f =>
    rw [hs] at h
    have hrun : (execOp a.eval o).run P w = .ok (.value (a.tmps.getD x undef)) w := by rcases hop with h | h <;> simp [execOp, h, Act.eval]
    have hsr : SlotR G st w x (.v v f) (a.tmps.getD x undef) := by
      rcases hr _ hs with h' | h'
      · exact H.slots x _ h'
      · cases h'; exact ⟨.inl rfl, by simp⟩
    have hself : a.tmps.setIfInBounds x (a.tmps.getD x undef) = a.tmps := by
      apply Array.ext
      · simp
      · intro i h1 h2
        rw [Array.getElem_setIfInBounds]
        split
        · rename_i he; subst he; simp [Array.getD, h2]
        · rfl
    cases hdst : o.dst with
    | none =>
      rw [hdst] at h
      -- the right goes nowhere: it is let go
      refine wp_val hrun (hn _ G _ w h ?_ (put_defers _ _ _) (Fr.refl _ _))
      have := H.setSlot x (.v v false) _ hx ⟨hsr.1, by simp⟩
      rw [hself] at this
      rw [hdst]
      exact this
    | some d =>
      rw [hdst] at h
      have hdx : d ≠ x := fun e => hne (by rw [hdst, e])
      -- who owned x's block owns it for d
      let G' : Gh := { G with own := fun b => if G.own b = some (.slot x) ∧ f = true then some (.slot d) else if G.own b = some (.slot d) ∧ f = true then none else G.own b }
      have R1 : Rel G nt (upd st (.s x) (.sv (.v v false))) a.tmps w := by
        have := H.setSlot x (.v v false) _ hx ⟨hsr.1, by simp⟩
        rwa [hself] at this
      have R2 : Rel G nt (upd (upd st (.s x) (.sv (.v v false))) (.s d) (.sv (.v .junk false))) (a.tmps.setIfInBounds d (a.tmps.getD x undef)) w := R1.setJunk d _ (hd d hdst)
      have hnosl : ∀ i s, upd (upd st (.s x) (.sv (.v v false))) (.s d) (.sv (.v .junk false)) (.s i) = .sv s → ∀ b, (∃ vv, s = .v vv true) → G.own b = some (.slot i) → i ≠ x ∧ i ≠ d := by
        intro i s hi b hb ho
        obtain ⟨vv, rfl⟩ := hb
        constructor
        · rintro rfl
          rw [upd_ne _ _ (by simpa using fun e => hdx e.symm), upd_self] at hi
          cases hi
        · rintro rfl
          rw [upd_self] at hi
          cases hi
      have R3 : Rel G' nt (upd (upd st (.s x) (.sv (.v v false))) (.s d) (.sv (.v .junk false))) (a.tmps.setIfInBounds d (a.tmps.getD x undef)) w := by
        refine ⟨R2.size, fun i s hi => ?_, fun s B h => ?_, fun sg h g B hg hne => ?_, R2.gdom, fun aa v h => ?_, fun b oo h => ?_⟩
        · have h0 := R2.slots i s hi
          cases s with
          | v vv ff =>
            refine ⟨h0.1, fun hff => ?_⟩
            obtain ⟨nn, sz, l, h1, h2⟩ := h0.2 hff
            refine ⟨nn, sz, l, h1, ?_⟩
            rcases h2 with h2 | ⟨b, off, n, cap, h3, h4, h5⟩
            · exact .inl h2
            · refine .inr ⟨b, off, n, cap, h3, ?_, h5⟩
              subst hff
              have := hnosl i _ hi b ⟨vv, rfl⟩ h4
              simp only [G']
              rw [if_neg (fun e => this.1 (by have := e.1; rw [h4] at this; simpa using this)), if_neg (fun e => this.2 (by have := e.1; rw [h4] at this; simpa using this))]
              exact h4
          | lp => exact h0
          | ls => exact h0
        · obtain ⟨b, h1, h2, h3⟩ := R2.lbox s B h
          refine ⟨b, h1, ?_, h3⟩
          simp only [G']
          rw [h2]; simp
        · obtain ⟨b, h1, h2, h3, h4⟩ := R2.gbox sg h g B hg hne
          refine ⟨b, h1, ?_, h3, h4⟩
          simp only [G']
          rw [h2]; simp
        · obtain ⟨h1, h2, h3⟩ := R2.frz aa v h
          refine ⟨h1, h2, fun oo ho => ?_⟩
          simp only [G'] at ho
          split at ho
          · cases ho; exact ⟨d, rfl⟩
          · split at ho
            · cases ho
            · exact h3 oo ho
        · simp only [G'] at h
          split at h
          · rename_i hh; exact R2.ownlt b _ hh.1
          · split at h
            · cases h
            · exact R2.ownlt b _ h
      have hfr : Fr G w G' w := ⟨rfl, rfl, rfl, Nat.le_refl _, fun _ _ h => h, fun _ _ h => h, fun b hb ho => ⟨rfl, by simp [G', ho], fun _ _ => rfl⟩⟩
      have hsl : SlotR G' (upd (upd st (.s x) (.sv (.v v false))) (.s d) (.sv (.v .junk false))) w d (.v v f) (a.tmps.getD x undef) := by
        refine ⟨hsr.1, fun hf => ?_⟩
        obtain ⟨nn, sz, l, h1, h2⟩ := hsr.2 hf
        refine ⟨nn, sz, l, h1, ?_⟩
        rcases h2 with h2 | ⟨b, off, n, cap, h3, h4, h5⟩
        · exact .inl h2
        · exact .inr ⟨b, off, n, cap, h3, by simp [G', h4, hf], h5⟩
      have R4 := R3.setSlot d (.v v f) (a.tmps.getD x undef) (hd d hdst) hsl
      have e1 : upd (upd (upd st (.s x) (.sv (.v v false))) (.s d) (.sv (.v .junk false))) (.s d) (.sv (.v v f)) = upds st ((.s x, .sv (.v v false)) :: dstU (some d) (.v v f)) := by
        funext q
        simp only [upds, dstU]
        by_cases hq : q = .s d
        · subst hq; simp [upd_self]
        · rw [upd_ne _ _ hq, upd_ne _ _ hq, upd_ne _ _ hq]
      rw [e1] at R4
      have e2 : (a.tmps.setIfInBounds d (a.tmps.getD x undef)).setIfInBounds d (a.tmps.getD x undef) = (a.put o.dst (a.tmps.getD x undef)).tmps := by
        rw [hdst]; simp [Act.put]
      rw [e2] at R4
      exact wp_val hrun (hn _ G' _ w h R4 (put_defers _ _ _) hfr)

theorem ok_pick {t x y : Operand} (hd : ∀ x, o.dst = some x → x < nt) (hop : o.op = .pick t x y) : OpOK P C nt o (.pick t x y) := by
  intro G st a w H out c h next Q hn hp
  simp only [sem] at h
  obtain ⟨b, h1, h2⟩ := withB_some h
  have ht := at_eq (rdA_rel H h1).1
  have hrun : (execOp a.eval o).run P w = .ok (.value (if b then a.eval x else a.eval y)) w := by simp [execOp, hop, ht, asBool]
  split at h2
  · rename_i hb; subst hb
    obtain ⟨v, h3, h4⟩ := withA_some h2
    exact opVal (P := P) H hd (by simpa using hrun) (fun i => slotV (rdA_rel H h3).1) h4 hn
  · rename_i hb; simp at hb; subst hb
    obtain ⟨v, h3, h4⟩ := withA_some h2
    exact opVal (P := P) H hd (by simpa using hrun) (fun i => slotV (rdA_rel H h3).1) h4 hn

theorem slotAt {G : Gh} {st : St} {w : World} {i : Nat} {v : Value} (h : one v = true) : SlotR G st w i (.v (.at v) false) v := slotV (.at h)

theorem opAt {G : Gh} {st : St} {a : Act} {w : World} (H : Rel G nt st a.tmps w) (hd : ∀ x, o.dst = some x → x < nt) {out : Out} {c : Step → R} {v : Value}
    (hc : c (.go (dstU o.dst (.v (.at v) false))) = some out) (h1 : one v = true) (hrun : (execOp a.eval o).run P w = .ok (.value v) w)
    {next : Act → World → Prop} {Q : Exit → Act → World → Prop}
    (hn : ∀ us G' a' w', c (.go us) = some out → Rel G' nt (upds st us) a'.tmps w' → a'.defers = a.defers → Fr G w G' w' → next a' w') : o.wp P a w next Q :=
  opVal (P := P) H hd hrun (fun i => slotAt h1) hc hn

theorem isShift_iff {op : BinOp} : isShift op = true ↔ op = .shl ∨ op = .shr := by cases op <;> simp [isShift]

theorem ok_bin {op : BinOp} {t : TypeId} {x y : Operand} {ty : TypeId} (hd : ∀ x, o.dst = some x → x < nt) (hop : o.op = .binOp op t x y ty) : OpOK P C nt o (.bin op x y) := by
  intro G st a w H out c h next Q hn hp
  simp only [sem] at h
  obtain ⟨u, h1, h2⟩ := withA_some h
  obtain ⟨v, h3, h4⟩ := withA_some h2
  have e1 := (rdA_rel H h1).1
  have e2 := (rdA_rel H h3).1
  unfold binC at h4
  split at h4
  · rename_i k p k' q
    have e1 := at_eq e1
    have e2 := at_eq e2
    cases hs : isShift op with
    | true =>
      rw [hs] at h4
      have h4 : (if q < 0 then none else c (.go (dstU o.dst (.v (.at (.int k (shiftI op k p q))) false)))) = some out := h4
      split at h4
      · cases h4
      · rename_i hq
        refine opAt (P := P) H hd h4 rfl ?_ hn
        rcases isShift_iff.1 hs with rfl | rfl <;>
          simp [execOp, hop, e1, e2, eqGuard, Go.binOp, Op.shift, hq, shiftI]
    | false =>
      rw [hs] at h4
      have h5 : (bif kEq k k' then binI op k p q fun r => c (.go (dstU o.dst (.v (.at r) false))) else none) = some out := h4
      clear h4
      obtain ⟨hk, h6⟩ := bif_some h5
      clear h5
      rw [kEq_iff] at hk; subst hk
      cases op <;> simp [isShift] at hs <;> simp only [binI] at h6 <;> (try (split at h6)) <;> (try (cases h6; done)) <;>
        refine opAt (P := P) H hd h6 ?_ ?_ hn <;> first | (exact rfl) |
        simp [execOp, hop, e1, e2, eqGuard, Go.binOp, Op.intArith, Op.intDiv, Op.intBits, Op.intCmp, bitsI, *]
  · have e1 := at_eq e1
    have e2 := at_eq e2
    unfold binS at h4
    cases op <;> simp only at h4 <;> (try (split at h4)) <;> (try (cases h4; done)) <;>
      refine opAt (P := P) H hd h4 ?_ ?_ hn <;> first | (exact rfl) | skip
    all_goals first
        | (simp [execOp, hop, e1, e2, eqGuard, Go.binOp, Op.stringOp, *]; done)
        | (rename_i hx; simp [IntKind.max, IntKind.signed, IntKind.bits] at hx; simp [execOp, hop, e1, e2, eqGuard, Go.binOp, Op.stringOp, IntKind.max, IntKind.signed, IntKind.bits]; omega)
  · cases h4
end
end Go.Abs
