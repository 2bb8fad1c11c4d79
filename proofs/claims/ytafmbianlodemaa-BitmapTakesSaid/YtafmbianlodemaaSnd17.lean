/- THE ENGINE, part 20: code and functions. -/
import Derived.Test.YtafmbianlodemaaSnd16
namespace Go.Abs
set_option linter.unusedSectionVars false
set_option linter.unusedVariables false
set_option linter.unusedSimpArgs false
section
variable {P : Program} {C : CallF} {nt : Nat}

theorem has_mem {l : List Nat} {x : Nat} : has l x = true → x ∈ l := by
  induction l with
  | nil => simp [has]
  | cons y l ih =>
    unfold has
    cases h : Nat.beq x y with
    | true => intro _; rw [Nat.eq_of_beq_eq_true h]; simp
    | false => intro h2; exact List.mem_cons_of_mem _ (ih h2)

theorem at_s_some {f : Nat → Slot} : ∀ {live : List Nat} {i : Nat} {s : Slot}, mkS.at_s live (live.map f) i = .sv s → s = f i
  | [], i, s, h => by simp [mkS.at_s] at h
  | l :: ls, i, s, h => by
    simp only [List.map_cons, mkS.at_s] at h
    cases hb : Nat.beq i l with
    | true => rw [hb] at h; have := Nat.eq_of_beq_eq_true hb; subst this; simp at h; exact h.symm
    | false => rw [hb] at h; exact at_s_some h
theorem at_l_some {f : Nat → Option Box} : ∀ {live : List Nat} {i : Nat} {B : Box}, mkS.at_l live (live.map f) i = .bx (some B) → f i = some B
  | [], i, s, h => by simp [mkS.at_l] at h
  | l :: ls, i, s, h => by
    simp only [List.map_cons, mkS.at_l] at h
    cases hb : Nat.beq i l with
    | true => rw [hb] at h; have := Nat.eq_of_beq_eq_true hb; subst this; simpa using h
    | false => rw [hb] at h; exact at_l_some h
theorem at_l_mem {f : Nat → Option Box} : ∀ {live : List Nat} {i : Nat}, i ∈ live → mkS.at_l live (live.map f) i = .bx (f i)
  | [], i, h => by cases h
  | l :: ls, i, h => by
    simp only [List.map_cons, mkS.at_l]
    cases hb : Nat.beq i l with
    | true => rw [Nat.eq_of_beq_eq_true hb]; rfl
    | false =>
      rcases List.mem_cons.1 h with rfl | h
      · simp at hb
      · exact at_l_mem h

theorem Rel.forget {G : Gh} {st : St} {tm : Array Value} {w : World} (H : Rel G nt st tm w) (live : List Nat) : Rel G nt (forget live st) tm w := by
  have hfg : Go.Abs.forget live st .g = st .g := rfl
  have hbx : ∀ b B, st (.l b) = .bx (some B) → b ∈ live → Go.Abs.forget live st (.l b) = .bx (some B) := by
    intro b B hB hb
    show mkS.at_l live (live.map (boxAt st)) b = _
    rw [at_l_mem hb]; simp [boxAt, hB]
  refine ⟨H.size, fun i s hi => ?_, fun i B hB => ?_, fun s hs => ?_, fun s hs => ?_, H.frz, H.ownlt⟩
  · have he : s = keepS live (rdT st i) := at_s_some (f := fun i => keepS live (rdT st i)) hi
    subst he
    have h0 := rdT_slot H (x := i) (s := rdT st i) rfl
    cases hr : rdT st i with
    | v a f => rw [hr] at h0; exact h0
    | lp b off =>
      rw [hr] at h0
      simp only [keepS]
      cases hb : has live b with
      | false => exact ⟨.inl rfl, by simp⟩
      | true =>
        obtain ⟨blk, h1, ⟨B, h2⟩, h3⟩ := h0
        exact ⟨blk, h1, ⟨B, hbx b B h2 (has_mem hb)⟩, h3⟩
    | ls b off n =>
      rw [hr] at h0
      simp only [keepS]
      cases hb : has live b with
      | false => exact ⟨.inl rfl, by simp⟩
      | true =>
        obtain ⟨blk, cap, h1, ⟨B, h2⟩, h3⟩ := h0
        exact ⟨blk, cap, h1, ⟨B, hbx b B h2 (has_mem hb)⟩, h3⟩
  · have := at_l_some (f := boxAt st) hB
    have hst : st (.l i) = .bx (some B) := by
      unfold boxAt at this
      split at this
      · rename_i b hb; rw [hb, this]
      · cases this
    exact H.lbox i B hst
  · rw [hfg] at hs; exact H.gbox _ hs
  · rw [hfg] at hs; exact H.gdom _ hs

/-- The order of a region's operations does not matter. -/
def DrawOK (P : Program) (C : CallF) (nt : Nat) (id : Nat) (ops : Array Oper) (is : List AI) : Prop :=
  ∀ (Q : Exit → Act → World → Prop) (G0 : Gh) (w0 : World) (ds : List Deferred) (out : Out) (k : Ex → St → R), KOK nt G0 w0 ds out k Q →
    ∀ (G : Gh) (st : St) (a : Act) (w : World), Rel G nt st a.tmps w → a.defers = ds → Fr G0 w0 G w → execsD C is st (k .normal) = some out → (Code.region id ops true).wp P Q a w

def Matches (P : Program) (C : CallF) (nt : Nat) : Code → ACode → Prop
  | .skip, .skip => True
  | .region id ops draw, .region is d => d = draw ∧ if draw = true then DrawOK P C nt id ops is
      else ops.toList.length = is.length ∧ ∀ (j : Nat) o i, ops.toList[j]? = some o → is[j]? = some i → AIOK P C nt ops o i
  | .seq a b, .seq a' b' => Matches P C nt a a' ∧ Matches P C nt b b'
  | .cond c a b, .cond c' a' b' => c = c' ∧ Matches P C nt a a' ∧ Matches P C nt b b'
  | .block id c, .block id' c' => id = id' ∧ Matches P C nt c c'
  | .loop c, .loop _ _ _ c' => Matches P C nt c c'
  | .exit id, .exit id' => id = id'
  | .ret, .ret => True
  | _, _ => False

theorem code_ok (N : Nat) : ∀ (c : Code) (ac : ACode), Matches P C nt c ac → ∀ (Q : Exit → Act → World → Prop) (G0 : Gh) (w0 : World) (ds : List Deferred) (out : Out) (k : Ex → St → R), KOK nt G0 w0 ds out k Q →
    ∀ (G : Gh) (st : St) (a : Act) (w : World), Rel G nt st a.tmps w → a.defers = ds → Fr G0 w0 G w → evalC C N ac st k = some out → c.wp P Q a w
  | .skip, .skip, _, Q, G0, w0, ds, out, k, hK, G, st, a, w, H, hd, F, h => wp_skip (hK.1 .normal st G a w h H hd F)
  | .region id ops draw, .region is d, hm, Q, G0, w0, ds, out, k, hK, G, st, a, w, H, hd, F, h => by
    simp only [Matches] at hm
    obtain ⟨hd', hm⟩ := hm
    subst hd'
    simp only [evalC] at h
    cases d with
    | true => rw [if_pos rfl] at hm; exact hm Q G0 w0 ds out k hK G st a w H hd F h
    | false =>
      rw [if_neg (by simp)] at hm
      obtain ⟨h1, h2⟩ := hm
      simp only [cond_false] at h
      refine wp_region ?_
      have := execs_ok (P := P) (ops := ops) hK ops.toList is 0 h1 (fun j => by simp) h2 G st a w H hd F h
      rwa [Array.length_toList, ← List.range_eq_range'] at this
  | .seq x y, .seq x' y', hm, Q, G0, w0, ds, out, k, hK, G, st, a, w, H, hd, F, h => by
    simp only [evalC] at h
    refine wp_seq (code_ok N x x' hm.1 (Exit.then (y.wp P Q) Q) G0 w0 ds out _ ⟨fun e st G a w h H hd F => ?_, fun v sg G st a u w he hv H hs hd F => hK.2 v sg G st a u w he hv H hs hd F⟩ G st a w H hd F h)
    cases e with
    | normal => exact code_ok N y y' hm.2 Q G0 w0 ds out k hK G st a w H hd F h
    | exit id => exact hK.1 (.exit id) st G a w h H hd F
    | ret => exact hK.1 .ret st G a w h H hd F
  | .cond x y z, .cond x' y' z', hm, Q, G0, w0, ds, out, k, hK, G, st, a, w, H, hd, F, h => by
    obtain ⟨rfl, h1, h2⟩ := hm
    simp only [evalC] at h
    obtain ⟨t, h3, h4⟩ := withB_some h
    have he := at_eq (rdA_rel H h3).1
    refine wp_cond he ?_
    cases t with
    | true => rw [if_pos rfl] at h4; exact code_ok N y y' h1 Q G0 w0 ds out k hK G st a w H hd F h4
    | false => rw [if_neg (by simp)] at h4; exact code_ok N z z' h2 Q G0 w0 ds out k hK G st a w H hd F h4
  | .block id x, .block id' x', hm, Q, G0, w0, ds, out, k, hK, G, st, a, w, H, hd, F, h => by
    obtain ⟨rfl, h1⟩ := hm
    simp only [evalC] at h
    refine wp_block (code_ok N x x' h1 (Exit.inBlock id Q) G0 w0 ds out _ ⟨fun e st G a w h H hd F => ?_, fun v sg G st a u w he hv H hs hd F => hK.2 v sg G st a u w he hv H hs hd F⟩ G st a w H hd F h)
    cases e with
    | normal => exact hK.1 .normal st G a w h H hd F
    | exit id' =>
      simp only [blockK] at h
      cases hb : Nat.beq id' id with
      | true =>
        have h9 : k .normal st = some out := by rw [hb] at h; exact h
        have hid := Nat.eq_of_beq_eq_true hb
        simp only [Exit.inBlock, hid, if_true]
        exact hK.1 .normal st G a w h9 H hd F
      | false =>
        rw [hb] at h
        have : id' ≠ id := by rintro rfl; simp at hb
        simp only [Exit.inBlock, this, if_false]
        exact hK.1 (.exit id') st G a w h H hd F
    | ret => exact hK.1 .ret st G a w h H hd F
  | .loop x, .loop live lo rs x', hm, Q, G0, w0, ds, out, k, hK, G, st, a, w, H, hd, F, h => by
    simp only [evalC] at h
    have key : ∀ n G st a w, Rel G nt st a.tmps w → a.defers = ds → Fr G0 w0 G w → iter (round (evalC C N x') live lo rs) n st k = some out → Code.rounds P x Q n a w := by
      intro n
      induction n with
      | zero => intro G st a w _ _ _ h; simp [iter] at h
      | succ n ih =>
        intro G st a w H hd F h
        simp only [iter, Go.Abs.round] at h
        rw [rounds_succ]
        refine code_ok N x x' hm (Exit.then (Code.rounds P x Q n) Q) G0 w0 ds out _ ⟨fun e st G a w h H hd F => ?_, fun v sg G st a u w he hv H hs hd F => hK.2 v sg G st a u w he hv H hs hd F⟩ G st a w H hd F h
        cases e with
        | normal => exact ih G _ a w (H.forget live) hd F h
        | exit id => exact hK.1 (.exit id) _ G a w h (H.forget lo) hd F
        | ret => exact hK.1 .ret _ G a w h (H.forget rs) hd F
    exact wp_loop_rounds N (key N G _ a w (H.forget live) hd F h)
  | .exit id, .exit id', hm, Q, G0, w0, ds, out, k, hK, G, st, a, w, H, hd, F, h => by
    obtain rfl := hm
    exact wp_exit (hK.1 (.exit id) st G a w h H hd F)
  | .ret, .ret, _, Q, G0, w0, ds, out, k, hK, G, st, a, w, H, hd, F, h => wp_ret (hK.1 .ret st G a w h H hd F)
end
end Go.Abs
