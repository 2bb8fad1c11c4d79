/- THE ENGINE, part 19: regions and code. -/
import Derived.Test.YtafmbianlodemaaSnd15
namespace Go.Abs
set_option linter.unusedSectionVars false
set_option linter.unusedVariables false
set_option linter.unusedSimpArgs false
section
variable {P : Program} {C : CallF} {nt : Nat}

/-- What is wanted behind code, of the evaluation's continuation. -/
def KOK (nt : Nat) (G0 : Gh) (w0 : World) (ds : List Deferred) (out : Out) (k : Ex → St → R) (Q : Exit → Act → World → Prop) : Prop :=
  (∀ e st G a w, k e st = some out → Rel G nt st a.tmps w → a.defers = ds → Fr G0 w0 G w →
    Q (match e with | .normal => .normal | .exit id => .exit id | .ret => .ret) a w) ∧
  (∀ v sg G st a u w, out = .pan v sg → VR G.Z G.ι v u → Rel G nt st a.tmps w → st .g = .sg sg → a.defers = ds → Fr G0 w0 G w → Q (.panic [{ v := u, recovered := false }]) a w)

/-- The instructions of a region are its operations'. -/
structure AIOK (P : Program) (C : CallF) (nt : Nat) (ops : Array Oper) (o : Oper) (i : AI) : Prop where
  dst : i.dst = o.dst
  lt : ∀ x, o.dst = some x → x < nt
  ok : OpOK P C nt o i.op
  g : match o.guard with
    | none => i.g = none
    | some (j, b) => ∃ t, (ops[j]?).bind (·.dst) = some t ∧ i.g = some (t, b)

theorem upd_getself (st : St) (r : Res) : upd st r (st r) = st := by
  funext q; unfold upd
  cases h : q.is r with
  | true => rw [Res.is_iff.1 h]; rfl
  | false => rfl

theorem skipped {G : Gh} {st : St} {w : World} {i : Nat} : SlotR G st w i (.v (.tup []) false) undef :=
  ⟨.inr (.tup (by rfl) (fun i a v h => by simp at h)), by simp⟩

/-- One operation of a region. -/
theorem exec_ok {ops : Array Oper} {o : Oper} {i : AI} (hi : AIOK P C nt ops o i) {G : Gh} {st : St} {a : Act} {w : World} (H : Rel G nt st a.tmps w) {out : Out} {k : St → R} (h : exec C i st k = some out)
    {next : Act → World → Prop} {Q : Exit → Act → World → Prop}
    (hn : ∀ st' G' a' w', k st' = some out → Rel G' nt st' a'.tmps w' → a'.defers = a.defers → Fr G w G' w' → next a' w')
    (hp : ∀ v sg G' st' u w', out = .pan v sg → VR G'.Z G'.ι v u → Rel G' nt st' a.tmps w' → st' .g = .sg sg → Fr G w G' w' → Q (.panic [{ v := u, recovered := false }]) a w') :
    (Region.wanted o (yielded ops a.tmps) = true → o.wp P a w next Q) ∧ (Region.wanted o (yielded ops a.tmps) = false → next (a.put o.dst undef) w) := by
  obtain ⟨hdst, hlt, hok, hg⟩ := hi
  have run : ∀ st1 : St, Rel G nt st1 a.tmps w → sem C i.dst i.op st1 (after st1 k) = some out → o.wp P a w next Q := by
    intro st1 H1 h1
    rw [hdst] at h1
    refine hok G st1 a w H1 out (after st1 k) h1 next Q (fun us G' a' w' hc R' hd' F' => hn _ G' a' w' hc R' hd' F') (fun v sg G' u w' hc hv R' F' => ?_)
    simp only [after, Option.some.injEq] at hc
    exact hp v sg G' _ u w' hc.symm hv R' (upd_self _ _ _) F'
  unfold exec at h
  cases hgo : o.guard with
  | none =>
    rw [hgo] at hg
    simp only at hg
    rw [hg] at h
    refine ⟨fun _ => run st H h, fun hw => ?_⟩
    simp [Region.wanted, hgo] at hw
  | some jb =>
    obtain ⟨j, b⟩ := jb
    rw [hgo] at hg
    obtain ⟨t, ht, hig⟩ := hg
    rw [hig] at h
    simp only at h
    split at h
    · rename_i c f hs
      have hsl : SlotR G st w t (.v (.at (.bool c)) f) (a.tmps.getD t undef) := by
        unfold rdT at hs
        split at hs
        · rename_i s' h'; rw [← hs]; exact H.slots t s' h'
        · cases hs
      have hst : st (.s t) = .sv (.v (.at (.bool c)) f) := by
        unfold rdT at hs
        split at hs
        · rename_i s' h'; rw [h', hs]
        · cases hs
      have hval : a.tmps.getD t undef = .bool c := at_eq (hsl.1.resolve_left (by simp))
      have hy : yielded ops a.tmps j = some c := by
        unfold yielded
        rw [ht]
        simp only [Option.bind_some]
        have : a.tmps[t]? = some (.bool c) := by
          rw [Array.getD_eq_getD_getElem?] at hval
          cases hq : a.tmps[t]? with
          | none => rw [hq] at hval; simp [undef] at hval
          | some v => rw [hq] at hval; simp at hval; rw [hval]
        rw [this]
      have hwant : Region.wanted o (yielded ops a.tmps) = (c == b) := by
        simp only [Region.wanted, hgo, hy]
        cases c <;> cases b <;> rfl
      have learn : ∀ x : Bool, c = x → upd st (.s t) (.sv (.v (.at (.bool x)) f)) = st := by
        rintro x rfl; rw [← hst]; exact upd_getself _ _
      split at h
      · rename_i hcb
        rw [learn b hcb] at h
        refine ⟨fun _ => run st H h, fun hw => ?_⟩
        rw [hwant] at hw; subst hcb; simp at hw
      · rename_i hcb
        have hnb : c = !b := by cases c <;> cases b <;> simp_all
        rw [learn (!b) hnb] at h
        refine ⟨fun hw => ?_, fun _ => ?_⟩
        · rw [hwant] at hw; exact absurd (by simpa using hw) hcb
        · rw [hdst] at h
          exact hn _ G _ w h (H.dst hlt fun _ _ => skipped) (put_defers _ _ _) (Fr.refl _ _)
    · rename_i f hs
      have hsl : SlotR G st w t (.v (.tup []) f) (a.tmps.getD t undef) := by
        unfold rdT at hs
        split at hs
        · rename_i s' h'; rw [← hs]; exact H.slots t s' h'
        · cases hs
      have hval : a.tmps.getD t undef = .tuple #[] := by
        have := hsl.1.resolve_left (by simp)
        generalize a.tmps.getD t undef = v at this
        cases this with
        | @tup _ arr hl _ =>
          have : arr = #[] := by
            apply Array.eq_empty_of_size_eq_zero; simpa using hl.symm
          rw [this]
      have hy : yielded ops a.tmps j = none := by
        unfold yielded
        rw [ht]
        simp only [Option.bind_some]
        rw [Array.getD_eq_getD_getElem?] at hval
        cases hq : a.tmps[t]? with
        | none => rfl
        | some v => rw [hq] at hval; simp at hval; rw [hval]
      refine ⟨fun hw => ?_, fun _ => ?_⟩
      · simp [Region.wanted, hgo, hy] at hw
      · rw [hdst] at h
        exact hn _ G _ w h (H.dst hlt fun _ _ => skipped) (put_defers _ _ _) (Fr.refl _ _)
    · cases h

/-- Operations in the order of the text. -/
theorem execs_ok {ops : Array Oper} {Q : Exit → Act → World → Prop} {G0 : Gh} {w0 : World} {ds : List Deferred} {out : Out} {k : Ex → St → R} (hK : KOK nt G0 w0 ds out k Q) : ∀ (l : List Oper) (is : List AI) (m : Nat),
    l.length = is.length → (∀ j, l[j]? = ops[m + j]?) → (∀ (j : Nat) o i, l[j]? = some o → is[j]? = some i → AIOK P C nt ops o i) →
    ∀ (G : Gh) (st : St) (a : Act) (w : World), Rel G nt st a.tmps w → a.defers = ds → Fr G0 w0 G w → execs C is st (k .normal) = some out → wpOps P ops Q (List.range' m l.length) a w
  | [], is, m, hl, _, _, G, st, a, w, H, hd, F, h => by
    cases is with
    | cons => simp at hl
    | nil => exact hK.1 .normal st G a w h H hd F
  | o :: l, is, m, hl, ho, hai, G, st, a, w, H, hd, F, h => by
    cases is with
    | nil => simp at hl
    | cons i is =>
      simp only [execs] at h
      have h0 : ops[m]? = some o := by have := ho 0; simpa using this.symm
      simp only [List.length_cons, List.range'_succ, wpOps, h0]
      obtain ⟨e1, e2⟩ := exec_ok (hai 0 o i rfl rfl) H h (next := wpOps P ops Q (List.range' (m + 1) l.length)) (Q := Q)
        (fun st' G' a' w' hk R' hd' F' => execs_ok hK l is (m + 1) (by simpa using hl) (fun j => by have := ho (j + 1); simpa [Nat.add_assoc, Nat.add_comm 1 j] using this)
          (fun j o i h1 h2 => hai (j + 1) o i (by simpa using h1) (by simpa using h2)) G' st' a' w' R' (hd'.trans hd) (F.trans F') hk)
        (fun v sg G' st' u w' hq hv R' hs F' => hK.2 v sg G' st' a u w' hq hv R' hs hd (F.trans F'))
      cases hw : Region.wanted o (yielded ops a.tmps) with
      | true => rw [if_pos rfl]; exact .inl (e1 hw)
      | false => rw [if_neg (by simp)]; exact e2 hw
end
end Go.Abs
