/- THE ENGINE, part 4: what holds a state and a world together, step by step. -/
import Derived.Test.YtafmbianlodemaaRel
import Derived.Laws.Sem
import Derived.Laws.Cells
namespace Go.Abs
set_option linter.unusedSectionVars false
set_option linter.unusedVariables false
set_option linter.unusedSimpArgs false

variable {P : Program} {G : Gh} {nt : Nat} {st : St} {w : World}

theorem wp_val {o : Oper} {a : Act} {w w' : World} {next : Act → World → Prop} {Q : Exit → Act → World → Prop} {v : Value}
    (h : (execOp a.eval o).run P w = .ok (.value v) w') (hn : next (a.put o.dst v) w') : o.wp P a w next Q := by
  unfold Oper.wp; rw [h]; exact hn
theorem wp_skipO {o : Oper} {a : Act} {w w' : World} {next : Act → World → Prop} {Q : Exit → Act → World → Prop}
    (h : (execOp a.eval o).run P w = .ok .skip w') (hn : next (a.put o.dst undef) w') : o.wp P a w next Q := by
  unfold Oper.wp; rw [h]; exact hn

/-! ### reading -/
/-- A slot's value, without its rights. -/
def OpR (G : Gh) (st : St) (s : Slot) (v : Value) : Prop := match s with
  | .v a _ => a = .junk ∨ VR G.Z G.ι a v
  | .lp b off => ∃ blk, G.lm b = some blk ∧ (∃ B, st (.l b) = .bx (some B)) ∧ v = .pointer (some ⟨blk, off, none⟩)
  | .ls b off len => ∃ blk cap, G.lm b = some blk ∧ (∃ B, st (.l b) = .bx (some B)) ∧ v = .slice (some ⟨blk, off, none⟩) len cap ∧ len ≤ cap

theorem SlotR.op {i : Nat} {s : Slot} {v : Value} (h : SlotR G st w i s v) : OpR G st s v := by
  cases s with
  | v a f => exact h.1
  | lp b off => exact h
  | ls b off len => exact h

theorem rdT_rel {tm : Array Value} (R : Rel G nt st tm w) (t : Nat) : OpR G st (rdT st t) (tm.getD t undef) := by
  unfold rdT
  cases h : st (.s t) with
  | sv s => exact (R.slots t s h).op
  | no => exact .inl rfl
  | bx b => exact .inl rfl
  | sg s => exact .inl rfl

theorem ofConst_rel {Z : Fz} {ι : Iot} (v : Value) : ofConst v = .junk ∨ VR Z ι (ofConst v) v := by
  unfold ofConst
  split
  · exact .inr .nil
  · exact .inl rfl
  · exact .inl rfl
  · rename_i h1 h2 h3
    refine .inr (.at ?_)
    cases v <;> first | rfl | exact absurd rfl (h2 _) | exact absurd rfl (h3 _)

theorem rdO_rel {a : Act} (R : Rel G nt st a.tmps w) (x : Operand) : OpR G st (rdO st x) (a.eval x) := by
  cases x with
  | tmp t => exact rdT_rel R t
  | const v => exact ofConst_rel v
  | global g => exact .inl rfl
  | func f => exact .inr (.clo (by simp) (by simp) (by simp) (by simp) (by simp))

theorem rdA_rel {a : Act} (R : Rel G nt st a.tmps w) {x : Operand} {v : AVal} (h : rdA st x = some v) : VR G.Z G.ι v (a.eval x) ∧ (∀ vs, v ≠ .tup vs) := by
  have hr := rdO_rel R x
  unfold rdA at h
  cases hs : rdO st x with
  | v b f =>
    rw [hs] at h hr
    rcases hr with rfl | hr
    · simp [plainA] at h
    · cases b <;> simp [plainA] at h <;> subst h <;> exact ⟨hr, by simp⟩
  | lp => rw [hs] at h; simp at h
  | ls => rw [hs] at h; simp at h

theorem args_rel {a : Act} (R : Rel G nt st a.tmps w) : ∀ {xs : List Operand} {as : List AVal}, args? st xs = some as →
    as.length = xs.length ∧ ∀ (i : Nat) v, as[i]? = some v → ∃ x, xs[i]? = some x ∧ VR G.Z G.ι v (a.eval x) ∧ ∀ vs, v ≠ .tup vs
  | [], as, h => by simp [args?] at h; subst h; simp
  | x :: xs, as, h => by
    simp only [args?] at h
    cases h1 : rdA st x with
    | none => simp [h1] at h
    | some v =>
      cases h2 : args? st xs with
      | none => simp [h1, h2] at h
      | some vs =>
        simp [h1, h2] at h
        subst h
        obtain ⟨hl, hi⟩ := args_rel R h2
        refine ⟨by simp [hl], fun i u hu => ?_⟩
        cases i with
        | zero => simp at hu; subst hu; exact ⟨x, rfl, rdA_rel R h1⟩
        | succ i => simp at hu; simpa using hi i u hu

/-! ### the reading wrappers -/
section
variable {α : Type} {out : α}
theorem withA_some {a : Option AVal} {c : AVal → Option α} (h : withA a c = some out) : ∃ v, a = some v ∧ c v = some out := by
  unfold withA at h; split at h
  · exact ⟨_, rfl, h⟩
  · cases h
theorem withN_some {a : Option AVal} {c : Int → Option α} (h : withN a c = some out) : ∃ k n, a = some (.at (.int k n)) ∧ c n = some out := by
  unfold withN at h; split at h
  · exact ⟨_, _, rfl, h⟩
  · cases h
theorem kEq_iff {a b : IntKind} : kEq a b = true ↔ a = b := by cases a <;> cases b <;> simp [kEq]
theorem withI_some {k : IntKind} {a : Option AVal} {c : Int → Option α} (h : withI k a c = some out) : ∃ n, a = some (.at (.int k n)) ∧ c n = some out := by
  unfold withI at h; split at h
  · rename_i k' n
    cases hk : kEq k' k with
    | true => rw [hk] at h; rw [kEq_iff.1 hk]; exact ⟨n, rfl, h⟩
    | false => rw [hk] at h; cases h
  · cases h
theorem withB_some {a : Option AVal} {c : Bool → Option α} (h : withB a c = some out) : ∃ b, a = some (.at (.bool b)) ∧ c b = some out := by
  unfold withB at h; split at h
  · exact ⟨_, rfl, h⟩
  · cases h
theorem withS_some {a : Option AVal} {c : ByteArray → Option α} (h : withS a c = some out) : ∃ b, a = some (.at (.string b)) ∧ c b = some out := by
  unfold withS at h; split at h
  · exact ⟨_, rfl, h⟩
  · cases h
theorem withL_some {sz : Nat} {a : Option AVal} {c : Bool → List AVal → Option α} (h : withL sz a c = some out) : ∃ nn l, a = some (.sl nn sz l) ∧ c nn l = some out := by
  unfold withL at h; split at h
  · rename_i nn sz' l
    cases hk : Nat.beq sz' sz with
    | true => rw [hk] at h; rw [Nat.eq_of_beq_eq_true hk]; exact ⟨nn, l, rfl, h⟩
    | false => rw [hk] at h; cases h
  · cases h
theorem withG_some {a : Option AVal} {c : List AVal → Option α} (h : withG a c = some out) : ∃ v, a = some (.agg v) ∧ c v = some out := by
  unfold withG at h; split at h
  · exact ⟨_, rfl, h⟩
  · cases h
theorem withK_some {k : CK} {a : Option AVal} {c : AVal → Option α} (h : withK k a c = some out) : ∃ v, a = some v ∧ c v = some out := by
  cases k with
  | int k => obtain ⟨n, h1, h2⟩ := withI_some h; exact ⟨_, h1, h2⟩
  | bool => obtain ⟨n, h1, h2⟩ := withB_some h; exact ⟨_, h1, h2⟩
  | str => obtain ⟨n, h1, h2⟩ := withS_some h; exact ⟨_, h1, h2⟩
  | sl => obtain ⟨n, l, h1, h2⟩ := withL_some h; exact ⟨_, h1, h2⟩
  | any => exact withA_some h
  | ag => obtain ⟨n, h1, h2⟩ := withG_some h; exact ⟨_, h1, h2⟩
theorem withO_some {β : Type} {a : Option β} {c : β → Option α} (h : withO a c = some out) : ∃ v, a = some v ∧ c v = some out := by
  unfold withO at h; split at h
  · exact ⟨_, rfl, h⟩
  · cases h
theorem bif_some {b : Bool} {c : Option α} (h : (bif b then c else none) = some out) : b = true ∧ c = some out := by
  cases b
  · cases h
  · exact ⟨rfl, h⟩
theorem if_some {p : Prop} [Decidable p] {c : Option α} (h : (if p then c else none) = some out) : p ∧ c = some out := by
  split at h
  · exact ⟨‹_›, h⟩
  · cases h
theorem withKs_some : ∀ {ks : List CK} {cs : List AVal} {off : Nat} {c : List AVal → Option α}, withKs ks cs off c = some out →
    ∃ as, as.length = ks.length ∧ (∀ j, j < ks.length → as[j]? = cs[off + j]?) ∧ c as = some out
  | [], cs, off, c, h => ⟨[], rfl, by simp, h⟩
  | k :: ks, cs, off, c, h => by
    unfold withKs at h
    obtain ⟨v, h1, h2⟩ := withK_some h
    obtain ⟨as, h3, h4, h5⟩ := withKs_some h2
    refine ⟨v :: as, by simp [h3], fun j hj => ?_, h5⟩
    cases j with
    | zero => simp [h1]
    | succ j => simpa [Nat.add_assoc, Nat.add_comm 1 j] using h4 j (by simpa using hj)

/-- A value read out of cells. -/
theorem withV_some {ks : List CK} {agg : Bool} {cs : List AVal} {off : Nat} {c : AVal → Option α} (h : withV ks agg cs off c = some out) :
    (agg = true ∧ off + ks.length ≤ cs.length ∧ c (.agg ((cs.drop off).take ks.length)) = some out) ∨ (agg = false ∧ ks.length = 1 ∧ ∃ v, cs[off]? = some v ∧ c v = some out) := by
  unfold withV at h
  split at h
  · obtain ⟨h1, h2⟩ := bif_some h
    exact .inl ⟨rfl, Nat.le_of_ble_eq_true h1, h2⟩
  · obtain ⟨v, h1, h2⟩ := withK_some h
    exact .inr ⟨rfl, rfl, v, h1, h2⟩
  · cases h
end

/-! ### writing a slot -/
theorem upd_self (st : St) (r : Res) (x : RVal) : upd st r x r = x := by
  unfold upd; rw [Res.is_iff.2 rfl]; rfl
theorem upd_ne (st : St) {r q : Res} (x : RVal) (h : q ≠ r) : upd st r x q = st q := by
  unfold upd
  cases hq : q.is r with
  | true => exact absurd (Res.is_iff.1 hq) h
  | false => rfl

theorem SlotR.congr {st st' : St} {i : Nat} {s : Slot} {v : Value} (hl : ∀ b B, st (.l b) = .bx (some B) → ∃ B', st' (.l b) = .bx (some B')) (h : SlotR G st w i s v) : SlotR G st' w i s v := by
  cases s with
  | v a f => exact h
  | lp b off => obtain ⟨blk, h1, ⟨B, h2⟩, h3⟩ := h; exact ⟨blk, h1, hl b B h2, h3⟩
  | ls b off len => obtain ⟨blk, cap, h1, ⟨B, h2⟩, h3⟩ := h; exact ⟨blk, cap, h1, hl b B h2, h3⟩

theorem getD_set (tm : Array Value) (d i : Nat) (v : Value) (hd : d < tm.size) : (tm.setIfInBounds d v).getD i undef = if i = d then v else tm.getD i undef := by
  simp only [Array.getD_eq_getD_getElem?, Array.getElem?_setIfInBounds]
  by_cases h : d = i
  · subst h; simp [hd]
  · have : ¬ i = d := fun e => h e.symm
    simp [h, this]

/-- A slot gets a value. -/
theorem Rel.setSlot {tm : Array Value} (R : Rel G nt st tm w) (d : Nat) (s : Slot) (v : Value) (hd : d < nt) (hs : SlotR G st w d s v) :
    Rel G nt (upd st (.s d) (.sv s)) (tm.setIfInBounds d v) w := by
  have hl : ∀ b, upd st (.s d) (.sv s) (.l b) = st (.l b) := fun b => upd_ne _ _ (by simp)
  have hg : upd st (.s d) (.sv s) .g = st .g := upd_ne _ _ (by simp)
  refine ⟨by simp [R.size], fun i s' hi => ?_, fun b B h => R.lbox b B (by rwa [hl] at h), fun sg h => R.gbox sg (by rwa [hg] at h), fun sg h => R.gdom sg (by rwa [hg] at h), R.frz, R.ownlt⟩
  rw [getD_set _ _ _ _ (by rw [R.size]; exact hd)]
  by_cases h : i = d
  · subst h
    rw [upd_self] at hi
    cases hi
    rw [if_pos rfl]
    exact hs.congr fun b B hB => ⟨B, by rw [hl]; exact hB⟩
  · rw [if_neg h]
    rw [upd_ne _ _ (by simpa using h)] at hi
    exact (R.slots i s' hi).congr fun b B hB => ⟨B, by rw [hl]; exact hB⟩

/-- Nothing is said of a slot. -/
theorem Rel.setJunk {tm : Array Value} (R : Rel G nt st tm w) (d : Nat) (v : Value) (hd : d < nt) :
    Rel G nt (upd st (.s d) (.sv (.v .junk false))) (tm.setIfInBounds d v) w := R.setSlot d _ v hd ⟨.inl rfl, by simp⟩

/-- An operation's result goes to its slot. -/
theorem Rel.dst {a : Act} (R : Rel G nt st a.tmps w) {d : Option Nat} (hd : ∀ x, d = some x → x < nt) {s : Slot} {v : Value} (hs : ∀ x, d = some x → SlotR G st w x s v) :
    Rel G nt (upds st (dstU d s)) (a.put d v).tmps w := by
  cases d with
  | none => exact R
  | some d => exact R.setSlot d s v (hd d rfl) (hs d rfl)

theorem put_defers (a : Act) (d : Option Nat) (v : Value) : (a.put d v).defers = a.defers := by cases d <;> rfl

theorem slotV {i : Nat} {a : AVal} {v : Value} (h : VR G.Z G.ι a v) : SlotR G st w i (.v a false) v := ⟨.inr h, by simp⟩
theorem OpR.slot {i : Nat} {s : Slot} {v : Value} (h : OpR G st s v) : SlotR G st w i (unflag s) v := by
  cases s with
  | v a f => exact ⟨h, by simp⟩
  | lp b off => exact h
  | ls b off len => exact h

/-! ### a world that has more blocks -/
theorem cell_lt {w : World} {a : Addr} {v : Value} (h : w.cell? a = some v) : a.block < w.heap.size := by
  unfold World.cell? at h
  split at h
  · rename_i c _ _ hc
    exact (Array.getElem?_eq_some_iff.1 hc).1
  · cases h
theorem cell_same {w w' : World} {a : Addr} (h : w'.heap[a.block]? = w.heap[a.block]?) : w'.cell? a = w.cell? a := by
  unfold World.cell?; rw [h]

theorem Free.world {Z : Fz} {w w' : World} {b e m : Nat} (h : Free Z w b e m) (hb : w'.heap[b]? = w.heap[b]?) : Free Z w' b e m := by
  obtain ⟨arr, T, fr, h1, h2⟩ := h
  exact ⟨arr, T, fr, hb.trans h1, h2⟩
theorem Claim.world {G : Gh} {w w' : World} {o : Owner} {sz : Nat} {v : Value} (h : Claim G w o sz v) (hb : ∀ b, G.own b = some o → w'.heap[b]? = w.heap[b]?) : Claim G w' o sz v := by
  rcases h with h | ⟨b, off, n, cap, h1, h2, h3⟩
  · exact .inl h
  · exact .inr ⟨b, off, n, cap, h1, h2, h3.world (hb b h2)⟩
theorem BoxR.world {G : Gh} {w w' : World} {B : Box} {b : Nat} (h : BoxR G w B b) (hb : w'.heap[b]? = w.heap[b]?) : BoxR G w' B b := by
  obtain ⟨arr, T, fr, h1, h2⟩ := h
  exact ⟨arr, T, fr, hb.trans h1, h2⟩
theorem SlotR.world {G : Gh} {st : St} {w w' : World} {i : Nat} {s : Slot} {v : Value} (h : SlotR G st w i s v) (hb : ∀ b, G.own b = some (.slot i) → w'.heap[b]? = w.heap[b]?) : SlotR G st w' i s v := by
  cases s with
  | v a f => exact ⟨h.1, fun hf => by obtain ⟨nn, sz, l, h1, h2⟩ := h.2 hf; exact ⟨nn, sz, l, h1, h2.world hb⟩⟩
  | lp b off => exact h
  | ls b off len => exact h

/-- Blocks that were there are as they were. -/
theorem Rel.grow {tm : Array Value} (R : Rel G nt st tm w) {w' : World} (hs : w.heap.size ≤ w'.heap.size) (hb : ∀ b, b < w.heap.size → w'.heap[b]? = w.heap[b]?) : Rel G nt st tm w' := by
  have ho : ∀ b o, G.own b = some o → w'.heap[b]? = w.heap[b]? := fun b o h => hb b (R.ownlt b o h)
  refine ⟨R.size, fun i s h => (R.slots i s h).world fun b hb => ho b _ hb, fun s B h => ?_, fun sg h g B hg hne => ?_, R.gdom, fun a v h => ?_, fun b o h => Nat.lt_of_lt_of_le (R.ownlt b o h) hs⟩
  · obtain ⟨b, h1, h2, h3⟩ := R.lbox s B h; exact ⟨b, h1, h2, h3.world (ho b _ h2)⟩
  · obtain ⟨b, h1, h2, h3, h4⟩ := R.gbox sg h g B hg hne; exact ⟨b, h1, h2, h3.world (ho b.1 _ h2), h4.same (ho b.1 _ h2)⟩
  · obtain ⟨h1, h2, h3⟩ := R.frz a v h
    exact ⟨(cell_same (hb _ (cell_lt h1))).trans h1, h2, h3⟩

theorem Fr.grow {G : Gh} {w w' : World} (h1 : w'.os = w.os) (h2 : w'.tape = w.tape) (h3 : w'.output = w.output) (hs : w.heap.size ≤ w'.heap.size) (hb : ∀ b, b < w.heap.size → w'.heap[b]? = w.heap[b]?) : Fr G w G w' :=
  ⟨h1, h2, h3, hs, fun _ _ h => h, fun _ _ h => h, fun b h ho => ⟨hb b h, ho, fun _ _ => rfl⟩⟩
end Go.Abs
