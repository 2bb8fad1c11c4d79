/- THE ENGINE, part 3: what an abstract state says of a world. -/
import Derived.Test.YtafmbianlodemaaCore
namespace Go.Abs
set_option linter.unusedSimpArgs false
set_option linter.unusedSectionVars false
set_option linter.unusedVariables false

abbrev Fz := Addr → Option Value
/-- Where a box of the common store lies, and how many cells are there. -/
abbrev Iot := Nat → Option (Nat × Nat)

inductive VR (Z : Fz) (ι : Iot) : AVal → Value → Prop
  | at {v : Value} (h : one v = true) : VR Z ι (.at v) v
  | agg {cs : List AVal} {arr : Array Value} (hl : cs.length = arr.size)
      (h : ∀ (i : Nat) a v, cs[i]? = some a → arr[i]? = some v → VR Z ι a v) (h1 : ∀ (i : Nat) (v : Value), arr[i]? = some v → one v = true) : VR Z ι (.agg cs) (.agg arr)
  | tup {vs : List AVal} {arr : Array Value} (hl : vs.length = arr.size) (h : ∀ (i : Nat) a v, vs[i]? = some a → arr[i]? = some v → VR Z ι a v) : VR Z ι (.tup vs) (.tuple arr)
  | nil {sz : Nat} : VR Z ι (.sl true sz []) (.slice none 0 0)
  | sl {sz : Nat} {l : List AVal} {b off cap n : Nat} (vals : Nat → Value) (hn : n = l.length) (hcap : n ≤ cap) (hsz : ∀ a ∈ l, a.cells.length = sz)
      (hz : ∀ j, j < n * sz → Z ⟨b, off + j, none⟩ = some (vals j))
      (h : ∀ (i j : Nat) a c, l[i]? = some a → a.cells[j]? = some c → VR Z ι c (vals (i * sz + j)))
      (hagg : ∀ a ∈ l, (∃ cs, a = .agg cs) ∨ (a.cells = [a] ∧ ∀ vs, a ≠ .tup vs)) : VR Z ι (.sl false sz l) (.slice (some ⟨b, off, none⟩) n cap)
  | ep {cs : List AVal} {b off : Nat} (vals : Nat → Value) (hz : ∀ j, j < cs.length → Z ⟨b, off + j, none⟩ = some (vals j))
      (h : ∀ (j : Nat) c, cs[j]? = some c → VR Z ι c (vals j)) : VR Z ι (.ep cs) (.pointer (some ⟨b, off, none⟩))
  | gp {g off : Nat} {b : Nat × Nat} (h : ι g = some b) : VR Z ι (.gp g off) (.pointer (some ⟨b.1, off, none⟩))
  | gs {g sz off len cap : Nat} {b : Nat × Nat} (h : ι g = some b) (hc : len ≤ cap) (hr : off + cap * sz ≤ b.2) : VR Z ι (.gs g sz off len) (.slice (some ⟨b.1, off, none⟩) len cap)
  | clo {f : FuncId} {first cap : List AVal} {vf vc : Array Value} (hl : first.length = vf.size) (h : ∀ (i : Nat) a v, first[i]? = some a → vf[i]? = some v → VR Z ι a v)
      (hl2 : cap.length = vc.size) (h2 : ∀ (i : Nat) a v, cap[i]? = some a → vc[i]? = some v → VR Z ι a v) (ht : ∀ a ∈ first ++ cap, ∀ vs, a ≠ .tup vs) : VR Z ι (.clo f first cap) (.func (.func f) vf vc)
  | ifc {t : TypeId} {a : AVal} {v : Value} (h : VR Z ι a v) : VR Z ι (.ifc t a) (.iface t v)

theorem VR.mono {Z Z' : Fz} {ι ι' : Iot} (hZ : ∀ a v, Z a = some v → Z' a = some v) (hι : ∀ g b, ι g = some b → ι' g = some b) {a : AVal} {v : Value} (h : VR Z ι a v) : VR Z' ι' a v := by
  induction h with
  | «at» h => exact .at h
  | agg hl _ h1 ih => exact .agg hl ih h1
  | tup hl _ ih => exact .tup hl ih
  | nil => exact .nil
  | sl vals hn hcap hsz hz _ hagg ih => exact .sl vals hn hcap hsz (fun j hj => hZ _ _ (hz j hj)) ih hagg
  | ep vals hz _ ih => exact .ep vals (fun j hj => hZ _ _ (hz j hj)) ih
  | gp h => exact .gp (hι _ _ h)
  | gs h hc hr => exact .gs (hι _ _ h) hc hr
  | clo hl _ hl2 _ ht ih ih2 => exact .clo hl ih hl2 ih2 ht
  | ifc _ ih => exact .ifc ih

/-- What is no tuple lies in memory as its cells. -/
theorem VR.cells {Z : Fz} {ι : Iot} {a : AVal} {v : Value} (h : VR Z ι a v) (ht : ∀ vs, a ≠ .tup vs) :
    v.cells.size = a.cells.length ∧ ∀ (j : Nat) c, a.cells[j]? = some c → ∃ u, v.cells[j]? = some u ∧ VR Z ι c u ∧ one u = true := by
  have single : ∀ {a : AVal} {v : Value}, VR Z ι a v → a.cells = [a] → v.cells = #[v] → one v = true →
      v.cells.size = a.cells.length ∧ ∀ (j : Nat) c, a.cells[j]? = some c → ∃ u, v.cells[j]? = some u ∧ VR Z ι c u ∧ one u = true := by
    intro a v h ha hv h1
    refine ⟨by simp [ha, hv], fun j c hc => ?_⟩
    rw [ha] at hc
    cases j with
    | zero => simp at hc; subst hc; exact ⟨v, by simp [hv], h, h1⟩
    | succ j => simp at hc
  cases h with
  | «at» h =>
    exact single (.at h) rfl (by cases v <;> first | rfl | simp [one] at h) h
  | agg hl h h1 =>
    refine ⟨by simp [Value.cells, AVal.cells, hl], fun j c hc => ?_⟩
    have hj : j < _ := (List.getElem?_eq_some_iff.1 hc).1
    simp only [AVal.cells] at hj hc
    rw [hl] at hj
    refine ⟨_, Array.getElem?_eq_getElem hj, h j _ _ hc (Array.getElem?_eq_getElem hj), h1 j _ (Array.getElem?_eq_getElem hj)⟩
  | tup => exact absurd rfl (ht _)
  | nil => exact single .nil rfl rfl rfl
  | sl vals hn hcap hsz hz h hagg => exact single (.sl vals hn hcap hsz hz h hagg) rfl rfl rfl
  | ep vals hz h => exact single (.ep vals hz h) rfl rfl rfl
  | gp h => exact single (.gp h) rfl rfl rfl
  | gs h hc hr => exact single (.gs h hc hr) rfl rfl rfl
  | clo hl h hl2 h2 htt => exact single (.clo hl h hl2 h2 htt) rfl rfl rfl
  | ifc h => exact single (.ifc h) rfl rfl rfl

inductive Owner where
  | slot (i : Nat)
  | lbox (s : Nat)
  | gbox (g : Nat)
  deriving DecidableEq

structure Gh where
  Z : Fz
  ι : Iot
  lm : Nat → Option Nat
  own : Nat → Option Owner

/-- The cells of a block from e on are nobody's; up to m they are there, and may be written. -/
def Free (Z : Fz) (w : World) (b e m : Nat) : Prop :=
  ∃ arr T fr, w.heap[b]? = some (.cells arr T fr) ∧ m ≤ arr.size ∧ (∀ j, e ≤ j → Z ⟨b, j, none⟩ = none) ∧ (∀ j, e ≤ j → j < m → ¬ (fr.1 ≤ j ∧ j < fr.2))

def Claim (G : Gh) (w : World) (o : Owner) (sz : Nat) (v : Value) : Prop :=
  v = .slice none 0 0 ∨ ∃ b off n cap, v = .slice (some ⟨b, off, none⟩) n cap ∧ G.own b = some o ∧ Free G.Z w b (off + n * sz) (off + cap * sz)

def BoxR (G : Gh) (w : World) (B : Box) (b : Nat) : Prop :=
  ∃ arr T fr, w.heap[b]? = some (.cells arr T fr) ∧ B.cells.length ≤ arr.size ∧ (∀ j, j < arr.size → ¬ (fr.1 ≤ j ∧ j < fr.2)) ∧
    ∀ (j : Nat) c, B.cells[j]? = some c → ∃ u, arr[j]? = some u ∧ VR G.Z G.ι c u ∧ one u = true

def Room (w : World) (p : Nat × Nat) : Prop := ∃ arr T fr, w.heap[p.1]? = some (.cells arr T fr) ∧ arr.size = p.2
theorem Room.same {w w' : World} {p : Nat × Nat} (h : Room w p) (e : w'.heap[p.1]? = w.heap[p.1]?) : Room w' p := by
  obtain ⟨arr, T, fr, h1, h2⟩ := h
  exact ⟨arr, T, fr, e.trans h1, h2⟩

def SlotR (G : Gh) (st : St) (w : World) (i : Nat) (s : Slot) (v : Value) : Prop := match s with
  | .v a f => (a = .junk ∨ VR G.Z G.ι a v) ∧ (f = true → ∃ nn sz l, a = .sl nn sz l ∧ Claim G w (.slot i) sz v)
  | .lp b off => ∃ blk, G.lm b = some blk ∧ (∃ B, st (.l b) = .bx (some B)) ∧ v = .pointer (some ⟨blk, off, none⟩)
  | .ls b off len => ∃ blk cap, G.lm b = some blk ∧ (∃ B, st (.l b) = .bx (some B)) ∧ v = .slice (some ⟨blk, off, none⟩) len cap ∧ len ≤ cap

structure Rel (G : Gh) (nt : Nat) (st : St) (tm : Array Value) (w : World) : Prop where
  size : tm.size = nt
  slots : ∀ i s, st (.s i) = .sv s → SlotR G st w i s (tm.getD i undef)
  lbox : ∀ s B, st (.l s) = .bx (some B) → ∃ b, G.lm s = some b ∧ G.own b = some (.lbox s) ∧ BoxR G w B b
  gbox : ∀ sg, st .g = .sg sg → ∀ (g : Nat) B, sg[g]? = some B → B.cells ≠ [] → ∃ b, G.ι g = some b ∧ G.own b.1 = some (.gbox g) ∧ BoxR G w B b.1 ∧ Room w b
  gdom : ∀ sg, st .g = .sg sg → ∀ g, sg.length ≤ g → G.ι g = none
  frz : ∀ a v, G.Z a = some v → w.cell? a = some v ∧ one v = true ∧ ∀ o, G.own a.block = some o → ∃ i, o = .slot i
  ownlt : ∀ b o, G.own b = some o → b < w.heap.size

/-- What a piece of a run leaves alone: whatever block had no owner is as it was. -/
structure Fr (G : Gh) (w : World) (G' : Gh) (w' : World) : Prop where
  os : w'.os = w.os
  tape : w'.tape = w.tape
  output : w'.output = w.output
  size : w.heap.size ≤ w'.heap.size
  Z : ∀ a v, G.Z a = some v → G'.Z a = some v
  ι : ∀ g b, G.ι g = some b → G'.ι g = some b
  rest : ∀ b, b < w.heap.size → G.own b = none → w'.heap[b]? = w.heap[b]? ∧ G'.own b = none ∧ ∀ j s, G'.Z ⟨b, j, s⟩ = G.Z ⟨b, j, s⟩

theorem Fr.refl (G : Gh) (w : World) : Fr G w G w := ⟨rfl, rfl, rfl, Nat.le_refl _, fun _ _ h => h, fun _ _ h => h, fun _ _ h => ⟨rfl, h, fun _ _ => rfl⟩⟩
theorem Fr.trans {G G' G'' : Gh} {w w' w'' : World} (h : Fr G w G' w') (k : Fr G' w' G'' w'') : Fr G w G'' w'' :=
  ⟨k.os.trans h.os, k.tape.trans h.tape, k.output.trans h.output, Nat.le_trans h.size k.size, fun a v x => k.Z a v (h.Z a v x), fun a v x => k.ι a v (h.ι a v x),
   fun b hb ho => by
    obtain ⟨h1, h2, h3⟩ := h.rest b hb ho
    obtain ⟨k1, k2, k3⟩ := k.rest b (Nat.lt_of_lt_of_le hb h.size) h2
    exact ⟨k1.trans h1, k2, fun j s => (k3 j s).trans (h3 j s)⟩⟩
end Go.Abs
