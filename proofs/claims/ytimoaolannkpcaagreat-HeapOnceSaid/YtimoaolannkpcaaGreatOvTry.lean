/- heap.try: a call whose panic is caught: a leaf by hand. -/
import Derived.Test.YtimoaolannkpcaaGreatOvSortN
import Derived.Tactics
import Derived.Tactics2
import Derived.Defers
import Derived.Recover
import Derived.Laws.Pointers
set_option linter.unusedVariables false
set_option linter.unusedSimpArgs false
set_option linter.unusedSectionVars false
namespace Go.Abs
open Go.Proofs Go.RowKit
set_option linter.unusedVariables false
set_option linter.unusedSimpArgs false
set_option maxRecDepth 100000

theorem ta_run (v : Value) (w : World) : (Instr.typeAssert (.iface 182 v) 20 182 true).run Tryz.prog w = .ok (.tuple #[v, .bool true]) w := by
  simp [Instr.typeAssert, go_sem, Tryz.underlying182]

set_option maxHeartbeats 4000000 in
theorem catch_panicking (p : Addr) (x n : Int) (older : List PanicEntry) (w : World) (hc : w.cell? p = some (.int .i64 x)) (hz : w.frozen? p = false) (hp : p.block < w.heap.size) :
    CallsD Tryz.prog 225 #[.pointer (some p)] (.panicking ({ v := .iface 182 (.agg #[.int .i64 n]), recovered := false } :: older)) w fun e u' w' =>
      e = .returned (.tuple #[]) ∧ u' = .panicking ({ v := .iface 182 (.agg #[.int .i64 n]), recovered := true } :: older) ∧ w' = (w.alloc (.cells #[.int .i64 n] 182)).setCell p (.int .i64 n) := by
  refine callsD_of_wpS Tryz.func225 rfl fun c₀ cs hu => ?_
  apply wpS_seq
  apply wpS_region
  simp [wpOpsS, go_sem, recoverD, hu, Tryz.ntmps225, Exit.thenS]
  refine wpS_of_wp ?_
  have hta := ta_run
  have hz2 : (w.alloc (Obj.cells #[Value.int IntKind.i64 n] 182)).frozen? p = false := (World.frozen?_alloc_old w _ p (by omega)).trans hz
  go_wp2
  cases c₀
  simp_all [bodyPostS, results, Tryz.results225]

theorem catch_idle (p : Addr) (w : World) :
    CallsD Tryz.prog 225 #[.pointer (some p)] .returning w fun e u' w' => e = .returned (.tuple #[]) ∧ u' = .returning ∧ w' = w := by
  refine callsD_of_wpS Tryz.func225 rfl fun c₀ cs hu => ?_
  apply wpS_seq
  apply wpS_region
  simp [wpOpsS, go_sem, recoverD, hu, Tryz.ntmps225, Exit.thenS]
  refine wpS_of_wp ?_
  go_wp2
  cases c₀
  simp_all [bodyPostS, results, Tryz.results225]

/-- A new block that nobody owns may turn. -/
theorem GRel.own0 {G : Gh} {sg : Sg} {w w' : World} (K : GRel G sg w) {b : Nat} (hb : G.own b = none) (hZ : ∀ j s, G.Z ⟨b, j, s⟩ = none) (hs : w.heap.size ≤ w'.heap.size) (hne : ∀ c, c < w.heap.size → c ≠ b → w'.heap[c]? = w.heap[c]?) : GRel G sg w' := by
  have hob : ∀ c o, G.own c = some o → c ≠ b := by rintro c o h rfl; rw [hb] at h; cases h
  refine ⟨fun g B hB hn => ?_, K.gdom, fun g B hB ho => ?_, fun a v h => ?_, fun c o h => Nat.lt_of_lt_of_le (K.ownlt c o h) hs, K.ownG⟩
  · obtain ⟨p, h1, h2, h3, h4⟩ := K.gbox g B hB hn
    have e := hne p.1 (K.ownlt _ _ h2) (hob _ _ h2)
    obtain ⟨arr, T, fr, q1, q2⟩ := h3
    exact ⟨p, h1, h2, ⟨arr, T, fr, e.trans q1, q2⟩, h4.same e⟩
  · obtain ⟨p, h1, h2, h3⟩ := K.gobj g B hB ho
    have e := hne p.1 (K.ownlt _ _ h2) (hob _ _ h2)
    exact ⟨p, h1, h2, h3.mono e (fun _ _ h => h) (fun _ _ h => h)⟩
  · obtain ⟨h1, h2, h3⟩ := K.frz a v h
    have hlt := cell_lt h1
    have hab : a.block ≠ b := by
      rintro rfl
      rw [hZ] at h; cases h
    exact ⟨(cell_same (hne a.block hlt hab)).trans h1, h2, h3⟩

theorem try_ok {C : CallF} (hC : SoundC Tryz.prog C) {N : Nat} {xs : List AVal} {sg : Sg} {out : Out} (h : ovTry C N xs sg = some out) : CallOK Tryz.prog 121 xs sg out := by
  unfold ovTry at h
  split at h
  case h_2 => cases h
  rename_i ha f first cap
  intro G w args K hlen hargs
  match args, hlen with
  | ⟨[v0, v1]⟩, _ =>
    have hv0 := hargs 0 _ v0 rfl rfl
    have hv1 := (hargs 1 _ v1 rfl rfl).1
    cases hv1 with
    | @clo _ _ _ vf vc hl1 hh1 hl2 hh2 ht =>
    have hmf : ∀ (fn : Go.Fn) (first cap : Array Value) (w : World), (Instr.makeFunc fn first cap).run Tryz.prog w = .ok (.func fn first cap) w := fun _ _ _ _ => rfl
    show Calls Tryz.prog 121 #[v0, _] w _
    obtain ⟨o1, ho1⟩ : ∃ o1, callC C f (first ++ ha :: cap) sg = some o1 := by
      cases hcc : callC C f (first ++ ha :: cap) sg with
      | none => rw [hcc] at h; cases h
      | some o1 => exact ⟨o1, rfl⟩
    rw [ho1] at h
    obtain ⟨hE, hCO⟩ := hC.call ho1
    let w1 := w.alloc (Obj.cells #[Value.int IntKind.i64 0] 35)
    have hw1 : w1 = w.alloc (Obj.cells #[Value.int IntKind.i64 0] 35) := rfl
    have hb1 : Below w.heap.size w w1 := (Below.refl w.heap.size w).alloc (Nat.le_refl _) _
    obtain ⟨K1, F1⟩ := K.below hb1
    have hcl : (callFunc f (vf.push v0 ++ vc)).run Tryz.prog w1 = .ok (.enter f (vf.push v0 ++ vc)) w1 := callFunc_run hE _ _
    have hown : G.own w.heap.size = none := by
      cases ho : G.own w.heap.size with
      | none => rfl
      | some o => have := K.ownlt _ _ ho; omega
    have hZ : ∀ j s, G.Z ⟨w.heap.size, j, s⟩ = none := fun j s => by
      cases hz : G.Z ⟨w.heap.size, j, s⟩ with
      | none => rfl
      | some v => have := cell_lt (K.frz _ _ hz).1; simp at this
    have hsz1 : w.heap.size < w1.heap.size := by simp [hw1, go_sem]
    have hlen' : (first ++ ha :: cap).length = (vf.push v0 ++ vc).size := by simp [hl1, hl2]; omega
    have hvals : ∀ (i : Nat) a v, (first ++ ha :: cap)[i]? = some a → (vf.push v0 ++ vc)[i]? = some v → VR G.Z G.ι a v ∧ ∀ vs, a ≠ .tup vs := by
      intro i aa v e1 e2
      have hh := hargs 0 ha v0 rfl rfl
      rw [List.getElem?_append] at e1
      rw [Array.getElem?_append, Array.getElem?_push, Array.size_push, ← hl1] at e2
      split at e1
      · rename_i hlt
        rw [if_pos (by omega), if_neg (by omega)] at e2
        exact ⟨hh1 i aa v e1 e2, ht aa (List.mem_append.2 (.inl (List.mem_of_getElem? e1)))⟩
      · rename_i hlt
        cases hi : i - first.length with
        | zero =>
          have hi2 : i = first.length := by omega
          rw [if_pos (by omega), if_pos hi2] at e2
          rw [hi] at e1
          simp at e1 e2
          subst e1; subst e2; exact hh
        | succ m =>
          rw [if_neg (by omega)] at e2
          rw [hi] at e1
          have hm : i - (first.length + 1) = m := by omega
          rw [hm] at e2
          simp only [List.getElem?_cons_succ] at e1
          exact ⟨hh2 m aa v e1 e2, ht aa (List.mem_append.2 (.inr (List.mem_of_getElem? e1)))⟩
    go_enter_defers Tryz.func121, Tryz.ntmps121
    go_wp2
    rw [hcl]
    refine (hCO G w1 (vf.push v0 ++ vc) K1 hlen' hvals).mono ?_
    rintro e w2 ⟨G1, F2, hO⟩
    have hnew : w1.heap[w.heap.size]? = some (.cells #[.int .i64 0] 35 (0, 0)) := (MapKept.heap_alloc w (.cells #[.int .i64 0] 35)).1
    have hblk := F2.rest w.heap.size hsz1 hown
    have hc2 : w2.cell? ⟨w.heap.size, 0, none⟩ = some (.int .i64 0) := by
      simp [World.cell?, hblk.1, hnew]
    have hz2 : w2.frozen? ⟨w.heap.size, 0, none⟩ = false := by
      simp [World.frozen?, hblk.1, hnew]
    have hset : ∀ (w : World) (p : Addr) (v : Value) (c : Nat), c ≠ p.block → (w.setCell p v).heap[c]? = w.heap[c]? := by
      intro w p v c hc
      simp only [World.setCell, Array.getElem?_modify]
      rw [if_neg (by omega)]
    have hssz : ∀ (w : World) (p : Addr) (v : Value), (w.setCell p v).heap.size = w.heap.size := by
      intro w p v; simp [World.setCell]
    have F3 := F1.trans F2
    have hle : w.heap.size < w2.heap.size := Nat.lt_of_lt_of_le hsz1 F2.size
    -- whatever the end is
    have shut : ∀ (w3 : World) (n : Int), w3.os = w2.os → w3.tape = w2.tape → w3.output = w2.output → w2.heap.size ≤ w3.heap.size → (∀ c, c < w2.heap.size → c ≠ w.heap.size → w3.heap[c]? = w2.heap[c]?) → ∀ sg', GRel G1 sg' w2 → ∃ G', Fr G w G' w3 ∧ OutOK G' w3 (.ret (.at (.int .i64 n)) sg') (.returned (.int .i64 n)) := by
      intro w3 n e1 e2 e3 e4 e5 sg' K2
      refine ⟨G1, ⟨e1.trans F3.os, e2.trans F3.tape, e3.trans F3.output, Nat.le_trans F3.size e4, F3.Z, F3.ι, fun b hb ho => ?_⟩, _, rfl, .at rfl, K2.own0 hblk.2.1 (fun j s => (hblk.2.2 j s).trans (hZ j s)) e4 e5⟩
      obtain ⟨q1, q2, q3⟩ := F3.rest b hb ho
      exact ⟨(e5 b (by omega) (by omega)).trans q1, q2, q3⟩
    cases o1 with
    | ret v sg' =>
      obtain ⟨u, rfl, hu, K2⟩ := hO
      cases h
      go_wp2
      refine leaves_cons (f := 225) (args := #[.pointer (some ⟨w.heap.size, 0, none⟩)]) (by simp) (by simp [go_sem]) ?_
      refine (catch_idle _ _).mono ?_
      rintro e u' w3 ⟨rfl, rfl, rfl⟩
      have hc3 : (w2.setCell ⟨w.heap.size, 0, none⟩ (.int .i64 0)).cell? ⟨w.heap.size, 0, none⟩ = some (.int .i64 0) := by simp [go_sem, hc2]
      simp only [Leaves, settle, results, Tryz.results121]
      refine ⟨.int .i64 0, by simp [go_sem, hc3], ?_⟩
      exact shut (w2.setCell ⟨w.heap.size, 0, none⟩ (.int .i64 0)) 0 rfl rfl rfl (by rw [hssz]; exact Nat.le_refl _) (fun c hc hn => hset _ _ _ _ hn) sg' K2
    | pan v sg' =>
      obtain ⟨u, rfl, hu, K2⟩ := hO
      split at h
      case h_1 => rename_i heq; cases heq
      case h_3 => cases h
      rename_i t n sg1 heq
      cases heq
      obtain ⟨h1, h2⟩ := bif_some h
      have h1 := Nat.eq_of_beq_eq_true h1
      subst h1
      cases h2
      cases hu with
      | @ifc _ _ vv hv =>
      cases hv with
      | @agg _ arr hl hh h1 =>
      obtain ⟨x, rfl⟩ : ∃ x, arr = #[x] := by
        have : arr.size = 1 := by simpa using hl.symm
        exact ⟨arr[0], by apply Array.ext <;> simp [this]; intro i hi; have : i = 0 := by omega
                          subst this; rfl⟩
      obtain rfl := at_eq (hh 0 _ x rfl rfl)
      go_wp2
      refine leaves_cons (f := 225) (args := #[.pointer (some ⟨w.heap.size, 0, none⟩)]) (by simp) (by simp [go_sem]) ?_
      refine (catch_panicking _ 0 n [] _ hc2 hz2 hle).mono ?_
      rintro e u' w3 ⟨rfl, rfl, rfl⟩
      have hc3 : ((w2.alloc (.cells #[.int .i64 n] 182)).setCell ⟨w.heap.size, 0, none⟩ (.int .i64 n)).cell? ⟨w.heap.size, 0, none⟩ = some (.int .i64 n) := by
        refine World.cell?_setCell_same _ _ _ (u := .int .i64 0) ?_
        rw [cell_same (Below.heap_alloc _ _ _ hle)]
        exact hc2
      have hres : (results Tryz.f121 #[v0, .func (.func f) vf vc, undef, undef, .pointer (some ⟨w.heap.size, 0, none⟩), .func (.func 225) #[] #[.pointer (some ⟨w.heap.size, 0, none⟩)], .func (.func f) vf vc, v0, undef]).run Tryz.prog ((w2.alloc (.cells #[.int .i64 n] 182)).setCell ⟨w.heap.size, 0, none⟩ (.int .i64 n)) = .ok (.int .i64 n) ((w2.alloc (.cells #[.int .i64 n] 182)).setCell ⟨w.heap.size, 0, none⟩ (.int .i64 n)) := by
        simp only [results, Tryz.results121]
        simp [go_sem, hc3]
      refine ⟨.int .i64 n, hres, ?_⟩
      exact shut ((w2.alloc (.cells #[.int .i64 n] 182)).setCell ⟨w.heap.size, 0, none⟩ (.int .i64 n)) n rfl rfl rfl (by rw [hssz]; simp [go_sem]) (fun c hc hn => (hset _ _ _ _ hn).trans (Below.heap_alloc _ _ _ hc)) sg' K2
theorem leafTry : Good 121 ovTry := by
  intro C N xs sg out hC h
  refine ⟨⟨fun _ => ⟨⟨_, Tryz.func121, nb (by kernel_rfl), ne_of_beq (by kernel_rfl)⟩, try_ok hC h⟩, fun k hk => ?_⟩, fun hh => ?_⟩
  · have : (121 : Nat) < yBase := by decide
    omega
  · have : YTab.ro 121 = false := by kernel_rfl
    rw [this] at hh; cases hh
end Go.Abs
