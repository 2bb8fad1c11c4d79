/- LIBRARY FUNCTIONS BY THE SHELF's CONTRACTS. -/
import Derived.Test.YtimoaolannkpcaaGreatOvProof
import Derived.Test.YtimoaolannkpcaaGreatLayP
set_option linter.unusedVariables false
set_option linter.unusedSimpArgs false
set_option linter.unusedSectionVars false
namespace Go.Abs
open Go.Proofs Go.RowKit
set_option linter.unusedVariables false
set_option maxRecDepth 100000

theorem GRel.below {G : Gh} {sg : Sg} {w w' : World} (K : GRel G sg w) (B : Below w.heap.size w w') : GRel G sg w' ∧ Fr G w G w' := by
  refine ⟨⟨fun g b hb hne => ?_, K.gdom, fun g b hb ho => ?_, fun a v h => ?_, fun b o h => Nat.lt_of_lt_of_le (K.ownlt b o h) B.size, K.ownG⟩,
    ⟨B.os, B.tape, B.output, B.size, fun _ _ h => h, fun _ _ h => h, fun b hb ho => ⟨B.block b hb, ho, fun _ _ => rfl⟩⟩⟩
  · obtain ⟨p, h1, h2, h3, h4⟩ := K.gbox g b hb hne
    have e := B.block p.1 (K.ownlt _ _ h2)
    obtain ⟨arr, T, fr, q1, q2⟩ := h3
    exact ⟨p, h1, h2, ⟨arr, T, fr, e.trans q1, q2⟩, h4.same e⟩
  · obtain ⟨p, h1, h2, h3⟩ := K.gobj g b hb ho
    exact ⟨p, h1, h2, h3.mono (B.block p.1 (K.ownlt _ _ h2)) (fun _ _ h => h) (fun _ _ h => h)⟩
  · obtain ⟨h1, h2, h3⟩ := K.frz a v h
    have hlt : a.block < w.heap.size := by
      unfold World.cell? at h1
      cases hh : w.heap[a.block]? with
      | none => simp [hh] at h1
      | some _ => exact (Array.getElem?_eq_some_iff.1 hh).1
    exact ⟨(B.cell hlt).trans h1, h2, h3⟩

theorem cntB_eq (b : UInt8) : ∀ l : List UInt8, cntB b l = Go.Lib.countByte l b
  | [] => rfl
  | x :: l => by
    simp only [cntB, Go.Lib.countByte, List.count_cons]
    have ih := cntB_eq b l
    simp only [Go.Lib.countByte] at ih
    cases h : Nat.beq x.toNat b.toNat with
    | true =>
      have e : x = b := UInt8.toNat_inj.1 (Nat.eq_of_beq_eq_true h)
      simp [e, ih]
    | false =>
      have e : x ≠ b := by rintro rfl; simp at h
      simp [e, ih]
theorem repB_eq (l : List UInt8) : ∀ n, repB l n = Go.Lib.repeatL l n
  | 0 => rfl
  | n + 1 => by simp only [repB, Go.Lib.repeatL, repB_eq l n]

theorem arg_is {xs : List AVal} {args : Array Value} {G : Gh} (h : ∀ (i : Nat) a v, xs[i]? = some a → args[i]? = some v → VR G.Z G.ι a v ∧ ∀ vs, a ≠ .tup vs) {i : Nat} {v u : Value} (h1 : xs[i]? = some (.at v)) (h2 : args[i]? = some u) : u = v := at_eq (h i _ _ h1 h2).1

/-- What a leaf needs, of a function that is called. -/
theorem leafL {f : Nat} {fn : Func} {g : List AVal → Sg → R} (hf : Tryz.prog.funcs[f]? = some fn) (h3 : fn.body ≠ none) (h4 : fn.name ≠ "runtime.NumGoroutine") (hl : Nat.blt f yBase = true) (hr : YTab.ro f = false)
    (hg : ∀ xs sg out, g xs sg = some out → CallOK Tryz.prog f xs sg out) : Good f (fun _ _ xs sg => g xs sg) := by
  intro C N xs sg out _ h
  refine ⟨⟨fun _ => ⟨⟨fn, hf, h3, h4⟩, hg xs sg out h⟩, fun k hk => ?_⟩, fun hh => ?_⟩
  · have : f < yBase := Nat.blt_eq ▸ hl
    omega
  · rw [hr] at hh; cases hh

theorem leafCount : Good 384 (fun _ _ xs sg => ovCount xs sg) := by
  refine leafL Tryz.func384 (nb (by kernel_rfl)) (ne_of_beq (by kernel_rfl)) (by kernel_rfl) (by kernel_rfl) ?_
  intro xs sg out h
  unfold ovCount at h
  split at h
  case h_2 => cases h
  rename_i s b
  cases h
  intro G w args K hlen ha
  match args, hlen with
  | ⟨[v0, v1]⟩, _ =>
    obtain rfl := arg_is ha (i := 0) rfl rfl
    obtain rfl := arg_is ha (i := 1) rfl rfl
    refine (Tryz.strings_Count_one s b w).mono ?_
    rintro e w' ⟨rfl, rfl⟩
    exact ⟨G, Fr.refl _ _, _, rfl, by rw [cntB_eq]; exact .at rfl, K⟩

theorem leafRepeat : Good 230 (fun _ _ xs sg => ovRepeat xs sg) := by
  refine leafL Tryz.func230 (nb (by kernel_rfl)) (ne_of_beq (by kernel_rfl)) (by kernel_rfl) (by kernel_rfl) ?_
  intro xs sg out h
  unfold ovRepeat at h
  split at h
  case h_2 => cases h
  rename_i s n
  obtain ⟨⟨h1, h0, h2⟩, h3⟩ := if_some h
  cases h3
  intro G w args K hlen ha
  match args, hlen with
  | ⟨[v0, v1]⟩, _ =>
    obtain rfl := arg_is ha (i := 0) rfl rfl
    obtain rfl := arg_is ha (i := 1) rfl rfl
    have hn : n = ((n.toNat : Nat) : Int) := by omega
    rw [hn]
    refine (Tryz.strings_Repeat s n.toNat w (by omega) (by simpa using h2)).mono ?_
    rintro e w' ⟨rfl, hb⟩
    obtain ⟨K', F'⟩ := K.below hb
    exact ⟨G, F', _, rfl, by rw [repB_eq]; exact .at rfl, K'⟩
end Go.Abs
