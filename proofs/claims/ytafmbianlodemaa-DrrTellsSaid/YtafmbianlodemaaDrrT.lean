/- THE TURNS: what the table's functions give. -/
import Derived.Test.YtafmbianlodemaaLives
import Derived.Test.YtafmbianlodemaaDrrN
namespace Go.Abs
set_option linter.unusedVariables false
set_option linter.unusedSectionVars false
set_option linter.unusedSimpArgs false
open Go.Drr

theorem tab_at {f : Nat} {af : AFun} (h : look fl f = some af) (d : Nat) (args : List AVal) (sg : Sg) : tab (d + 1) f args sg = evalF (tab d) NN af args sg := by
  simp only [tab, h]
theorem NN_big : 1000000 < NN := by decide

theorem t33 (d : Nat) {t : T} {c : List Int} (hc : c.length = 8) {i : Int} (h0 : 0 ≤ i) (h8 : i < 8) (sg : Sg) : tab (d + 1) 33 [.agg (tl t), .agg (cl c), I i] sg = some (.ret (I (cost t.q c i)) sg) := by
  rw [tab_at (af := drr_Turns_cost.a) rfl]; exact cost_ev hc h0 h8 sg
theorem t36 (d : Nat) {t : T} (hq : 0 ≤ t.q) (hq2 : t.q ≤ 65536) (i : Int) (sg : Sg) : tab (d + 1) 36 [.agg (tl t), I i] sg = some (.ret (I (most t i)) sg) := by
  rw [tab_at (af := drr_Turns_most.a) rfl]; exact most_ev ⟨hq, hq2⟩ i sg
theorem t15 (d : Nat) (t : T) (sg : Sg) (hl : t.cr.length = 8) : tab (d + 2) 15 [.agg (tl t)] sg = some (.ret (I (if rightB t = true then 0 else 18)) sg) := by
  rw [tab_at (af := drr_Check.a) rfl]; exact check_ev hl (fun h1 h2 i sg => t36 d h1 h2 i sg) (by have := NN_big; omega) sg
theorem t32 (d : Nat) {c : List Int} (hc : c.length = 8) (t : T) (sg : Sg) (hl : t.cr.length = 8) (h0 : 0 ≤ t.n) (h8 : t.n ≤ 8) : tab (d + 2) 32 [.agg (tl t), .agg (cl c)] sg = some (.ret (B (someB t.q c t.n.toNat 0)) sg) := by
  rw [tab_at (af := drr_Turns_some.a) rfl]; exact some_ev hl hc (fun i sg h0 h8 => t33 d hc h0 h8 sg) sg h8 h0 (by have := NN_big; omega)
theorem t34 (d : Nat) {c : List Int} (hc : c.length = 8) (t : T) (sg : Sg) (h : Mild t) : tab (d + 2) 34 [.agg (tl t), .agg (cl c)] sg = some (.ret (.agg (tl (mv t c))) sg) := by
  rw [tab_at (af := drr_Turns_move.a) rfl]; exact move_ev h hc (fun t i sg h0 h8 => t33 d hc h0 h8 sg) sg
theorem nextC (d : Nat) {c : List Int} (hc : c.length = 8) : NextC (tab (d + 2)) c :=
  ⟨fun t i sg h0 h8 => t33 (d + 1) hc h0 h8 sg, fun t sg h => t34 d hc t sg h, fun t sg hl => t15 d t sg hl, fun t sg hl h0 h8 => t32 d hc t sg hl h0 h8⟩
theorem t9 (d : Nat) : NextOK (tab (d + 3)) := fun u c sg hl hc => by
  rw [tab_at (af := drr_Next.a) rfl]; exact next_ev hl hc (nextC d hc) (by have := NN_big; omega) sg
theorem t13 (d : Nat) (t : T) (sg : Sg) (hl : t.cr.length = 8) : tab (d + 1) 13 [.agg (tl t)] sg = some (.ret (B (rightB t)) sg) := by
  rw [tab_at (af := ref26_Right.a) rfl]; exact right_ev hl (by have := NN_big; omega) sg
theorem t10 (d : Nat) (t : T) (sg : Sg) (hl : t.cr.length = 8) : tab (d + 1) 10 [.agg (tl t)] sg = some (.ret (.agg (tl t)) sg) := by
  rw [tab_at (af := law26_ours.a) rfl]; exact ours_ev hl sg
theorem t12 (d : Nat) {n q : Int} (hn : -9223372036854775808 ≤ n ∧ n ≤ 9223372036854775807) (sg : Sg) :
    tab (d + 3) 12 [I n, I q] sg = some (.ret (.tup [.agg (tl (if rightB (newT n q) = true then newT n q else zeroT')), I (if rightB (newT n q) = true then 0 else 18)]) sg) := by
  rw [tab_at (af := drr_New.a) rfl]; exact new_ev hn (fun t sg hl => t15 d t sg hl) sg
theorem t5 {t : T} (hl : t.cr.length = 8) {L : List (List Int)} (hL : ∀ c ∈ L, c.length = 8) (nn : Bool) {w : Int} (hw : 0 ≤ w ∧ w ≤ 255) (sg : Sg) :
    tab 7 5 [.agg (tl t), .sl nn 8 (rl L), .at (.int .u8 w)] sg = some (.ret (B true) sg) := by
  rw [tab_at (af := law26_DrrNobody.a) rfl]
  exact nob_ev lives26 (t13 5) (t10 5) (t9 3) hl hL nn hw (by have := NN_big; omega) sg

/-! ### From cells to numbers -/
def toI : Value → Int
  | .int _ n => n
  | _ => 0
theorem ints_of {k : IntKind} {n : Nat} {cs : List Value} (h : Flats (List.replicate n (.int k)) cs) : cs = (cs.map toI).map (.int k) ∧ (cs.map toI).length = n := by
  obtain ⟨l, h1, rfl, _⟩ := h.ints
  have : (l.map (Value.int k)).map toI = l := by simp [List.map_map, Function.comp_def, toI]
  rw [this]; exact ⟨rfl, h1⟩
theorem turns_of {cs : List Value} (h : Flats (List.replicate 11 (.int .i64)) cs) : ∃ t : T, t.cr.length = 8 ∧ cs.map AVal.at = tl t := by
  obtain ⟨h1, h2⟩ := ints_of h
  generalize cs.map toI = l at h1 h2
  match l, h2 with
  | n :: q :: a :: cr, h2 =>
    refine ⟨⟨n, q, a, cr⟩, by simpa using h2, ?_⟩
    rw [h1]
    simp [tl, List.map_map, Function.comp_def]
theorem costs_of {cs : List Value} (h : Flats (List.replicate 8 (.int .i64)) cs) : ∃ c : List Int, c.length = 8 ∧ cs.map AVal.at = cl c := by
  obtain ⟨h1, h2⟩ := ints_of h
  refine ⟨_, h2, ?_⟩
  rw [h1]
  simp [cl, List.map_map, Function.comp_def, toI]
theorem rounds_of {L : List (List Value)} (h : ∀ cs ∈ L, Flats (List.replicate 8 (.int .i64)) cs) : ∃ R : List (List Int), (∀ c ∈ R, c.length = 8) ∧ L.map (elA true) = rl R ∧ R.length = L.length := by
  refine ⟨L.map fun cs => cs.map toI, ?_, ?_, by simp⟩
  · intro c hc
    obtain ⟨cs, h1, rfl⟩ := List.mem_map.1 hc
    exact (ints_of (h cs h1)).2
  · unfold rl
    rw [List.map_map]
    refine List.map_congr_left fun cs hcs => ?_
    obtain ⟨h1, h2⟩ := ints_of (h cs hcs)
    simp only [elA, cond_true, Function.comp, cl]
    congr 1
    conv => lhs; rw [h1]
    rw [List.map_map]; rfl
end Go.Abs
