/- slices.Sorted(maps.Keys(m)), m of one entry. -/
import Derived.Test.YtimoaolannkpcaaGreatOvLib
set_option linter.unusedVariables false
set_option linter.unusedSimpArgs false
set_option linter.unusedSectionVars false
namespace Go.Abs
open Go.Proofs Go.RowKit Go.Maps Go.Sort Go.Shelf
open Go.WideElems (Fit rd rg pl)
set_option linter.unusedVariables false
set_option maxRecDepth 100000

theorem sortsA (m : Nat) : AnyZI.SortsIn Tryz.prog Tryz.sortedA_ren Fence.wide m :=
  ⟨fun blk off cap ss W hH hblk hsz => callsIn_wide.2 (Tryz.slices_Sort_int blk off cap ss W hH hblk hsz),
   fun p cap W => callsIn_wide.2 (Tryz.slices_Sort_int_none p cap W)⟩

def RU : Value → Option (DataW Unit × List MemPlace) := fun _ => some (.nil, [])

theorem sorted1 {w : World} {bp bm clk : Nat} {e : MapEntry} {n : Int} (hbp : bp < w.heap.size) (hc : w.cell? ⟨bp, 0, none⟩ = some (.map (some bm))) (hm : w.heap[bm]? = some (.map #[e] clk)) (hst : Go.MapKept.Stamped #[e] clk)
    (hk : e.key = .int .i64 n) (hn : -9223372036854775808 ≤ n ∧ n ≤ 9223372036854775807) :
    Calls Tryz.prog 226 #[.func (.func 331) #[] #[.pointer (some ⟨bp, 0, none⟩)]] w fun en w' => ∃ v, en = .returned v ∧ w'.ownsRow w.heap.size 3 1 v 1 [.int .i64 n] ∧ Below w.heap.size w w' := by
  have hwf : (Lit.int .i64 n).wf = true := by
    simp [Lit.wf, IntKind.min, IntKind.max, IntKind.signed, IntKind.bits]; omega
  have hkey : keyOf Tryz.prog 3 e.key = some (.int .i64 n) := by rw [hk]; exact keyOf_int_mk Tryz.underlying3 hwf
  have hrd : rd Tryz.prog 3 RU e = some (.int .i64 n, .nil) := by
    unfold Go.WideElems.rd; rw [hkey]; rfl
  have hrg : rg Tryz.prog 3 RU e = (.int .i64 n, .nil) := by
    unfold Go.WideElems.rg; rw [hrd]; rfl
  have hown : w.ownsMap Tryz.prog 3 RU bm 1 (.map [(.int .i64 n, .nil)]) :=
    ⟨#[e], clk, hm, ⟨by simp [maxLen], hst, fun x hx => by simp at hx; subst hx; exact ⟨_, hrd⟩⟩, by simp, by simp [hrg, DataW.insert]⟩
  have hseq : SeqGives Fence.wide 2 Tryz.prog 331 #[.pointer (some ⟨bp, 0, none⟩)] encZ (fun ss => ss.Perm (intKeys (.map [(.int .i64 n, (.nil : DataW Unit))]))) (Maps.size (.map [(.int .i64 n, (.nil : DataW Unit))])) w :=
    AnyZI.keys_gives (ρ := Tryz.keysA_ren) { Tryz.keysA with } Fence.wide _ trivial rfl (by omega) bp bm 1 _ _ hbp hc hown
  have cS := AnyZI.sorted_in Tryz.sortedA Fence.wide 5 trivial trivial trivial trivial rfl (by omega) (sortsA _) (enters_of Tryz.func319 (by kernel_rfl) rfl) 331 #[.pointer (some ⟨bp, 0, none⟩)] trivial (enters_of Tryz.func331 (by kernel_rfl) rfl) _ _ (by simp [Maps.size, maxLen]) (by simp [Maps.size]) _ hseq
  change CallsIn _ _ Tryz.prog 226 _ _ _ at cS
  refine (callsIn_wide.1 cS).mono ?_
  rintro en w' ⟨v, ss, rfl, hS, hrow, hnil, hb⟩
  have hss : ss = [n] := by
    have h1 : intKeys (.map [(.int .i64 n, (.nil : DataW Unit))]) = [n] := rfl
    rw [h1] at hS
    exact List.perm_singleton.1 hS
  subst hss
  simp [encZ] at hrow
  exact ⟨v, rfl, hrow, hb⟩

theorem GRel.newBox {G : Gh} {sg : Sg} {w w' : World} (K : GRel G sg w) (B : Below w.heap.size w w') {b : Nat} {arr : Array Value} {T : TypeId} {cs : List AVal} (hb : w.heap.size ≤ b) (hb2 : b < w'.heap.size) (hh : w'.heap[b]? = some (.cells arr T (0, 0))) (hl : cs.length ≤ arr.size)
    (hr : ∀ (j : Nat) c, cs[j]? = some c → ∃ u, arr[j]? = some u ∧ VR G.Z G.ι c u ∧ one u = true) :
    ∃ G', GRel G' (sg ++ [.mk cs]) w' ∧ Fr G w G' w' ∧ G'.ι sg.length = some (b, arr.size) := by
  obtain ⟨K', F'⟩ := K.below B
  let G' : Gh := { G with ι := fun i => if i = sg.length then some (b, arr.size) else G.ι i, own := fun c => if c = b then some (.gbox sg.length) else G.own c }
  have hnone : G.ι sg.length = none := K.gdom _ (Nat.le_refl _)
  have hι : ∀ g b, G.ι g = some b → G'.ι g = some b := fun g b h => by
    have : g ≠ sg.length := by rintro rfl; rw [hnone] at h; cases h
    simp [G', this, h]
  have hlt : ∀ c oo, G.own c = some oo → c ≠ b := fun c oo h => by have := K.ownlt c oo h; omega
  have hown : ∀ c oo, G.own c = some oo → G'.own c = some oo := fun c oo h => by simp [G', hlt c oo h, h]
  refine ⟨G', ⟨fun g B' hB' hne => ?_, fun g hg => ?_, fun g B' hB' ho => ?_, fun a v h => ?_, fun c o h => ?_, fun c o h => ?_⟩,
    ⟨F'.os, F'.tape, F'.output, F'.size, fun _ _ h => h, hι, fun c hc ho => ⟨B.block c hc, by simp [G', ho]; omega, fun _ _ => rfl⟩⟩, by simp [G']⟩
  · by_cases hg : g < sg.length
    · rw [List.getElem?_append_left hg] at hB'
      obtain ⟨p, h1, h2, ⟨arr1, T1, fr1, q1, q2, q3, q4⟩, h4⟩ := K'.gbox g B' hB' hne
      exact ⟨p, hι _ _ h1, hown _ _ h2, ⟨arr1, T1, fr1, q1, q2, q3, fun j c hc => by obtain ⟨u, r1, r2, r3⟩ := q4 j c hc; exact ⟨u, r1, r2.mono (fun _ _ h => h) hι, r3⟩⟩, h4⟩
    · have hg' : g = sg.length := by
        have := (List.getElem?_eq_some_iff.1 hB').1
        simp at this; omega
      subst hg'
      simp at hB'
      subst hB'
      exact ⟨(b, arr.size), by simp [G'], by simp [G'], ⟨arr, T, (0, 0), hh, hl, fun j _ => by simp, fun j c hc => by obtain ⟨u, r1, r2, r3⟩ := hr j c hc; exact ⟨u, r1, r2.mono (fun _ _ h => h) hι, r3⟩⟩, ⟨arr, T, (0, 0), hh, rfl⟩⟩
  · have hg1 : sg.length + 1 ≤ g := by simpa using hg
    have : g ≠ sg.length := by omega
    simp only [G', this, if_false]
    exact K.gdom g (by omega)
  · by_cases hg : g < sg.length
    · rw [List.getElem?_append_left hg] at hB'
      obtain ⟨p, h1, h2, h3⟩ := K'.gobj g B' hB' ho
      exact ⟨p, hι _ _ h1, hown _ _ h2, h3.mono rfl (fun _ _ h => h) hι⟩
    · have hg' : g = sg.length := by
        have := (List.getElem?_eq_some_iff.1 hB').1
        simp at this; omega
      subst hg'
      simp at hB'
      subst hB'
      cases ho
  · obtain ⟨h1, h2, h3⟩ := K'.frz a v h
    refine ⟨h1, h2, ?_⟩
    have hlt : a.block < w.heap.size := by
      have h0 := (K.frz a v h).1
      unfold World.cell? at h0
      cases hh : w.heap[a.block]? with
      | none => simp [hh] at h0
      | some _ => exact (Array.getElem?_eq_some_iff.1 hh).1
    have : a.block ≠ b := by omega
    simp [G', this, h3]
  · simp only [G'] at h
    split at h
    · rename_i e; rw [e]; exact hb2
    · exact K'.ownlt c o h
  · simp only [G'] at h
    split at h
    · cases h; exact ⟨_, rfl⟩
    · exact K'.ownG c o h

theorem leafSorted : Good 226 (fun _ _ xs sg => ovSorted xs sg) := by
  refine leafL Tryz.func226 (nb (by kernel_rfl)) (ne_of_beq (by kernel_rfl)) (by kernel_rfl) (by kernel_rfl) ?_
  intro xs sg out h
  unfold ovSorted at h
  split at h
  case h_2 => cases h
  rename_i f g
  obtain ⟨h1, h⟩ := bif_some h
  have h1 := Nat.eq_of_beq_eq_true h1
  subst h1
  split at h
  case h_2 => cases h
  rename_i m hg
  split at h
  case h_2 => cases h
  rename_i n va hm
  obtain ⟨hn, h⟩ := if_some h
  cases h
  intro G w args K hlen ha
  match args, hlen with
  | ⟨[v0]⟩, _ =>
    have hv := (ha 0 _ v0 rfl rfl).1
    cases hv with
    | @clo _ _ _ vf vc hl1 hh1 hl2 hh2 _ =>
      have e1 : vf = #[] := by apply Array.eq_empty_of_size_eq_zero; simpa using hl1.symm
      obtain ⟨p, rfl⟩ : ∃ p, vc = #[p] := by
        have : vc.size = 1 := by simpa using hl2.symm
        exact ⟨vc[0], by apply Array.ext <;> simp [this]; intro i hi; have : i = 0 := by omega
                         subst this; rfl⟩
      subst e1
      have hp := hh2 0 _ p rfl rfl
      cases hp with
      | @gp _ _ b hb =>
        obtain ⟨b', k1, k2, ⟨arr, T, fr, q1, q2, q3, q4⟩, k4⟩ := K.gbox g _ hg (by simp)
        rw [hb] at k1; cases k1
        obtain ⟨u, r1, r2, r3⟩ := q4 0 _ rfl
        cases r2 with
        | @gm _ bm hbm =>
          obtain ⟨bm', m1, m2, marr, clk, m3, m4, m5, m6⟩ := K.gobj m _ hm rfl
          rw [hbm] at m1; cases m1
          have hcell : w.cell? ⟨b.1, 0, none⟩ = some (.map (some bm.1)) := by
            simp [World.cell?, q1, r1]
          obtain ⟨e, rfl⟩ : ∃ e, marr = #[e] := by
            have : marr.size = 1 := by simpa using m4.symm
            exact ⟨marr[0], by apply Array.ext <;> simp [this]; intro i hi; have : i = 0 := by omega
                               subst this; rfl⟩
          have hE := m5 0 _ e rfl rfl
          have hke : e.key = .int .i64 n := at_eq hE.1
          refine (sorted1 (K.ownlt _ _ k2) hcell m3 m6 hke hn).mono ?_
          rintro en w' ⟨v, rfl, hrow, hbel⟩
          obtain ⟨_, ⟨_, hz⟩ | ⟨gb, cap, cur, rfl, s1, s2, s3, s4, s5, s6⟩⟩ := hrow
          · cases hz
          · obtain ⟨G', K', F', hi⟩ := K.newBox hbel (cs := [.at (.int .i64 n)]) s1 (Array.getElem?_eq_some_iff.1 s2).1 s2 (by simp; omega) (fun j c hc => by
              match j with
              | 0 =>
                simp at hc
                subst hc
                have : cur.toList[0]? = some (.int .i64 n) := by
                  have := congrArg (·[0]?) s6
                  simpa using this
                exact ⟨.int .i64 n, by simpa using this, .at rfl, rfl⟩
              | j + 1 => simp at hc)
            exact ⟨G', F', _, rfl, .gs hi s3 (by simp; omega), K'⟩
end Go.Abs
