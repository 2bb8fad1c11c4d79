/- strings.Builder: copyCheck and String, by hand. -/
import Derived.Test.YtojghbipoihboaaGreatOvSortN
import Derived.Tactics
import Derived.Tactics2
import Derived.Laws.Pointers
import Derived.Shelf.Strings.Builder1
set_option linter.unusedVariables false
set_option linter.unusedSimpArgs false
set_option linter.unusedSectionVars false
namespace Go.Abs
open Go.Proofs Go.RowKit
set_option linter.unusedVariables false
set_option linter.unusedSimpArgs false
set_option maxRecDepth 100000

set_option maxHeartbeats 1000000 in
theorem cc_used (b : Nat) (w : World) (h0 : w.cell? ⟨b, 0, none⟩ = some (.pointer (some ⟨b, 0, none⟩))) :
    Calls Tryz.prog 198 #[.pointer (some ⟨b, 0, none⟩)] w fun e w' => e = .returned (.tuple #[]) ∧ w' = w := by
  have hj : Tryz.prog.info? 217 = some (Tryz.prog.info? 217).get! := by kernel_rfl
  go_enter Tryz.func198, Tryz.ntmps198
  go_wp2
  rw [Lib.run_neq_ptr_same w _ Tryz.underlying215 hj]
  go_wp2
  go_end0
  exact ⟨rfl, rfl⟩

set_option maxHeartbeats 1000000 in
theorem cc_fresh (b : Nat) (w : World) (h0 : w.cell? ⟨b, 0, none⟩ = some (.pointer none)) (hsh : w.shape? b = some (217, 2)) (hfz : w.frozen? ⟨b, 0, none⟩ = false) :
    Calls Tryz.prog 198 #[.pointer (some ⟨b, 0, none⟩)] w fun e w' => e = .returned (.tuple #[]) ∧ w' = w.setCell ⟨b, 0, none⟩ (.pointer (some ⟨b, 0, none⟩)) := by
  have hj : Tryz.prog.info? 217 = some (Tryz.prog.info? 217).get! := by kernel_rfl
  have hjs : (Tryz.prog.info? 217).get!.size ≠ 0 := by
    have : Nat.beq (Tryz.prog.info? 217).get!.size 0 = false := by kernel_rfl
    intro e; rw [e] at this; cases this
  have hlies : liesAt Tryz.prog Tryz.prog.depth 217 (2 / Tryz.prog.cellsOf 217) 0 217 1 = true := by kernel_rfl
  go_enter Tryz.func198, Tryz.ntmps198
  go_wp2
  rw [Lib.run_to_unsafe w ⟨b, 0, none⟩ Tryz.underlying215 Tryz.underlying277 hj hjs hsh (Nat.zero_lt_succ 1)]
  simp only [Result.andThen]
  rw [Oper.upon_value]
  go_wp2
  rw [run_callFunc_extern Tryz.func227 (by kernel_rfl) (by kernel_rfl) (by kernel_rfl) (e := Extern.AbiNoEscape.same) (by kernel_rfl)]
  rw [Lib.run_noEscape]
  simp only [Result.andThen]
  rw [Oper.upon_value]
  go_wp2
  rw [Lib.run_from_unsafe w ⟨b, 0, none⟩ Tryz.underlying277 Tryz.underlying215 hj hsh hlies]
  simp only [Result.andThen]
  rw [Oper.upon_value]
  go_wp2
  go_end0
  exact ⟨rfl, rfl⟩

set_option maxHeartbeats 1000000 in
theorem str_walk (b g cap m : Nat) (l : List UInt8) (w : World) (h0 : l ≠ []) (hcap : l.length ≤ cap) (hmax : l.length ≤ 1099511627776) (c1 : w.cell? ⟨b, 1, none⟩ = some (.slice (some ⟨g, 0, none⟩) l.length cap))
    (hsh : w.shape? g = some (5, m)) (hlm : l.length ≤ m) (hcells : ∀ (j : Nat) (x : UInt8), l[j]? = some x → w.cell? ⟨g, j, none⟩ = some (.int .u8 x.toNat)) :
    Calls Tryz.prog 167 #[.pointer (some ⟨b, 0, none⟩)] w fun e w' => e = .returned (.string ⟨l.toArray⟩) ∧ w' = w.drew.freeze ⟨g, 0, none⟩ l.length := by
  have L := Tryz.lays169
  have X := Tryz.Builder_Extra_169
  have hl0 : l.length ≠ 0 := by simpa using h0
  have c1 : w.drew.cell? ⟨b, 1, none⟩ = some (.slice (some ⟨g, 0, none⟩) l.length cap) := c1
  have hSD : (Builtin.unsafeSliceData_ #[(Tryz.lays169_ren.t 37)] (Tryz.lays169_ren.t 127) #[.slice (some ⟨g, 0, none⟩) l.length cap]).run Tryz.prog w.drew = .ok (.pointer (some ⟨g, 0, none⟩)) w.drew :=
    Lib.run_unsafeSliceData_row _ _ _ _ _ _ (by omega)
  have hUS : (Builtin.unsafeString_ #[(Tryz.lays169_ren.t 127), (Tryz.lays169_ren.t 3)] (Tryz.lays169_ren.t 9) #[.pointer (some ⟨g, 0, none⟩), .int .i64 l.length]).run Tryz.prog w.drew = .ok (.string ⟨l.toArray⟩) (w.drew.freeze ⟨g, 0, none⟩ l.length) := by
    refine Lib.run_unsafeString_row w.drew _ _ _ _ L.t127 X.cellsByte g m hsh l h0 (by omega) (by omega) ?_
    intro j x hx
    have e : (⟨g, 0, none⟩ : Addr).add j = ⟨g, j, none⟩ := by simp [Addr.add]; omega
    rw [e]
    exact hcells j x hx
  have mixed := L.mixed
  have t72 := L.t72; have a72 := L.a72; have z72 := L.z72; have v72 := L.v72; have u72 := run_underlying L.t72
  have t70 := L.t70; have a70 := L.a70; have z70 := L.z70; have v70 := L.v70; have u70 := run_underlying L.t70
  have t37 := L.t37; have a37 := L.a37; have z37 := L.z37; have v37 := L.v37; have u37 := run_underlying L.t37
  have t127 := L.t127; have a127 := L.a127; have z127 := L.z127; have v127 := L.v127; have u127 := run_underlying L.t127
  have t3 := L.t3; have a3 := L.a3; have z3 := L.z3; have v3 := L.v3; have u3 := run_underlying L.t3
  have t9 := L.t9; have a9 := L.a9; have z9 := L.z9; have v9 := L.v9; have u9 := run_underlying L.t9
  have t5 := X.t5; have a5 := X.a5; have z5 := X.z5; have v5 := X.v5; have u5 := run_underlying X.t5
  show Calls Tryz.prog (Tryz.lays169_ren.f 169) _ _ _
  go_enter L.f169, Body.n169_ntmps Tryz.lays169_ren
  go_wp2
  go_region_o
  all_goals (go_wp2; go_ret; exact ⟨rfl, rfl⟩)

set_option maxHeartbeats 2000000 in
theorem str_nil (b : Nat) (w : World) (c1 : w.cell? ⟨b, 1, none⟩ = some (.slice none 0 0)) :
    Calls Tryz.prog 167 #[.pointer (some ⟨b, 0, none⟩)] w fun e w' => e = .returned (.string ⟨#[]⟩) ∧ w' = w.drew := by
  have L := Tryz.lays169
  have X := Tryz.Builder_Extra_169
  have hUS := Any.unsafeString_none L X
  have c1 : w.drew.cell? ⟨b, 1, none⟩ = some (.slice none 0 0) := c1
  have hSD : (Builtin.unsafeSliceData_ #[(Tryz.lays169_ren.t 37)] (Tryz.lays169_ren.t 127) #[.slice none 0 0]).run Tryz.prog w.drew = .ok (.pointer none) w.drew := rfl
  have mixed := L.mixed
  have t72 := L.t72; have a72 := L.a72; have z72 := L.z72; have v72 := L.v72; have u72 := run_underlying L.t72
  have t70 := L.t70; have a70 := L.a70; have z70 := L.z70; have v70 := L.v70; have u70 := run_underlying L.t70
  have t37 := L.t37; have a37 := L.a37; have z37 := L.z37; have v37 := L.v37; have u37 := run_underlying L.t37
  have t127 := L.t127; have a127 := L.a127; have z127 := L.z127; have v127 := L.v127; have u127 := run_underlying L.t127
  have t3 := L.t3; have a3 := L.a3; have z3 := L.z3; have v3 := L.v3; have u3 := run_underlying L.t3
  have t9 := L.t9; have a9 := L.a9; have z9 := L.z9; have v9 := L.v9; have u9 := run_underlying L.t9
  have t5 := X.t5; have a5 := X.a5; have z5 := X.z5; have v5 := X.v5; have u5 := run_underlying X.t5
  show Calls Tryz.prog (Tryz.lays169_ren.f 169) _ _ _
  go_enter L.f169, Body.n169_ntmps Tryz.lays169_ren
  go_wp2
  go_region_o
  all_goals (go_wp2; go_ret; exact ⟨rfl, rfl⟩)

/-- A box of the common store turns, in its own block. -/
theorem GRel.setB {G : Gh} {sg : Sg} {w w' : World} (K : GRel G sg w) {g : Nat} {p : Nat × Nat} {B' : Box} (hι : G.ι g = some p) (ho : G.own p.1 = some (.gbox g)) (hsz : w'.heap.size = w.heap.size) (hne : ∀ c, c ≠ p.1 → w'.heap[c]? = w.heap[c]?)
    (hbox : B'.cells ≠ [] → BoxR G w' B' p.1 ∧ Room w' p) (hobj : B'.obj = true → ObjR G w' B' p.1) : GRel G (sg.set g B') w' := by
  have hob : ∀ c oo, G.own c = some oo → oo ≠ .gbox g → c ≠ p.1 := by
    rintro c oo h h' rfl; rw [ho] at h; cases h; exact h' rfl
  refine ⟨fun g' B hB hn => ?_, fun g' hg' => K.gdom g' (by simpa using hg'), fun g' B hB hn => ?_, fun a v h => ?_, fun c o h => by rw [hsz]; exact K.ownlt c o h, K.ownG⟩
  · by_cases hg : g = g'
    · subst hg
      rw [List.getElem?_set] at hB
      rw [if_pos rfl] at hB
      split at hB
      · cases hB
        exact ⟨p, hι, ho, (hbox hn).1, (hbox hn).2⟩
      · cases hB
    · rw [List.getElem?_set, if_neg hg] at hB
      obtain ⟨q, h1, h2, h3, h4⟩ := K.gbox g' B hB hn
      have e := hne q.1 (hob _ _ h2 (by simp; omega))
      obtain ⟨arr, T, fr, q1, q2⟩ := h3
      exact ⟨q, h1, h2, ⟨arr, T, fr, e.trans q1, q2⟩, h4.same e⟩
  · by_cases hg : g = g'
    · subst hg
      rw [List.getElem?_set] at hB
      rw [if_pos rfl] at hB
      split at hB
      · cases hB
        exact ⟨p, hι, ho, hobj hn⟩
      · cases hB
    · rw [List.getElem?_set, if_neg hg] at hB
      obtain ⟨q, h1, h2, h3⟩ := K.gobj g' B hB hn
      exact ⟨q, h1, h2, h3.mono (hne q.1 (hob _ _ h2 (by simp; omega))) (fun _ _ h => h) (fun _ _ h => h)⟩
  · obtain ⟨h1, h2, h3⟩ := K.frz a v h
    have : a.block ≠ p.1 := by intro e; rw [e, ho] at h3; cases h3
    exact ⟨(cell_same (hne _ this)).trans h1, h2, h3⟩
/-- The frame, where an owned block turns. -/
theorem Fr.own1 {G : Gh} {w w' : World} {p : Nat} {o : Owner} (ho : G.own p = some o) (h1 : w'.os = w.os) (h2 : w'.tape = w.tape) (h3 : w'.output = w.output) (hsz : w'.heap.size = w.heap.size) (hne : ∀ c, c ≠ p → w'.heap[c]? = w.heap[c]?) : Fr G w G w' :=
  ⟨h1, h2, h3, Nat.le_of_eq hsz.symm, fun _ _ h => h, fun _ _ h => h, fun c hc hn => ⟨hne c (by rintro rfl; rw [ho] at hn; cases hn), hn, fun _ _ => rfl⟩⟩

theorem setCell_heap {w : World} {b o : Nat} {v : Value} {arr : Array Value} {T : TypeId} {fr : Nat × Nat} (h : w.heap[b]? = some (.cells arr T fr)) : (w.setCell ⟨b, o, none⟩ v).heap[b]? = some (.cells (arr.setIfInBounds o v) T fr) := by
  have hlt := (Array.getElem?_eq_some_iff.1 h).1
  have h2 := (Array.getElem?_eq_some_iff.1 h).2
  simp only [World.setCell, Array.getElem?_modify]
  simp [h2, hlt]
theorem setCell_other {w : World} {p : Addr} {v : Value} {c : Nat} (hc : c ≠ p.block) : (w.setCell p v).heap[c]? = w.heap[c]? := by
  simp only [World.setCell, Array.getElem?_modify]
  rw [if_neg (by omega)]

theorem leafCopy : Good 198 (fun _ _ xs sg => ovCopyCheck 217 xs sg) := by
  refine leafL Tryz.func198 (nb (by kernel_rfl)) (ne_of_beq (by kernel_rfl)) (by kernel_rfl) (by kernel_rfl) ?_
  intro xs sg out h
  unfold ovCopyCheck at h
  split at h
  case h_2 => cases h
  rename_i g
  intro G w args K hlen ha
  match args, hlen with
  | ⟨[v0]⟩, _ =>
  have hv := (ha 0 _ v0 rfl rfl).1
  cases hv with
  | @gp _ _ p hg =>
  split at h
  · rename_i t bb hB
    obtain ⟨ht, h⟩ := bif_some h
    have ht := Nat.eq_of_beq_eq_true ht
    subst ht
    cases h
    obtain ⟨p1, k1, k2, ⟨arr, fr, k3, k4⟩⟩ := K.gobj g _ hB rfl
    rw [hg] at k1; cases k1
    have k4 := k4 rfl
    obtain ⟨p2, j1, j2, ⟨arr2, T2, fr2, j3, j4, j5, j6⟩, hroom⟩ := K.gbox g _ hB (by simp [Box.cells])
    rw [hg] at j1; cases j1
    rw [k3] at j3; cases j3
    obtain ⟨u0, m1, m2, m3⟩ := j6 0 _ rfl
    obtain rfl := at_eq m2
    obtain ⟨u1, n1, n2, n3⟩ := j6 1 _ rfl
    simp only [List.length_cons, List.length_nil] at k4
    have hc : w.cell? ⟨p.1, 0, none⟩ = some (.pointer none) := by simp [World.cell?, k3, m1]
    have hsh : w.shape? p.1 = some (217, 2) := by simp [World.shape?, k3, k4]
    have hfz : w.frozen? ⟨p.1, 0, none⟩ = false := by
      have := j5 0 (by omega)
      simp [World.frozen?, k3]; omega
    refine (cc_fresh p.1 w hc hsh hfz).mono ?_
    rintro e w' ⟨rfl, rfl⟩
    have hnew := setCell_heap (o := 0) (v := .pointer (some ⟨p.1, 0, none⟩)) k3
    have hsz : (w.setCell ⟨p.1, 0, none⟩ (.pointer (some ⟨p.1, 0, none⟩))).heap.size = w.heap.size := by simp [World.setCell]
    refine ⟨G, Fr.own1 k2 rfl rfl rfl hsz (fun c hc => setCell_other hc), _, rfl, .tup rfl (fun i a v h1 h2 => by simp at h1), K.setB hg k2 hsz (fun c hc => setCell_other hc) (fun _ => ⟨⟨_, _, _, hnew, by simp [Box.cells, k4], fun j hj => j5 j (by simpa using hj), fun j c hc => ?_⟩, ⟨_, _, _, hnew, ?_⟩⟩) (fun hh => by cases hh)⟩
    · match j with
      | 0 =>
        simp at hc; subst hc
        exact ⟨.pointer (some ⟨p.1, 0, none⟩), by simp [k4], .gp hg, rfl⟩
      | 1 =>
        simp at hc; subst hc
        exact ⟨u1, by rw [Array.getElem?_setIfInBounds]; simpa using n1, n2, n3⟩
      | j + 2 => simp at hc
    · obtain ⟨a3, T3, f3, z1, z2⟩ := hroom
      rw [k3] at z1; cases z1
      simpa using z2
  · rename_i g' bb hB
    obtain ⟨ht, h'⟩ := bif_some h
    have ht := Nat.eq_of_beq_eq_true ht
    subst ht
    clear h
    cases h'
    obtain ⟨p2, j1, j2, ⟨arr2, T2, fr2, j3, j4, j5, j6⟩, hroom⟩ := K.gbox g' _ hB (by simp [Box.cells])
    rw [hg] at j1; cases j1
    obtain ⟨u0, m1, m2, m3⟩ := j6 0 _ rfl
    cases m2 with
    | @gp _ _ p3 hg3 =>
    rw [hg] at hg3; cases hg3
    have hc : w.cell? ⟨p.1, 0, none⟩ = some (.pointer (some ⟨p.1, 0, none⟩)) := by simp [World.cell?, j3, m1]
    refine (cc_used p.1 w hc).mono ?_
    rintro e w' ⟨rfl, rfl⟩
    exact ⟨G, Fr.refl _ _, _, rfl, .tup rfl (fun i a v h1 h2 => by simp at h1), K⟩
  · cases h

theorem bytesOf_at : ∀ {cs : List AVal} {bs : List UInt8}, bytesOf cs = some bs → bs.length = cs.length ∧ ∀ (j : Nat) (x : UInt8), bs[j]? = some x → ∃ n : Int, cs[j]? = some (.at (.int .u8 n)) ∧ x = UInt8.ofNat n.toNat
  | [], bs, h => by cases h; exact ⟨rfl, fun j x hx => by simp at hx⟩
  | a :: cs, bs, h => by
    unfold bytesOf at h
    split at h
    · rename_i h0; cases h0
    · rename_i n l heq
      cases heq
      split at h
      · rename_i bs' hb
        cases h
        obtain ⟨h1, h2⟩ := bytesOf_at hb
        refine ⟨by simp [h1], fun j x hx => ?_⟩
        cases j with
        | zero => simp at hx; exact ⟨n, rfl, hx.symm⟩
        | succ j => simpa using h2 j x (by simpa using hx)
      · cases h
    · cases h

theorem frozen_not {w : World} {b : Nat} {n : Nat} {c : Nat} (hc : c ≠ b) : (w.drew.freeze ⟨b, 0, none⟩ n).heap[c]? = w.heap[c]? := by
  unfold World.freeze
  split
  · rfl
  · show (w.heap.modify b _)[c]? = _
    rw [Array.getElem?_modify, if_neg (by omega)]
theorem frozen_size {w : World} {b : Nat} {n : Nat} : (w.drew.freeze ⟨b, 0, none⟩ n).heap.size = w.heap.size := by
  unfold World.freeze
  split
  · rfl
  · show (w.heap.modify b _).size = _
    simp

theorem GRel.drew {G : Gh} {sg : Sg} {w : World} (K : GRel G sg w) : GRel G sg w.drew := (K.below ((Below.refl w.heap.size w).drew)).1

theorem bStr_ok {G : Gh} {sg : Sg} {w : World} (K : GRel G sg w) {b : Nat} {v : AVal} {u : Value} {out : Out} (hc : w.cell? ⟨b, 1, none⟩ = some u) (hv : VR G.Z G.ι v u) (h : bStr 5 v sg = some out) :
    Calls Tryz.prog 167 #[.pointer (some ⟨b, 0, none⟩)] w fun e w' => ∃ G', Fr G w G' w' ∧ OutOK G' w' out e := by
  unfold bStr at h
  split at h
  · cases h
    cases hv
    refine (str_nil b w hc).mono ?_
    rintro e w' ⟨rfl, rfl⟩
    obtain ⟨K', F'⟩ := K.below ((Below.refl w.heap.size w).drew)
    exact ⟨G, F', _, rfl, .at rfl, K'⟩
  · rename_i gb n
    split at h
    case h_2 => cases h
    rename_i t cs hB
    obtain ⟨hcond, h'⟩ := bif_some h
    clear h
    simp only [Bool.and_eq_true, List.all_eq_true] at hcond
    obtain ⟨c1, c2, c3, c4, c5⟩ := hcond
    have c1 := Nat.eq_of_beq_eq_true c1
    have c2 := Nat.eq_of_beq_eq_true c2
    have c4 := Nat.le_of_ble_eq_true c4
    subst c1
    have c3 : 0 < n := Nat.blt_eq ▸ c3
    split at h'
    case h_2 => cases h'
    rename_i bs hbs
    cases h'
    obtain ⟨hbl, hbv⟩ := bytesOf_at hbs
    cases hv with
    | @gs _ _ _ _ cap p hg hcap hroom =>
    obtain ⟨p1, k1, k2, ⟨arr, fr, k3, _⟩⟩ := K.gobj gb _ hB rfl
    rw [hg] at k1; cases k1
    obtain ⟨p2, j1, j2, ⟨arr2, T2, fr2, j3, j4, j5, j6⟩, hroom2⟩ := K.gbox gb _ hB (by simp only [Box.cells]; rintro rfl; simp at c2; omega)
    rw [hg] at j1; cases j1
    rw [k3] at j3; cases j3
    simp only [Box.cells] at j4 j6
    have hbn : bs ≠ [] := by rintro rfl; simp at hbl; omega
    have hlen : bs.length = n := by omega
    have hal : n ≤ arr.size := by rw [← c2]; exact j4
    subst hlen
    refine (str_walk b p.1 cap arr.size bs w hbn hcap c4 hc (by simp [World.shape?, k3]) hal (fun j x hx => ?_)).mono ?_
    · obtain ⟨m, hm, rfl⟩ := hbv j x hx
      obtain ⟨u0, e1, e2, e3⟩ := j6 j _ hm
      obtain rfl := at_eq e2
      have hok := c5 _ (List.mem_of_getElem? hm)
      simp only [byteOk, Bool.and_eq_true, decide_eq_true_eq] at hok
      have hx : ((UInt8.ofNat m.toNat).toNat : Int) = m := by
        rw [UInt8.toNat_ofNat']
        omega
      rw [hx]
      simp [World.cell?, k3, e1]
    · rintro e w' ⟨rfl, rfl⟩
      refine ⟨G, Fr.own1 k2 ?_ ?_ ?_ frozen_size (fun c hc => frozen_not hc), _, rfl, .at rfl, K.setB hg k2 frozen_size (fun c hc => frozen_not hc) (fun hh => absurd rfl hh) (fun hh => by cases hh)⟩
      · unfold World.freeze; split <;> rfl
      · unfold World.freeze; split <;> rfl
      · unfold World.freeze; split <;> rfl
  · cases h

theorem leafBStr : Good 167 (fun _ _ xs sg => ovBString 5 xs sg) := by
  refine leafL Tryz.func167 (nb (by kernel_rfl)) (ne_of_beq (by kernel_rfl)) (by kernel_rfl) (by kernel_rfl) ?_
  intro xs sg out h
  unfold ovBString at h
  split at h
  case h_2 => cases h
  rename_i g
  intro G w args K hlen ha
  match args, hlen with
  | ⟨[v0]⟩, _ =>
  have hv := (ha 0 _ v0 rfl rfl).1
  cases hv with
  | @gp _ _ p hg =>
  have key : ∀ (B : Box) (x v : AVal), sg[g]? = some B → B.cells = [x, v] → bStr 5 v sg = some out → Calls Tryz.prog 167 #[.pointer (some ⟨p.1, 0, none⟩)] w fun e w' => ∃ G', Fr G w G' w' ∧ OutOK G' w' out e := by
    intro B x v hB hcs h
    obtain ⟨p2, j1, j2, ⟨arr2, T2, fr2, j3, j4, j5, j6⟩, hroom⟩ := K.gbox g _ hB (by rw [hcs]; simp)
    rw [hg] at j1; cases j1
    obtain ⟨u1, m1, m2, m3⟩ := j6 1 v (by rw [hcs]; rfl)
    exact bStr_ok K (by simp [World.cell?, j3, m1]) m2 h
  split at h
  · rename_i x v hB; exact key _ x v hB rfl h
  · rename_i t x v hB; exact key _ x v hB rfl h
  · cases h
end Go.Abs
