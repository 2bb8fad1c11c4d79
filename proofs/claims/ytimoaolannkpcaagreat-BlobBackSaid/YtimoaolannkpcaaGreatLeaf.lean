/- What the functions of the program come to, one after another: several texts joined. -/
import Derived.Tactics
import Derived.Tactics2
import Derived.Defers
import Derived.Recover
import Derived.Laws.Pointers
import Derived.Shelf.Strings.Builder1
import Derived.Test.YtimoaolannkpcaaGreatOvProof
import Derived.Test.YtimoaolannkpcaaGreatLayP
import Derived.Test.YtimoaolannkpcaaGreatOvDefs
import Derived.Test.YtimoaolannkpcaaGreatEngC
set_option linter.unusedVariables false
set_option linter.unusedSimpArgs false
set_option linter.unusedSectionVars false
namespace Go.Abs
open Go.Proofs Go.RowKit
set_option linter.unusedVariables false
set_option maxRecDepth 100000
theorem GRel.below {G : Gh} {sg : Sg} {w w' : World} (K : GRel G sg w) (B : Below w.heap.size w w') : GRel G sg w' ∧ Fr G w G w' := by
  refine ⟨⟨fun g b hb hne => ?_, K.gdom, fun g b hb ho => ?_, fun a v h => ?_, fun b o h => Nat.lt_of_lt_of_le (K.ownlt b o h) B.size, K.ownG⟩,
    ⟨B.os, B.tape, B.output, B.size, fun _ _ h => h, fun _ _ h => h, fun b hb ho => ⟨B.block b hb, ho, fun _ _ => rfl⟩⟩⟩
  · obtain ⟨p, h1, h2, h3, h4⟩ := K.gbox g b hb hne
    have e := B.block p.1 (K.ownlt _ _ h2)
    obtain ⟨arr, T, fr, q1, q2⟩ := h3
    exact ⟨p, h1, h2, ⟨arr, T, fr, e.trans q1, q2⟩, h4.same e⟩
  · obtain ⟨p, h1, h2, h3⟩ := K.gobj g b hb ho
    exact ⟨p, h1, h2, h3.mono (B.block p.1 (K.ownlt _ _ h2)) (fun _ _ h => h) (fun _ _ h => h)⟩
  · obtain ⟨h1, h2, h3⟩ := K.frz a v h
    have hlt : a.block < w.heap.size := by
      unfold World.cell? at h1
      cases hh : w.heap[a.block]? with
      | none => simp [hh] at h1
      | some _ => exact (Array.getElem?_eq_some_iff.1 hh).1
    exact ⟨(B.cell hlt).trans h1, h2, h3⟩
theorem cntB_eq (b : UInt8) : ∀ l : List UInt8, cntB b l = Go.Lib.countByte l b
  | [] => rfl
  | x :: l => by
    simp only [cntB, Go.Lib.countByte, List.count_cons]
    have ih := cntB_eq b l
    simp only [Go.Lib.countByte] at ih
    cases h : Nat.beq x.toNat b.toNat with
    | true =>
      have e : x = b := UInt8.toNat_inj.1 (Nat.eq_of_beq_eq_true h)
      simp [e, ih]
    | false =>
      have e : x ≠ b := by rintro rfl; simp at h
      simp [e, ih]
theorem repB_eq (l : List UInt8) : ∀ n, repB l n = Go.Lib.repeatL l n
  | 0 => rfl
  | n + 1 => by simp only [repB, Go.Lib.repeatL, repB_eq l n]
theorem arg_is {xs : List AVal} {args : Array Value} {G : Gh} (h : ∀ (i : Nat) a v, xs[i]? = some a → args[i]? = some v → VR G.Z G.ι a v ∧ ∀ vs, a ≠ .tup vs) {i : Nat} {v u : Value} (h1 : xs[i]? = some (.at v)) (h2 : args[i]? = some u) : u = v := at_eq (h i _ _ h1 h2).1
theorem leafL {f : Nat} {fn : Func} {g : List AVal → Sg → R} (hf : Tryz.prog.funcs[f]? = some fn) (h3 : fn.body ≠ none) (h4 : fn.name ≠ "runtime.NumGoroutine") (hl : Nat.blt f yBase = true) (hr : YTab.ro f = false)
    (hg : ∀ xs sg out, g xs sg = some out → CallOK Tryz.prog f xs sg out) : Good f (fun _ _ xs sg => g xs sg) := by
  intro C N xs sg out _ h
  refine ⟨⟨fun _ => ⟨⟨fn, hf, h3, h4⟩, hg xs sg out h⟩, fun k hk => ?_⟩, fun hh => ?_⟩
  · have : f < yBase := Nat.blt_eq ▸ hl
    omega
  · rw [hr] at hh; cases hh
theorem leafCount : Good 384 (fun _ _ xs sg => ovCount xs sg) := by
  refine leafL Tryz.func384 (nb (by kernel_rfl)) (ne_of_beq (by kernel_rfl)) (by kernel_rfl) (by kernel_rfl) ?_
  intro xs sg out h
  unfold ovCount at h
  split at h
  case h_2 => cases h
  rename_i s b
  cases h
  intro G w args K hlen ha
  match args, hlen with
  | ⟨[v0, v1]⟩, _ =>
    obtain rfl := arg_is ha (i := 0) rfl rfl
    obtain rfl := arg_is ha (i := 1) rfl rfl
    refine (Tryz.strings_Count_one s b w).mono ?_
    rintro e w' ⟨rfl, rfl⟩
    exact ⟨G, Fr.refl _ _, _, rfl, by rw [cntB_eq]; exact .at rfl, K⟩
theorem leafRepeat : Good 230 (fun _ _ xs sg => ovRepeat xs sg) := by
  refine leafL Tryz.func230 (nb (by kernel_rfl)) (ne_of_beq (by kernel_rfl)) (by kernel_rfl) (by kernel_rfl) ?_
  intro xs sg out h
  unfold ovRepeat at h
  split at h
  case h_2 => cases h
  rename_i s n
  obtain ⟨⟨h1, h0, h2⟩, h3⟩ := if_some h
  cases h3
  intro G w args K hlen ha
  match args, hlen with
  | ⟨[v0, v1]⟩, _ =>
    obtain rfl := arg_is ha (i := 0) rfl rfl
    obtain rfl := arg_is ha (i := 1) rfl rfl
    have hn : n = ((n.toNat : Nat) : Int) := by omega
    rw [hn]
    refine (Tryz.strings_Repeat s n.toNat w (by omega) (by simpa using h2)).mono ?_
    rintro e w' ⟨rfl, hb⟩
    obtain ⟨K', F'⟩ := K.below hb
    exact ⟨G, F', _, rfl, by rw [repB_eq]; exact .at rfl, K'⟩
end Go.Abs
namespace Go.Abs
open Go.Proofs Go.RowKit Go.Maps Go.Sort Go.Shelf
open Go.WideElems (Fit rd rg pl)
set_option linter.unusedVariables false
set_option maxRecDepth 100000
theorem sortsA (m : Nat) : AnyZI.SortsIn Tryz.prog Tryz.sortedA_ren Fence.wide m :=
  ⟨fun blk off cap ss W hH hblk hsz => callsIn_wide.2 (Tryz.slices_Sort_int blk off cap ss W hH hblk hsz),
   fun p cap W => callsIn_wide.2 (Tryz.slices_Sort_int_none p cap W)⟩
theorem insI_perm (x : Int) : ∀ l, (insI x l).Perm (x :: l)
  | [] => .refl _
  | y :: l => by
    unfold insI
    split
    · exact .refl _
    · exact ((insI_perm x l).cons y).trans (.swap x y l)
theorem sortI_perm : ∀ l, (sortI l).Perm l
  | [] => .refl _
  | x :: l => (insI_perm x (sortI l)).trans ((sortI_perm l).cons x)
theorem insI_sorted (x : Int) : ∀ {l : List Int}, l.Pairwise (· ≤ ·) → (insI x l).Pairwise (· ≤ ·)
  | [], _ => by simp [insI]
  | y :: l, h => by
    unfold insI
    rw [List.pairwise_cons] at h
    split
    · rename_i hxy
      rw [List.pairwise_cons, List.pairwise_cons]
      exact ⟨fun z hz => by rcases List.mem_cons.1 hz with rfl | hz; exact hxy; exact Int.le_trans hxy (h.1 z hz), h⟩
    · rename_i hxy
      rw [List.pairwise_cons]
      refine ⟨fun z hz => ?_, insI_sorted x h.2⟩
      rcases List.mem_cons.1 ((insI_perm x l).mem_iff.1 hz) with rfl | hz
      · omega
      · exact h.1 z hz
theorem sortI_sorted : ∀ l, (sortI l).Pairwise (· ≤ ·)
  | [] => .nil
  | x :: l => insI_sorted x (sortI_sorted l)
theorem sortI_eq {ss l : List Int} (h : ss.Perm l) : ss.mergeSort (fun x y => decide (x ≤ y)) = sortI l := by
  have tr : ∀ a b c : Int, leI a b = true → leI b c = true → leI a c = true := fun a b c h1 h2 => by simp only [leI, decide_eq_true_eq] at *; exact Int.le_trans h1 h2
  have tt : ∀ a b : Int, (leI a b || leI b a) = true := fun a b => by simp only [leI, Bool.or_eq_true, decide_eq_true_eq]; exact Int.le_total a b
  refine List.Perm.eq_of_pairwise (le := fun a b => leI a b = true) (fun a b _ _ h1 h2 => ?_) (List.pairwise_mergeSort tr tt ss) ((sortI_sorted l).imp fun h => by simpa [leI] using h) (((List.mergeSort_perm ss leI).trans h).trans (sortI_perm l).symm)
  simp only [leI, decide_eq_true_eq] at h1 h2
  exact Int.le_antisymm h1 h2
def RU : Value → Option (DataW Unit × List MemPlace) := fun _ => some (.nil, [])
def KeysGive (kf : FuncId) : Prop := (∀ args w, (callFunc kf args).run Tryz.prog w = .ok (.enter kf args) w) ∧ ∀ (bp bm N : Nat) (D : DataW Unit) (w : World), bp < w.heap.size → w.cell? ⟨bp, 0, none⟩ = some (.map (some bm)) → w.ownsMap Tryz.prog 3 RU bm N D →
  SeqGives Fence.wide 2 Tryz.prog kf #[.pointer (some ⟨bp, 0, none⟩)] encZ (fun ss => ss.Perm (intKeys D)) (Maps.size D) w
theorem keysA_give : KeysGive 331 := ⟨enters_of Tryz.func331 (by kernel_rfl) rfl, fun bp bm N D w h1 h2 h3 => AnyZI.keys_gives (ρ := Tryz.keysA_ren) { Tryz.keysA with } Fence.wide _ trivial rfl (by omega) bp bm N _ _ h1 h2 h3⟩
theorem keysB_give : KeysGive 320 := ⟨enters_of Tryz.func320 (by kernel_rfl) rfl, fun bp bm N D w h1 h2 h3 => AnyZI.keys_gives (ρ := Tryz.keysB_ren) { Tryz.keysB with } Fence.wide _ trivial rfl (by omega) bp bm N _ _ h1 h2 h3⟩
theorem keysFn_give {f : Nat} (h : keysFn f = true) : KeysGive f := by
  simp only [keysFn, Bool.or_eq_true] at h
  rcases h with h | h
  · rw [Nat.eq_of_beq_eq_true h]; exact keysA_give
  · rw [Nat.eq_of_beq_eq_true h]; exact keysB_give
theorem keysI_spec : ∀ {es : List (AVal × AVal)} {ks : List Int}, keysI es = some ks → es.map (·.1) = ks.map fun n => .at (.int .i64 n)
  | [], ks, h => by cases h; rfl
  | e :: es, ks, h => by
    unfold keysI at h
    split at h
    · rename_i h0; cases h0
    · rename_i n va l heq
      cases heq
      split at h
      · rename_i r hr
        cases h
        simp [keysI_spec hr]
      · cases h
    · cases h
theorem sortedN {w : World} {bp bm clk kf : Nat} {arr : Array MapEntry} {ks : List Int} (hkf : KeysGive kf) (hbp : bp < w.heap.size) (hc : w.cell? ⟨bp, 0, none⟩ = some (.map (some bm))) (hm : w.heap[bm]? = some (.map arr clk)) (hst : Go.MapKept.Stamped arr clk)
    (hk : arr.toList.map (·.key) = ks.map encZ) (hn : ∀ n ∈ ks, -9223372036854775808 ≤ n ∧ n ≤ 9223372036854775807) (hsz : ks.length ≤ 1048576) :
    Calls Tryz.prog 226 #[.func (.func kf) #[] #[.pointer (some ⟨bp, 0, none⟩)]] w fun en w' => ∃ v, en = .returned v ∧ w'.ownsRow w.heap.size 3 1 v ks.length ((sortI ks).map encZ) ∧ (v = .slice none 0 0 ↔ ks = []) ∧ Below w.heap.size w w' := by
  have hlen : arr.size = ks.length := by
    have := congrArg List.length hk
    simpa using this
  have hkey : ∀ (i : Nat) e n, arr.toList[i]? = some e → ks[i]? = some n → rd Tryz.prog 3 RU e = some (.int .i64 n, .nil) := by
    intro i e n h1 h2
    have h3 : (arr.toList.map (·.key))[i]? = (ks.map encZ)[i]? := by rw [hk]
    rw [List.getElem?_map, List.getElem?_map, h1, h2] at h3
    have h4 : e.key = .int .i64 n := by simpa [encZ] using h3
    have hwf : (Lit.int .i64 n).wf = true := by
      have := hn n (List.mem_of_getElem? h2)
      simp [Lit.wf, IntKind.min, IntKind.max, IntKind.signed, IntKind.bits]; omega
    have hkk : keyOf Tryz.prog 3 e.key = some (.int .i64 n) := by rw [h4]; exact keyOf_int_mk Tryz.underlying3 hwf
    unfold Go.WideElems.rd; rw [hkk]; rfl
  have hmap : (arr.toList.map (rg Tryz.prog 3 RU)).map (fun p => intOf p.1) = ks := by
    apply List.ext_getElem?
    intro i
    rw [List.getElem?_map, List.getElem?_map]
    cases h1 : arr.toList[i]? with
    | none =>
      have h2 : ks[i]? = none := by
        rw [List.getElem?_eq_none_iff] at h1 ⊢
        simp at h1; omega
      rw [h2]; rfl
    | some e =>
      obtain ⟨n, h2⟩ : ∃ n, ks[i]? = some n := by
        have := (List.getElem?_eq_some_iff.1 h1).1
        simp at this
        exact ⟨_, List.getElem?_eq_getElem (by omega)⟩
      have hrd := hkey i e n h1 h2
      have hrg : rg Tryz.prog 3 RU e = (.int .i64 n, .nil) := by unfold Go.WideElems.rg; rw [hrd]; rfl
      rw [h2, Option.map_some, Option.map_some, hrg]; rfl
  let D : DataW Unit := .map ((arr.toList.map (rg Tryz.prog 3 RU)).foldr DataW.insert [])
  have hperm : (intKeys D).Perm ks := by
    show (((arr.toList.map (rg Tryz.prog 3 RU)).foldr DataW.insert []).map fun p => intOf p.1).Perm ks
    have h := (Go.WideShapes.sorted_perm (arr.toList.map (rg Tryz.prog 3 RU))).map (fun p => intOf p.1)
    rw [hmap] at h
    exact h
  have hsize : Maps.size D = ks.length := by
    show ((arr.toList.map (rg Tryz.prog 3 RU)).foldr DataW.insert []).length = _
    rw [Go.length_sorted]; simp [hlen]
  have hown : w.ownsMap Tryz.prog 3 RU bm ks.length D :=
    ⟨arr, clk, hm, ⟨by simp [maxLen]; omega, hst, fun x hx => by
      obtain ⟨i, hi⟩ := List.getElem?_of_mem hx
      obtain ⟨n, h2⟩ : ∃ n, ks[i]? = some n := by
        have := (List.getElem?_eq_some_iff.1 hi).1
        simp at this
        exact ⟨_, List.getElem?_eq_getElem (by omega)⟩
      exact ⟨_, hkey i x n hi h2⟩⟩, by omega, rfl⟩
  have hseq := hkf.2 bp bm _ D w hbp hc hown
  have cS := AnyZI.sorted_in Tryz.sortedA Fence.wide 5 trivial trivial trivial trivial rfl (by omega) (sortsA _) (enters_of Tryz.func319 (by kernel_rfl) rfl) kf #[.pointer (some ⟨bp, 0, none⟩)] trivial hkf.1 _ _ (by rw [hsize]; simp [maxLen]; omega) (by rw [hsize]; omega) _ hseq
  change CallsIn _ _ Tryz.prog 226 _ _ _ at cS
  refine (callsIn_wide.1 cS).mono ?_
  rintro en w' ⟨v, ss, rfl, hS, hrow, hnil, hb⟩
  have hp : ss.Perm ks := List.Perm.trans hS hperm
  rw [sortI_eq hp, hp.length_eq] at hrow
  refine ⟨v, rfl, hrow, hnil.trans ⟨?_, ?_⟩, hb⟩
  · rintro rfl; exact hp.symm.eq_nil
  · rintro rfl; exact hp.eq_nil
theorem GRel.newBox {G : Gh} {sg : Sg} {w w' : World} (K : GRel G sg w) (B : Below w.heap.size w w') {b : Nat} {arr : Array Value} {T : TypeId} {cs : List AVal} (hb : w.heap.size ≤ b) (hb2 : b < w'.heap.size) (hh : w'.heap[b]? = some (.cells arr T (0, 0))) (hl : cs.length ≤ arr.size)
    (hr : ∀ (j : Nat) c, cs[j]? = some c → ∃ u, arr[j]? = some u ∧ VR G.Z G.ι c u ∧ one u = true) :
    ∃ G', GRel G' (sg ++ [.mk cs]) w' ∧ Fr G w G' w' ∧ G'.ι sg.length = some (b, 0, arr.size) := by
  obtain ⟨K', F'⟩ := K.below B
  let G' : Gh := { G with ι := fun i => if i = sg.length then some (b, 0, arr.size) else G.ι i, own := fun c => if c = b then some (.gbox sg.length) else G.own c }
  have hnone : G.ι sg.length = none := K.gdom _ (Nat.le_refl _)
  have hι : ∀ g b, G.ι g = some b → G'.ι g = some b := fun g b h => by
    have : g ≠ sg.length := by rintro rfl; rw [hnone] at h; cases h
    simp [G', this, h]
  have hlt : ∀ c oo, G.own c = some oo → c ≠ b := fun c oo h => by have := K.ownlt c oo h; omega
  have hown : ∀ c oo, G.own c = some oo → G'.own c = some oo := fun c oo h => by simp [G', hlt c oo h, h]
  refine ⟨G', ⟨fun g B' hB' hne => ?_, fun g hg => ?_, fun g B' hB' ho => ?_, fun a v h => ?_, fun c o h => ?_, fun c o h => ?_⟩,
    ⟨F'.os, F'.tape, F'.output, F'.size, fun _ _ h => h, hι, fun c hc ho => ⟨B.block c hc, by simp [G', ho]; omega, fun _ _ => rfl⟩⟩, by simp [G']⟩
  · by_cases hg : g < sg.length
    · rw [List.getElem?_append_left hg] at hB'
      obtain ⟨p, h1, h2, ⟨arr1, T1, fr1, q1, q2, q3, q4⟩, h4⟩ := K'.gbox g B' hB' hne
      exact ⟨p, hι _ _ h1, hown _ _ h2, ⟨arr1, T1, fr1, q1, q2, q3, fun j c hc => by obtain ⟨u, r1, r2, r3⟩ := q4 j c hc; exact ⟨u, r1, r2.mono (fun _ _ h => h) hι, r3⟩⟩, h4⟩
    · have hg' : g = sg.length := by
        have := (List.getElem?_eq_some_iff.1 hB').1
        simp at this; omega
      subst hg'
      simp at hB'
      subst hB'
      exact ⟨(b, 0, arr.size), by simp [G'], by simp [G'], ⟨arr, T, (0, 0), hh, ⟨(by show 0 + cs.length ≤ arr.size; omega), .inl rfl⟩, fun j _ => by simp, fun j c hc => by obtain ⟨u, r1, r2, r3⟩ := hr j c hc; exact ⟨u, (by show arr[0 + j]? = _; rw [Nat.zero_add]; exact r1), r2.mono (fun _ _ h => h) hι, r3⟩⟩, ⟨arr, T, (0, 0), hh, (Nat.zero_add _).symm⟩⟩
  · have hg1 : sg.length + 1 ≤ g := by simpa using hg
    have : g ≠ sg.length := by omega
    simp only [G', this, if_false]
    exact K.gdom g (by omega)
  · by_cases hg : g < sg.length
    · rw [List.getElem?_append_left hg] at hB'
      obtain ⟨p, h1, h2, h3⟩ := K'.gobj g B' hB' ho
      exact ⟨p, hι _ _ h1, hown _ _ h2, h3.mono rfl (fun _ _ h => h) hι⟩
    · have hg' : g = sg.length := by
        have := (List.getElem?_eq_some_iff.1 hB').1
        simp at this; omega
      subst hg'
      simp at hB'
      subst hB'
      cases ho
  · obtain ⟨h1, h2, h3⟩ := K'.frz a v h
    refine ⟨h1, h2, ?_⟩
    have hlt : a.block < w.heap.size := by
      have h0 := (K.frz a v h).1
      unfold World.cell? at h0
      cases hh : w.heap[a.block]? with
      | none => simp [hh] at h0
      | some _ => exact (Array.getElem?_eq_some_iff.1 hh).1
    have : a.block ≠ b := by omega
    simp [G', this, h3]
  · simp only [G'] at h
    split at h
    · rename_i e; rw [e]; exact hb2
    · exact K'.ownlt c o h
  · simp only [G'] at h
    split at h
    · cases h; exact ⟨_, rfl⟩
    · exact K'.ownG c o h
theorem leafSortedN : Good 226 (fun _ _ xs sg => ovSortedN xs sg) := by
  refine leafL Tryz.func226 (nb (by kernel_rfl)) (ne_of_beq (by kernel_rfl)) (by kernel_rfl) (by kernel_rfl) ?_
  intro xs sg out h
  unfold ovSortedN at h
  split at h
  case h_2 => cases h
  rename_i f g
  obtain ⟨hf, h⟩ := bif_some h
  have hkf := keysFn_give hf
  split at h
  case h_2 => cases h
  rename_i m hg
  split at h
  case h_2 => cases h
  rename_i es hm
  split at h
  case h_2 => cases h
  rename_i ks hks
  obtain ⟨hcond, h⟩ := bif_some h
  simp only [Bool.and_eq_true, List.all_eq_true] at hcond
  have hn : ∀ n ∈ ks, -9223372036854775808 ≤ n ∧ n ≤ 9223372036854775807 := fun n hx => by
    have := hcond.1 n hx
    simpa [inI64] using this
  have hsz : ks.length ≤ 1048576 := Nat.le_of_ble_eq_true hcond.2
  intro G w args K hlen ha
  match args, hlen with
  | ⟨[v0]⟩, _ =>
    have hv := (ha 0 _ v0 rfl rfl).1
    cases hv with
    | @clo _ _ _ vf vc hl1 hh1 hl2 hh2 _ =>
      have e1 : vf = #[] := by apply Array.eq_empty_of_size_eq_zero; simpa using hl1.symm
      obtain ⟨p, rfl⟩ : ∃ p, vc = #[p] := by
        have : vc.size = 1 := by simpa using hl2.symm
        exact ⟨vc[0], by apply Array.ext <;> simp [this]; intro i hi; have : i = 0 := by omega
                         subst this; rfl⟩
      subst e1
      have hp := hh2 0 _ p rfl rfl
      cases hp with
      | @gp _ _ b hb =>
        obtain ⟨b', k1, k2, ⟨arr, T, fr, q1, q2, q3, q4⟩, k4⟩ := K.gbox g _ hg (by simp)
        rw [hb] at k1; cases k1
        obtain ⟨u, r1, r2, r3⟩ := q4 0 _ rfl
        cases r2 with
        | @gm _ bm hbm =>
          obtain ⟨bm', m1, m2, marr, clk, m3, m4, m5, m6⟩ := K.gobj m _ hm rfl
          rw [hbm] at m1; cases m1
          have hb0 : b.2.1 = 0 := by
            rcases q2.2 with h | h
            · exact h
            · exact absurd h.1 (show ¬ 2 ≤ 1 by decide)
          have hcell : w.cell? ⟨b.1, 0, none⟩ = some (.map (some bm.1)) := by
            rw [hb0] at r1
            simp [World.cell?, q1, r1]
          rw [hb0]
          have hkeys : marr.toList.map (·.key) = ks.map encZ := by
            have hsp := keysI_spec hks
            have hl : es.length = ks.length := by simpa using congrArg List.length hsp
            apply List.ext_getElem?
            intro i
            rw [List.getElem?_map, List.getElem?_map]
            cases h1 : es[i]? with
            | none =>
              have h0 : es.length ≤ i := List.getElem?_eq_none_iff.1 h1
              have e1 : marr.toList[i]? = none := List.getElem?_eq_none_iff.2 (by simp; omega)
              have e2 : ks[i]? = none := List.getElem?_eq_none_iff.2 (by omega)
              rw [e1, e2]; rfl
            | some pe =>
              have h0 : i < es.length := (List.getElem?_eq_some_iff.1 h1).1
              obtain ⟨e, he⟩ : ∃ e, marr[i]? = some e := ⟨_, Array.getElem?_eq_getElem (by omega)⟩
              obtain ⟨n, hn⟩ : ∃ n, ks[i]? = some n := ⟨_, List.getElem?_eq_getElem (by omega)⟩
              have hE := (m5 i pe e h1 he).1
              have h3 : (es.map (·.1))[i]? = (ks.map fun n => AVal.at (.int .i64 n))[i]? := by rw [hsp]
              rw [List.getElem?_map, List.getElem?_map, h1, hn] at h3
              have h4 : pe.1 = .at (.int .i64 n) := by simpa using h3
              rw [h4] at hE
              have h5 : e.key = .int .i64 n := at_eq hE
              rw [Array.getElem?_toList, he, hn]
              simp [h5, encZ]
          refine (sortedN hkf (K.ownlt _ _ k2) hcell m3 m6 hkeys hn hsz).mono ?_
          rintro en w' ⟨v, rfl, hrow, hnil, hbel⟩
          split at h
          · cases h
            have hv0 : v = .slice none 0 0 := hnil.2 rfl
            subst hv0
            obtain ⟨K', F'⟩ := K.below hbel
            exact ⟨G, F', _, rfl, .nil, K'⟩
          · rename_i k0 kl _
            cases h
            obtain ⟨_, ⟨hz1, hz⟩ | ⟨gb, cap, cur, rfl, s1, s2, s3, s4, s5, s6⟩⟩ := hrow
            · exact absurd (hnil.1 hz1) (by simp)
            · have hlen2 : (sortI (k0 :: kl)).length = (k0 :: kl).length := (sortI_perm _).length_eq
              obtain ⟨G', K', F', hi⟩ := K.newBox hbel (cs := (sortI (k0 :: kl)).map fun n => .at (.int .i64 n)) s1 (Array.getElem?_eq_some_iff.1 s2).1 s2 (by
                  have := congrArg List.length s6
                  simp at this ⊢; omega) (fun j c hc => by
                rw [List.getElem?_map] at hc
                cases hj : (sortI (k0 :: kl))[j]? with
                | none => rw [hj] at hc; cases hc
                | some n =>
                  rw [hj] at hc
                  cases hc
                  have h7 : (((sortI (k0 :: kl)).map encZ))[j]? = some (encZ n) := by rw [List.getElem?_map, hj]; rfl
                  have hjl : j < (sortI (k0 :: kl)).length := (List.getElem?_eq_some_iff.1 hj).1
                  refine ⟨.int .i64 n, ?_, .at rfl, rfl⟩
                  have := congrArg (·[j]?) s6
                  simp only [h7] at this
                  rw [List.getElem?_take, if_pos (by rw [Nat.mul_one, ← hlen2]; exact hjl), Array.getElem?_toList] at this
                  exact this)
              exact ⟨G', F', _, rfl, .gs hi s3 (by simp; omega), K'⟩
end Go.Abs
namespace Go.Abs
open Go.Proofs Go.RowKit
set_option linter.unusedVariables false
set_option linter.unusedSimpArgs false
set_option maxRecDepth 100000
theorem ta_run (v : Value) (w : World) : (Instr.typeAssert (.iface 182 v) 20 182 true).run Tryz.prog w = .ok (.tuple #[v, .bool true]) w := by
  simp [Instr.typeAssert, go_sem, Tryz.underlying182]
set_option maxHeartbeats 4000000 in
theorem catch_panicking (p : Addr) (x n : Int) (older : List PanicEntry) (w : World) (hc : w.cell? p = some (.int .i64 x)) (hz : w.frozen? p = false) (hp : p.block < w.heap.size) :
    CallsD Tryz.prog 225 #[.pointer (some p)] (.panicking ({ v := .iface 182 (.agg #[.int .i64 n]), recovered := false } :: older)) w fun e u' w' =>
      e = .returned (.tuple #[]) ∧ u' = .panicking ({ v := .iface 182 (.agg #[.int .i64 n]), recovered := true } :: older) ∧ w' = (w.alloc (.cells #[.int .i64 n] 182)).setCell p (.int .i64 n) := by
  refine callsD_of_wpS Tryz.func225 rfl fun c₀ cs hu => ?_
  apply wpS_seq
  apply wpS_region
  simp [wpOpsS, go_sem, recoverD, hu, Tryz.ntmps225, Exit.thenS]
  refine wpS_of_wp ?_
  have hta := ta_run
  have hz2 : (w.alloc (Obj.cells #[Value.int IntKind.i64 n] 182)).frozen? p = false := (World.frozen?_alloc_old w _ p (by omega)).trans hz
  go_wp2
  cases c₀
  simp_all [bodyPostS, results, Tryz.results225]
theorem catch_idle (p : Addr) (w : World) :
    CallsD Tryz.prog 225 #[.pointer (some p)] .returning w fun e u' w' => e = .returned (.tuple #[]) ∧ u' = .returning ∧ w' = w := by
  refine callsD_of_wpS Tryz.func225 rfl fun c₀ cs hu => ?_
  apply wpS_seq
  apply wpS_region
  simp [wpOpsS, go_sem, recoverD, hu, Tryz.ntmps225, Exit.thenS]
  refine wpS_of_wp ?_
  go_wp2
  cases c₀
  simp_all [bodyPostS, results, Tryz.results225]
theorem GRel.own0 {G : Gh} {sg : Sg} {w w' : World} (K : GRel G sg w) {b : Nat} (hb : G.own b = none) (hZ : ∀ j s, G.Z ⟨b, j, s⟩ = none) (hs : w.heap.size ≤ w'.heap.size) (hne : ∀ c, c < w.heap.size → c ≠ b → w'.heap[c]? = w.heap[c]?) : GRel G sg w' := by
  have hob : ∀ c o, G.own c = some o → c ≠ b := by rintro c o h rfl; rw [hb] at h; cases h
  refine ⟨fun g B hB hn => ?_, K.gdom, fun g B hB ho => ?_, fun a v h => ?_, fun c o h => Nat.lt_of_lt_of_le (K.ownlt c o h) hs, K.ownG⟩
  · obtain ⟨p, h1, h2, h3, h4⟩ := K.gbox g B hB hn
    have e := hne p.1 (K.ownlt _ _ h2) (hob _ _ h2)
    obtain ⟨arr, T, fr, q1, q2⟩ := h3
    exact ⟨p, h1, h2, ⟨arr, T, fr, e.trans q1, q2⟩, h4.same e⟩
  · obtain ⟨p, h1, h2, h3⟩ := K.gobj g B hB ho
    have e := hne p.1 (K.ownlt _ _ h2) (hob _ _ h2)
    exact ⟨p, h1, h2, h3.mono e (fun _ _ h => h) (fun _ _ h => h)⟩
  · obtain ⟨h1, h2, h3⟩ := K.frz a v h
    have hlt := cell_lt h1
    have hab : a.block ≠ b := by
      rintro rfl
      rw [hZ] at h; cases h
    exact ⟨(cell_same (hne a.block hlt hab)).trans h1, h2, h3⟩
theorem try_ok {C : CallF} (hC : SoundC Tryz.prog C) {N : Nat} {xs : List AVal} {sg : Sg} {out : Out} (h : ovTry C N xs sg = some out) : CallOK Tryz.prog 121 xs sg out := by
  unfold ovTry at h
  split at h
  case h_2 => cases h
  rename_i ha f first cap
  intro G w args K hlen hargs
  match args, hlen with
  | ⟨[v0, v1]⟩, _ =>
    have hv0 := hargs 0 _ v0 rfl rfl
    have hv1 := (hargs 1 _ v1 rfl rfl).1
    cases hv1 with
    | @clo _ _ _ vf vc hl1 hh1 hl2 hh2 ht =>
    have hmf : ∀ (fn : Go.Fn) (first cap : Array Value) (w : World), (Instr.makeFunc fn first cap).run Tryz.prog w = .ok (.func fn first cap) w := fun _ _ _ _ => rfl
    show Calls Tryz.prog 121 #[v0, _] w _
    obtain ⟨o1, ho1⟩ : ∃ o1, callC C f (first ++ ha :: cap) sg = some o1 := by
      cases hcc : callC C f (first ++ ha :: cap) sg with
      | none => rw [hcc] at h; cases h
      | some o1 => exact ⟨o1, rfl⟩
    rw [ho1] at h
    obtain ⟨hE, hCO⟩ := hC.call ho1
    let w1 := w.alloc (Obj.cells #[Value.int IntKind.i64 0] 35)
    have hw1 : w1 = w.alloc (Obj.cells #[Value.int IntKind.i64 0] 35) := rfl
    have hb1 : Below w.heap.size w w1 := (Below.refl w.heap.size w).alloc (Nat.le_refl _) _
    obtain ⟨K1, F1⟩ := K.below hb1
    have hcl : (callFunc f (vf.push v0 ++ vc)).run Tryz.prog w1 = .ok (.enter f (vf.push v0 ++ vc)) w1 := callFunc_run hE _ _
    have hown : G.own w.heap.size = none := by
      cases ho : G.own w.heap.size with
      | none => rfl
      | some o => have := K.ownlt _ _ ho; omega
    have hZ : ∀ j s, G.Z ⟨w.heap.size, j, s⟩ = none := fun j s => by
      cases hz : G.Z ⟨w.heap.size, j, s⟩ with
      | none => rfl
      | some v => have := cell_lt (K.frz _ _ hz).1; simp at this
    have hsz1 : w.heap.size < w1.heap.size := by simp [hw1, go_sem]
    have hlen' : (first ++ ha :: cap).length = (vf.push v0 ++ vc).size := by simp [hl1, hl2]; omega
    have hvals : ∀ (i : Nat) a v, (first ++ ha :: cap)[i]? = some a → (vf.push v0 ++ vc)[i]? = some v → VR G.Z G.ι a v ∧ ∀ vs, a ≠ .tup vs := by
      intro i aa v e1 e2
      have hh := hargs 0 ha v0 rfl rfl
      rw [List.getElem?_append] at e1
      rw [Array.getElem?_append, Array.getElem?_push, Array.size_push, ← hl1] at e2
      split at e1
      · rename_i hlt
        rw [if_pos (by omega), if_neg (by omega)] at e2
        exact ⟨hh1 i aa v e1 e2, ht aa (List.mem_append.2 (.inl (List.mem_of_getElem? e1)))⟩
      · rename_i hlt
        cases hi : i - first.length with
        | zero =>
          have hi2 : i = first.length := by omega
          rw [if_pos (by omega), if_pos hi2] at e2
          rw [hi] at e1
          simp at e1 e2
          subst e1; subst e2; exact hh
        | succ m =>
          rw [if_neg (by omega)] at e2
          rw [hi] at e1
          have hm : i - (first.length + 1) = m := by omega
          rw [hm] at e2
          simp only [List.getElem?_cons_succ] at e1
          exact ⟨hh2 m aa v e1 e2, ht aa (List.mem_append.2 (.inr (List.mem_of_getElem? e1)))⟩
    go_enter_defers Tryz.func121, Tryz.ntmps121
    go_wp2
    rw [hcl]
    refine (hCO G w1 (vf.push v0 ++ vc) K1 hlen' hvals).mono ?_
    rintro e w2 ⟨G1, F2, hO⟩
    have hnew : w1.heap[w.heap.size]? = some (.cells #[.int .i64 0] 35 (0, 0)) := (MapKept.heap_alloc w (.cells #[.int .i64 0] 35)).1
    have hblk := F2.rest w.heap.size hsz1 hown
    have hc2 : w2.cell? ⟨w.heap.size, 0, none⟩ = some (.int .i64 0) := by
      simp [World.cell?, hblk.1, hnew]
    have hz2 : w2.frozen? ⟨w.heap.size, 0, none⟩ = false := by
      simp [World.frozen?, hblk.1, hnew]
    have hset : ∀ (w : World) (p : Addr) (v : Value) (c : Nat), c ≠ p.block → (w.setCell p v).heap[c]? = w.heap[c]? := by
      intro w p v c hc
      simp only [World.setCell, Array.getElem?_modify]
      rw [if_neg (by omega)]
    have hssz : ∀ (w : World) (p : Addr) (v : Value), (w.setCell p v).heap.size = w.heap.size := by
      intro w p v; simp [World.setCell]
    have F3 := F1.trans F2
    have hle : w.heap.size < w2.heap.size := Nat.lt_of_lt_of_le hsz1 F2.size
    have shut : ∀ (w3 : World) (n : Int), w3.os = w2.os → w3.tape = w2.tape → w3.output = w2.output → w2.heap.size ≤ w3.heap.size → (∀ c, c < w2.heap.size → c ≠ w.heap.size → w3.heap[c]? = w2.heap[c]?) → ∀ sg', GRel G1 sg' w2 → ∃ G', Fr G w G' w3 ∧ OutOK G' w3 (.ret (.at (.int .i64 n)) sg') (.returned (.int .i64 n)) := by
      intro w3 n e1 e2 e3 e4 e5 sg' K2
      refine ⟨G1, ⟨e1.trans F3.os, e2.trans F3.tape, e3.trans F3.output, Nat.le_trans F3.size e4, F3.Z, F3.ι, fun b hb ho => ?_⟩, _, rfl, .at rfl, K2.own0 hblk.2.1 (fun j s => (hblk.2.2 j s).trans (hZ j s)) e4 e5⟩
      obtain ⟨q1, q2, q3⟩ := F3.rest b hb ho
      exact ⟨(e5 b (by omega) (by omega)).trans q1, q2, q3⟩
    cases o1 with
    | ret v sg' =>
      obtain ⟨u, rfl, hu, K2⟩ := hO
      cases h
      go_wp2
      refine leaves_cons (f := 225) (args := #[.pointer (some ⟨w.heap.size, 0, none⟩)]) (by simp) (by simp [go_sem]) ?_
      refine (catch_idle _ _).mono ?_
      rintro e u' w3 ⟨rfl, rfl, rfl⟩
      have hc3 : (w2.setCell ⟨w.heap.size, 0, none⟩ (.int .i64 0)).cell? ⟨w.heap.size, 0, none⟩ = some (.int .i64 0) := by simp [go_sem, hc2]
      simp only [Leaves, settle, results, Tryz.results121]
      refine ⟨.int .i64 0, by simp [go_sem, hc3], ?_⟩
      exact shut (w2.setCell ⟨w.heap.size, 0, none⟩ (.int .i64 0)) 0 rfl rfl rfl (by rw [hssz]; exact Nat.le_refl _) (fun c hc hn => hset _ _ _ _ hn) sg' K2
    | pan v sg' =>
      obtain ⟨u, rfl, hu, K2⟩ := hO
      split at h
      case h_1 => rename_i heq; cases heq
      case h_3 => cases h
      rename_i t n sg1 heq
      cases heq
      obtain ⟨h1, h2⟩ := bif_some h
      have h1 := Nat.eq_of_beq_eq_true h1
      subst h1
      cases h2
      cases hu with
      | @ifc _ _ vv hv =>
      cases hv with
      | @agg _ arr hl hh h1 =>
      obtain ⟨x, rfl⟩ : ∃ x, arr = #[x] := by
        have : arr.size = 1 := by simpa using hl.symm
        exact ⟨arr[0], by apply Array.ext <;> simp [this]; intro i hi; have : i = 0 := by omega
                          subst this; rfl⟩
      obtain rfl := at_eq (hh 0 _ x rfl rfl)
      go_wp2
      refine leaves_cons (f := 225) (args := #[.pointer (some ⟨w.heap.size, 0, none⟩)]) (by simp) (by simp [go_sem]) ?_
      refine (catch_panicking _ 0 n [] _ hc2 hz2 hle).mono ?_
      rintro e u' w3 ⟨rfl, rfl, rfl⟩
      have hc3 : ((w2.alloc (.cells #[.int .i64 n] 182)).setCell ⟨w.heap.size, 0, none⟩ (.int .i64 n)).cell? ⟨w.heap.size, 0, none⟩ = some (.int .i64 n) := by
        refine World.cell?_setCell_same _ _ _ (u := .int .i64 0) ?_
        rw [cell_same (Below.heap_alloc _ _ _ hle)]
        exact hc2
      have hres : (results Tryz.f121 #[v0, .func (.func f) vf vc, undef, undef, .pointer (some ⟨w.heap.size, 0, none⟩), .func (.func 225) #[] #[.pointer (some ⟨w.heap.size, 0, none⟩)], .func (.func f) vf vc, v0, undef]).run Tryz.prog ((w2.alloc (.cells #[.int .i64 n] 182)).setCell ⟨w.heap.size, 0, none⟩ (.int .i64 n)) = .ok (.int .i64 n) ((w2.alloc (.cells #[.int .i64 n] 182)).setCell ⟨w.heap.size, 0, none⟩ (.int .i64 n)) := by
        simp only [results, Tryz.results121]
        simp [go_sem, hc3]
      refine ⟨.int .i64 n, hres, ?_⟩
      exact shut ((w2.alloc (.cells #[.int .i64 n] 182)).setCell ⟨w.heap.size, 0, none⟩ (.int .i64 n)) n rfl rfl rfl (by rw [hssz]; simp [go_sem]) (fun c hc hn => (hset _ _ _ _ hn).trans (Below.heap_alloc _ _ _ hc)) sg' K2
theorem leafTry : Good 121 ovTry := by
  intro C N xs sg out hC h
  refine ⟨⟨fun _ => ⟨⟨_, Tryz.func121, nb (by kernel_rfl), ne_of_beq (by kernel_rfl)⟩, try_ok hC h⟩, fun k hk => ?_⟩, fun hh => ?_⟩
  · have : (121 : Nat) < yBase := by decide
    omega
  · have : YTab.ro 121 = false := by kernel_rfl
    rw [this] at hh; cases hh
end Go.Abs
namespace Go.Abs
open Go.Proofs Go.RowKit
set_option linter.unusedVariables false
set_option linter.unusedSimpArgs false
set_option maxRecDepth 100000
set_option maxHeartbeats 1000000 in
theorem cc_used (b o : Nat) (w : World) (h0 : w.cell? ⟨b, o, none⟩ = some (.pointer (some ⟨b, o, none⟩))) :
    Calls Tryz.prog 271 #[.pointer (some ⟨b, o, none⟩)] w fun e w' => e = .returned (.tuple #[]) ∧ w' = w := by
  have hj : Tryz.prog.info? 227 = some (Tryz.prog.info? 227).get! := by kernel_rfl
  go_enter Tryz.func271, Tryz.ntmps271
  go_wp2
  rw [Lib.run_neq_ptr_same w _ Tryz.underlying225 hj]
  go_wp2
  go_end0
  exact ⟨rfl, rfl⟩
set_option maxHeartbeats 1000000 in
theorem cc_fresh (b : Nat) (w : World) (h0 : w.cell? ⟨b, 0, none⟩ = some (.pointer none)) (hsh : w.shape? b = some (227, 2)) (hfz : w.frozen? ⟨b, 0, none⟩ = false) :
    Calls Tryz.prog 271 #[.pointer (some ⟨b, 0, none⟩)] w fun e w' => e = .returned (.tuple #[]) ∧ w' = w.setCell ⟨b, 0, none⟩ (.pointer (some ⟨b, 0, none⟩)) := by
  have hj : Tryz.prog.info? 227 = some (Tryz.prog.info? 227).get! := by kernel_rfl
  have hjs : (Tryz.prog.info? 227).get!.size ≠ 0 := by
    have : Nat.beq (Tryz.prog.info? 227).get!.size 0 = false := by kernel_rfl
    intro e; rw [e] at this; cases this
  have hlies : liesAt Tryz.prog Tryz.prog.depth 227 (2 / Tryz.prog.cellsOf 227) 0 227 1 = true := by kernel_rfl
  go_enter Tryz.func271, Tryz.ntmps271
  go_wp2
  rw [Lib.run_to_unsafe w ⟨b, 0, none⟩ Tryz.underlying225 Tryz.underlying416 hj hjs hsh (Nat.zero_lt_succ 1)]
  simp only [Result.andThen]
  rw [Oper.upon_value]
  go_wp2
  rw [run_callFunc_extern Tryz.func346 (by kernel_rfl) (by kernel_rfl) (by kernel_rfl) (e := Extern.AbiNoEscape.same) (by kernel_rfl)]
  rw [Lib.run_noEscape]
  simp only [Result.andThen]
  rw [Oper.upon_value]
  go_wp2
  rw [Lib.run_from_unsafe w ⟨b, 0, none⟩ Tryz.underlying416 Tryz.underlying225 hj hsh hlies]
  simp only [Result.andThen]
  rw [Oper.upon_value]
  go_wp2
  go_end0
  exact ⟨rfl, rfl⟩
set_option maxHeartbeats 1000000 in
theorem str_walk (b o g cap m : Nat) (l : List UInt8) (w : World) (h0 : l ≠ []) (hcap : l.length ≤ cap) (hmax : l.length ≤ 1099511627776) (c1 : w.cell? ⟨b, o + 1, none⟩ = some (.slice (some ⟨g, 0, none⟩) l.length cap))
    (hsh : w.shape? g = some (5, m)) (hlm : l.length ≤ m) (hcells : ∀ (j : Nat) (x : UInt8), l[j]? = some x → w.cell? ⟨g, j, none⟩ = some (.int .u8 x.toNat)) :
    Calls Tryz.prog 174 #[.pointer (some ⟨b, o, none⟩)] w fun e w' => e = .returned (.string ⟨l.toArray⟩) ∧ w' = w.drew.freeze ⟨g, 0, none⟩ l.length := by
  have L := Tryz.lays169
  have X := Tryz.Builder_Extra_169
  have hl0 : l.length ≠ 0 := by simpa using h0
  have c1 : w.drew.cell? ⟨b, o + 1, none⟩ = some (.slice (some ⟨g, 0, none⟩) l.length cap) := c1
  have hSD : (Builtin.unsafeSliceData_ #[(Tryz.lays169_ren.t 37)] (Tryz.lays169_ren.t 127) #[.slice (some ⟨g, 0, none⟩) l.length cap]).run Tryz.prog w.drew = .ok (.pointer (some ⟨g, 0, none⟩)) w.drew :=
    Lib.run_unsafeSliceData_row _ _ _ _ _ _ (by omega)
  have hUS : (Builtin.unsafeString_ #[(Tryz.lays169_ren.t 127), (Tryz.lays169_ren.t 3)] (Tryz.lays169_ren.t 9) #[.pointer (some ⟨g, 0, none⟩), .int .i64 l.length]).run Tryz.prog w.drew = .ok (.string ⟨l.toArray⟩) (w.drew.freeze ⟨g, 0, none⟩ l.length) := by
    refine Lib.run_unsafeString_row w.drew _ _ _ _ L.t127 X.cellsByte g m hsh l h0 (by omega) (by omega) ?_
    intro j x hx
    have e : (⟨g, 0, none⟩ : Addr).add j = ⟨g, j, none⟩ := by simp [Addr.add]; omega
    rw [e]
    exact hcells j x hx
  have mixed := L.mixed
  have t72 := L.t72; have a72 := L.a72; have z72 := L.z72; have v72 := L.v72; have u72 := run_underlying L.t72
  have t70 := L.t70; have a70 := L.a70; have z70 := L.z70; have v70 := L.v70; have u70 := run_underlying L.t70
  have t37 := L.t37; have a37 := L.a37; have z37 := L.z37; have v37 := L.v37; have u37 := run_underlying L.t37
  have t127 := L.t127; have a127 := L.a127; have z127 := L.z127; have v127 := L.v127; have u127 := run_underlying L.t127
  have t3 := L.t3; have a3 := L.a3; have z3 := L.z3; have v3 := L.v3; have u3 := run_underlying L.t3
  have t9 := L.t9; have a9 := L.a9; have z9 := L.z9; have v9 := L.v9; have u9 := run_underlying L.t9
  have t5 := X.t5; have a5 := X.a5; have z5 := X.z5; have v5 := X.v5; have u5 := run_underlying X.t5
  show Calls Tryz.prog (Tryz.lays169_ren.f 169) _ _ _
  go_enter L.f169, Body.n169_ntmps Tryz.lays169_ren
  go_wp2
  go_region_o
  all_goals (go_wp2; go_ret; exact ⟨rfl, rfl⟩)
set_option maxHeartbeats 2000000 in
theorem str_nil (b o : Nat) (w : World) (c1 : w.cell? ⟨b, o + 1, none⟩ = some (.slice none 0 0)) :
    Calls Tryz.prog 174 #[.pointer (some ⟨b, o, none⟩)] w fun e w' => e = .returned (.string ⟨#[]⟩) ∧ w' = w.drew := by
  have L := Tryz.lays169
  have X := Tryz.Builder_Extra_169
  have hUS := Any.unsafeString_none L X
  have c1 : w.drew.cell? ⟨b, o + 1, none⟩ = some (.slice none 0 0) := c1
  have hSD : (Builtin.unsafeSliceData_ #[(Tryz.lays169_ren.t 37)] (Tryz.lays169_ren.t 127) #[.slice none 0 0]).run Tryz.prog w.drew = .ok (.pointer none) w.drew := rfl
  have mixed := L.mixed
  have t72 := L.t72; have a72 := L.a72; have z72 := L.z72; have v72 := L.v72; have u72 := run_underlying L.t72
  have t70 := L.t70; have a70 := L.a70; have z70 := L.z70; have v70 := L.v70; have u70 := run_underlying L.t70
  have t37 := L.t37; have a37 := L.a37; have z37 := L.z37; have v37 := L.v37; have u37 := run_underlying L.t37
  have t127 := L.t127; have a127 := L.a127; have z127 := L.z127; have v127 := L.v127; have u127 := run_underlying L.t127
  have t3 := L.t3; have a3 := L.a3; have z3 := L.z3; have v3 := L.v3; have u3 := run_underlying L.t3
  have t9 := L.t9; have a9 := L.a9; have z9 := L.z9; have v9 := L.v9; have u9 := run_underlying L.t9
  have t5 := X.t5; have a5 := X.a5; have z5 := X.z5; have v5 := X.v5; have u5 := run_underlying X.t5
  show Calls Tryz.prog (Tryz.lays169_ren.f 169) _ _ _
  go_enter L.f169, Body.n169_ntmps Tryz.lays169_ren
  go_wp2
  go_region_o
  all_goals (go_wp2; go_ret; exact ⟨rfl, rfl⟩)
theorem GRel.setB {G : Gh} {sg : Sg} {w w' : World} (K : GRel G sg w) {g : Nat} {p : Nat × Nat × Nat} {B' : Box} (hι : G.ι g = some p) (ho : G.own p.1 = some (.gbox g)) (hsz : w'.heap.size = w.heap.size) (hne : ∀ c, c ≠ p.1 → w'.heap[c]? = w.heap[c]?)
    (hbox : B'.cells ≠ [] → BoxR G w' B' p.1 p.2.1 ∧ Room w' p) (hobj : B'.obj = true → ObjR G w' B' p.1) : GRel G (sg.set g B') w' := by
  have hob : ∀ c oo, G.own c = some oo → oo ≠ .gbox g → c ≠ p.1 := by
    rintro c oo h h' rfl; rw [ho] at h; cases h; exact h' rfl
  refine ⟨fun g' B hB hn => ?_, fun g' hg' => K.gdom g' (by simpa using hg'), fun g' B hB hn => ?_, fun a v h => ?_, fun c o h => by rw [hsz]; exact K.ownlt c o h, K.ownG⟩
  · by_cases hg : g = g'
    · subst hg
      rw [List.getElem?_set] at hB
      rw [if_pos rfl] at hB
      split at hB
      · cases hB
        exact ⟨p, hι, ho, (hbox hn).1, (hbox hn).2⟩
      · cases hB
    · rw [List.getElem?_set, if_neg hg] at hB
      obtain ⟨q, h1, h2, h3, h4⟩ := K.gbox g' B hB hn
      have e := hne q.1 (hob _ _ h2 (by simp; omega))
      obtain ⟨arr, T, fr, q1, q2⟩ := h3
      exact ⟨q, h1, h2, ⟨arr, T, fr, e.trans q1, q2⟩, h4.same e⟩
  · by_cases hg : g = g'
    · subst hg
      rw [List.getElem?_set] at hB
      rw [if_pos rfl] at hB
      split at hB
      · cases hB
        exact ⟨p, hι, ho, hobj hn⟩
      · cases hB
    · rw [List.getElem?_set, if_neg hg] at hB
      obtain ⟨q, h1, h2, h3⟩ := K.gobj g' B hB hn
      exact ⟨q, h1, h2, h3.mono (hne q.1 (hob _ _ h2 (by simp; omega))) (fun _ _ h => h) (fun _ _ h => h)⟩
  · obtain ⟨h1, h2, h3⟩ := K.frz a v h
    have : a.block ≠ p.1 := by intro e; rw [e, ho] at h3; cases h3
    exact ⟨(cell_same (hne _ this)).trans h1, h2, h3⟩
theorem Fr.own1 {G : Gh} {w w' : World} {p : Nat} {o : Owner} (ho : G.own p = some o) (h1 : w'.os = w.os) (h2 : w'.tape = w.tape) (h3 : w'.output = w.output) (hsz : w'.heap.size = w.heap.size) (hne : ∀ c, c ≠ p → w'.heap[c]? = w.heap[c]?) : Fr G w G w' :=
  ⟨h1, h2, h3, Nat.le_of_eq hsz.symm, fun _ _ h => h, fun _ _ h => h, fun c hc hn => ⟨hne c (by rintro rfl; rw [ho] at hn; cases hn), hn, fun _ _ => rfl⟩⟩
theorem setCell_heap {w : World} {b o : Nat} {v : Value} {arr : Array Value} {T : TypeId} {fr : Nat × Nat} (h : w.heap[b]? = some (.cells arr T fr)) : (w.setCell ⟨b, o, none⟩ v).heap[b]? = some (.cells (arr.setIfInBounds o v) T fr) := by
  have hlt := (Array.getElem?_eq_some_iff.1 h).1
  have h2 := (Array.getElem?_eq_some_iff.1 h).2
  simp only [World.setCell, Array.getElem?_modify]
  simp [h2, hlt]
theorem setCell_other {w : World} {p : Addr} {v : Value} {c : Nat} (hc : c ≠ p.block) : (w.setCell p v).heap[c]? = w.heap[c]? := by
  simp only [World.setCell, Array.getElem?_modify]
  rw [if_neg (by omega)]
theorem leafCopy : Good 271 (fun _ _ xs sg => ovCopyCheck 227 xs sg) := by
  refine leafL Tryz.func271 (nb (by kernel_rfl)) (ne_of_beq (by kernel_rfl)) (by kernel_rfl) (by kernel_rfl) ?_
  intro xs sg out h
  unfold ovCopyCheck at h
  split at h
  case h_2 => cases h
  rename_i g
  intro G w args K hlen ha
  match args, hlen with
  | ⟨[v0]⟩, _ =>
  have hv := (ha 0 _ v0 rfl rfl).1
  cases hv with
  | @gp _ _ p hg =>
  split at h
  · rename_i t bb hB
    obtain ⟨ht, h⟩ := bif_some h
    have ht := Nat.eq_of_beq_eq_true ht
    subst ht
    cases h
    obtain ⟨p1, k1, k2, ⟨arr, fr, k3, k4⟩⟩ := K.gobj g _ hB rfl
    rw [hg] at k1; cases k1
    have k4 := k4 rfl
    obtain ⟨p2, j1, j2, ⟨arr2, T2, fr2, j3, j4, j5, j6⟩, hroom⟩ := K.gbox g _ hB (by simp [Box.cells])
    rw [hg] at j1; cases j1
    obtain ⟨pb, po, pn⟩ := p
    have hpo : po = 0 := by
      rcases j4.2 with h | ⟨_, h⟩
      · exact h
      · cases h
    subst hpo
    simp only at k2 k3 j3 j6
    rw [k3] at j3; cases j3
    obtain ⟨u0, m1, m2, m3⟩ := j6 0 _ rfl
    obtain rfl := at_eq m2
    obtain ⟨u1, n1, n2, n3⟩ := j6 1 _ rfl
    have m1 : arr[0]? = some (Value.pointer none) := m1
    have n1 : arr[1]? = some u1 := n1
    simp only [List.length_cons, List.length_nil] at k4
    have hc : w.cell? ⟨pb, 0, none⟩ = some (.pointer none) := by simp [World.cell?, k3, m1]
    have hsh : w.shape? pb = some (227, 2) := by simp [World.shape?, k3, k4]
    have hfz : w.frozen? ⟨pb, 0, none⟩ = false := by
      have := j5 0 (by omega)
      simp [World.frozen?, k3]; omega
    show Calls Tryz.prog 271 #[.pointer (some ⟨pb, 0, none⟩)] w _
    refine (cc_fresh pb w hc hsh hfz).mono ?_
    rintro e w' ⟨rfl, rfl⟩
    have hnew := setCell_heap (o := 0) (v := .pointer (some ⟨pb, 0, none⟩)) k3
    have hsz : (w.setCell ⟨pb, 0, none⟩ (.pointer (some ⟨pb, 0, none⟩))).heap.size = w.heap.size := by simp [World.setCell]
    refine ⟨G, Fr.own1 k2 rfl rfl rfl hsz (fun c hc => setCell_other hc), _, rfl, .tup rfl (fun i a v h1 h2 => by simp at h1), K.setB hg k2 hsz (fun c hc => setCell_other hc) (fun _ => ⟨⟨_, _, _, hnew, ⟨by simp [Box.cells, k4], .inl rfl⟩, fun j hj => j5 j (by simpa using hj), fun j c hc => ?_⟩, ⟨_, _, _, hnew, ?_⟩⟩) (fun hh => by cases hh)⟩
    · match j with
      | 0 =>
        simp at hc; subst hc
        exact ⟨.pointer (some ⟨pb, 0, none⟩), by simp [k4], .gp hg, rfl⟩
      | 1 =>
        simp at hc; subst hc
        exact ⟨u1, by rw [Array.getElem?_setIfInBounds]; simpa using n1, n2, n3⟩
      | j + 2 => simp at hc
    · obtain ⟨a3, T3, f3, z1, z2⟩ := hroom
      rw [k3] at z1; cases z1
      simpa using z2
  · rename_i g' bb hB
    obtain ⟨ht, h'⟩ := bif_some h
    have ht := Nat.eq_of_beq_eq_true ht
    subst ht
    clear h
    cases h'
    obtain ⟨p2, j1, j2, ⟨arr2, T2, fr2, j3, j4, j5, j6⟩, hroom⟩ := K.gbox g' _ hB (by simp [Box.cells])
    rw [hg] at j1; cases j1
    obtain ⟨u0, m1, m2, m3⟩ := j6 0 _ rfl
    cases m2 with
    | @gp _ _ p3 hg3 =>
    rw [hg] at hg3; cases hg3
    have hc : w.cell? ⟨p.1, p.2.1 + 0, none⟩ = some (.pointer (some ⟨p.1, p.2.1 + 0, none⟩)) := by
      simp only [World.cell?, j3]; exact m1
    refine (cc_used p.1 (p.2.1 + 0) w hc).mono ?_
    rintro e w' ⟨rfl, rfl⟩
    exact ⟨G, Fr.refl _ _, _, rfl, .tup rfl (fun i a v h1 h2 => by simp at h1), K⟩
  · cases h
theorem bytesOf_at : ∀ {cs : List AVal} {bs : List UInt8}, bytesOf cs = some bs → bs.length = cs.length ∧ ∀ (j : Nat) (x : UInt8), bs[j]? = some x → ∃ n : Int, cs[j]? = some (.at (.int .u8 n)) ∧ x = UInt8.ofNat n.toNat
  | [], bs, h => by cases h; exact ⟨rfl, fun j x hx => by simp at hx⟩
  | a :: cs, bs, h => by
    unfold bytesOf at h
    split at h
    · rename_i h0; cases h0
    · rename_i n l heq
      cases heq
      split at h
      · rename_i bs' hb
        cases h
        obtain ⟨h1, h2⟩ := bytesOf_at hb
        refine ⟨by simp [h1], fun j x hx => ?_⟩
        cases j with
        | zero => simp at hx; exact ⟨n, rfl, hx.symm⟩
        | succ j => simpa using h2 j x (by simpa using hx)
      · cases h
    · cases h
theorem frozen_not {w : World} {b : Nat} {n : Nat} {c : Nat} (hc : c ≠ b) : (w.drew.freeze ⟨b, 0, none⟩ n).heap[c]? = w.heap[c]? := by
  unfold World.freeze
  split
  · rfl
  · show (w.heap.modify b _)[c]? = _
    rw [Array.getElem?_modify, if_neg (by omega)]
theorem frozen_size {w : World} {b : Nat} {n : Nat} : (w.drew.freeze ⟨b, 0, none⟩ n).heap.size = w.heap.size := by
  unfold World.freeze
  split
  · rfl
  · show (w.heap.modify b _).size = _
    simp
theorem GRel.drew {G : Gh} {sg : Sg} {w : World} (K : GRel G sg w) : GRel G sg w.drew := (K.below ((Below.refl w.heap.size w).drew)).1
theorem bStr_ok {G : Gh} {sg : Sg} {w : World} (K : GRel G sg w) {b o : Nat} {v : AVal} {u : Value} {out : Out} (hc : w.cell? ⟨b, o + 1, none⟩ = some u) (hv : VR G.Z G.ι v u) (h : bStr 5 v sg = some out) :
    Calls Tryz.prog 174 #[.pointer (some ⟨b, o, none⟩)] w fun e w' => ∃ G', Fr G w G' w' ∧ OutOK G' w' out e := by
  unfold bStr at h
  split at h
  · cases h
    cases hv
    refine (str_nil b o w hc).mono ?_
    rintro e w' ⟨rfl, rfl⟩
    obtain ⟨K', F'⟩ := K.below ((Below.refl w.heap.size w).drew)
    exact ⟨G, F', _, rfl, .at rfl, K'⟩
  · rename_i gb n
    split at h
    case h_2 => cases h
    rename_i t cs hB
    obtain ⟨hcond, h'⟩ := bif_some h
    clear h
    simp only [Bool.and_eq_true, List.all_eq_true] at hcond
    obtain ⟨c1, c2, c3, c4, c5⟩ := hcond
    have c1 := Nat.eq_of_beq_eq_true c1
    have c2 := Nat.eq_of_beq_eq_true c2
    have c4 := Nat.le_of_ble_eq_true c4
    subst c1
    have c3 : 0 < n := Nat.blt_eq ▸ c3
    split at h'
    case h_2 => cases h'
    rename_i bs hbs
    cases h'
    obtain ⟨hbl, hbv⟩ := bytesOf_at hbs
    cases hv with
    | @gs _ _ _ _ cap p hg hcap hroom =>
    obtain ⟨p1, k1, k2, ⟨arr, fr, k3, _⟩⟩ := K.gobj gb _ hB rfl
    rw [hg] at k1; cases k1
    obtain ⟨p2, j1, j2, ⟨arr2, T2, fr2, j3, j4, j5, j6⟩, hroom2⟩ := K.gbox gb _ hB (by simp only [Box.cells]; rintro rfl; simp at c2; omega)
    rw [hg] at j1; cases j1
    obtain ⟨pb, po, pn⟩ := p
    have hpo : po = 0 := by
      rcases j4.2 with h | ⟨_, h⟩
      · exact h
      · cases h
    subst hpo
    simp only at k2 k3 j3 j4 j6 hc
    rw [k3] at j3; cases j3
    have j4 : cs.length ≤ arr.size := by have := j4.1; simp only [Box.cells] at this; omega
    have j6 : ∀ (j : Nat) c, cs[j]? = some c → ∃ u, arr[j]? = some u ∧ VR G.Z G.ι c u ∧ one u = true := fun j c hh => by
      obtain ⟨u, q1, q2⟩ := j6 j c hh
      exact ⟨u, by rw [Nat.zero_add] at q1; exact q1, q2⟩
    have hbn : bs ≠ [] := by rintro rfl; simp at hbl; omega
    have hlen : bs.length = n := by omega
    have hal : n ≤ arr.size := by rw [← c2]; exact j4
    subst hlen
    refine (str_walk b o pb cap arr.size bs w hbn hcap c4 hc (by simp [World.shape?, k3]) hal (fun j x hx => ?_)).mono ?_
    · obtain ⟨m, hm, rfl⟩ := hbv j x hx
      obtain ⟨u0, e1, e2, e3⟩ := j6 j _ hm
      obtain rfl := at_eq e2
      have hok := c5 _ (List.mem_of_getElem? hm)
      simp only [byteOk, Bool.and_eq_true, decide_eq_true_eq] at hok
      have hx : ((UInt8.ofNat m.toNat).toNat : Int) = m := by
        rw [UInt8.toNat_ofNat']
        omega
      rw [hx]
      simp [World.cell?, k3, e1]
    · rintro e w' ⟨rfl, rfl⟩
      refine ⟨G, Fr.own1 k2 ?_ ?_ ?_ frozen_size (fun c hc => frozen_not hc), _, rfl, .at rfl, K.setB hg k2 frozen_size (fun c hc => frozen_not hc) (fun hh => absurd rfl hh) (fun hh => by cases hh)⟩
      · unfold World.freeze; split <;> rfl
      · unfold World.freeze; split <;> rfl
      · unfold World.freeze; split <;> rfl
  · cases h
theorem leafBStr : Good 174 (fun _ _ xs sg => ovBString 5 xs sg) := by
  refine leafL Tryz.func174 (nb (by kernel_rfl)) (ne_of_beq (by kernel_rfl)) (by kernel_rfl) (by kernel_rfl) ?_
  intro xs sg out h
  unfold ovBString at h
  split at h
  case h_2 => cases h
  rename_i g
  intro G w args K hlen ha
  match args, hlen with
  | ⟨[v0]⟩, _ =>
  have hv := (ha 0 _ v0 rfl rfl).1
  cases hv with
  | @gp _ _ p hg =>
  have key : ∀ (B : Box) (x v : AVal), sg[g]? = some B → B.cells = [x, v] → bStr 5 v sg = some out → Calls Tryz.prog 174 #[.pointer (some ⟨p.1, p.2.1 + 0, none⟩)] w fun e w' => ∃ G', Fr G w G' w' ∧ OutOK G' w' out e := by
    intro B x v hB hcs h
    obtain ⟨p2, j1, j2, ⟨arr2, T2, fr2, j3, j4, j5, j6⟩, hroom⟩ := K.gbox g _ hB (by rw [hcs]; simp)
    rw [hg] at j1; cases j1
    obtain ⟨u1, m1, m2, m3⟩ := j6 1 v (by rw [hcs]; rfl)
    exact bStr_ok K (o := p.2.1 + 0) (by simp only [World.cell?, j3]; exact m1) m2 h
  split at h
  · rename_i x v hB; exact key _ x v hB rfl h
  · rename_i t x v hB; exact key _ x v hB rfl h
  · cases h
end Go.Abs
namespace Go.Abs
open Go
theorem wI {α : Type} (k : IntKind) (a : Int) (c : Int → Option α) : withI k (some (.at (.int k a))) c = c a := by simp only [withI]; cases k <;> rfl
theorem ne_nil_of_len {α : Type} {l : List α} (h : 0 < l.length) : l.isEmpty = false := by cases l <;> simp_all
theorem loadC_gp {sg : Sg} {g o : Nat} {B : Box} (h : sg[g]? = some B) (h0 : 0 < B.cells.length) : loadC none sg (.gp g o) = some (B.cells, o) := by
  simp only [loadC, h, withO, ne_nil_of_len h0, cond_false]
theorem storeG_gp {sg : Sg} {g o n : Nat} {B : Box} {v : AVal} (h : sg[g]? = some B) (hv : v.cells.length = n) (ho : o + n ≤ B.cells.length) (h0 : 0 < B.cells.length) :
    storeG none sg (.gp g o) n v = some (sg.set g (.mk (splice B.cells o v.cells))) := by
  have e1 : Nat.beq v.cells.length n = true := by rw [hv]; exact Nat.beq_refl n
  simp only [storeG, h, withO, ne_nil_of_len h0, cond_false, e1, Nat.ble_eq_true_of_le ho, cond_true, bindL]
theorem elemV_gs {g sz o len : Nat} {n : Int} (h0 : 0 ≤ n) (h1 : n < len) : elemV sz n (.gs g sz o len) = some (.gp g (o + n.toNat * sz)) := by
  simp only [elemV, Nat.beq_refl, cond_true, if_pos (And.intro h0 h1)]
theorem flatG_gs {sg : Sg} {g sz o n : Nat} {B : Box} (h : sg[g]? = some B) (h1 : o + n * sz ≤ B.cells.length) (h0 : 0 < B.cells.length) :
    flatG sg sz (.gs g sz o n) = some (n, (B.cells.drop o).take (n * sz)) := by
  have e : (Nat.ble (o + n * sz) B.cells.length && Nat.blt 0 B.cells.length) = true := by
    rw [Nat.ble_eq_true_of_le h1]; exact Nat.ble_eq_true_of_le h0
  simp only [flatG, Nat.beq_refl, cond_true, h, e]
theorem app1_nil {ty : Option TypeId} {esz bytes sz m : Nat} {sg : Sg} {fl : List AVal} : app1 ty esz bytes sg (.sl true sz []) m fl = some (.gs sg.length esz 0 m, sg ++ [boxT ty fl]) := rfl
theorem app1_gso {esz bytes n m g o : Nat} {sg : Sg} {fl : List AVal} {B : Box} (h : sg[g]? = some B) (ht : okT none B = true) (hl : B.cells.length = o + n * esz) (h0 : 0 < B.cells.length) (hb : (n + m) * bytes ≤ 35184372088832) (ho : o = 0 ∨ 0 < n * esz) :
    app1 none esz bytes sg (.gs g esz o n) m fl = some (.gs sg.length esz 0 (n + m), sg.set g (.mk []) ++ [boxT none (B.cells.drop o ++ fl)]) := by
  have e : (okT none B && (Nat.beq B.cells.length (o + n * esz) && Nat.blt 0 B.cells.length)) = true := by
    rw [ht, hl, Nat.beq_refl]; rw [hl] at h0; exact Nat.ble_eq_true_of_le h0
  have e2 : (Nat.beq esz esz && (Nat.beq o 0 || (none : Option TypeId).isNone && Nat.blt 0 (n * esz))) = true := by
    rw [Nat.beq_refl]
    rcases ho with rfl | h1
    · rfl
    · have h2 : Nat.blt 0 (n * esz) = true := Nat.ble_eq_true_of_le h1
      rw [h2]; cases Nat.beq o 0 <;> rfl
  simp only [app1, e2, cond_true, h, withO, e, if_pos hb]
theorem app1_gs {esz bytes n m g : Nat} {sg : Sg} {fl : List AVal} {B : Box} (h : sg[g]? = some B) (ht : okT none B = true) (hl : B.cells.length = n * esz) (h0 : 0 < B.cells.length) (hb : (n + m) * bytes ≤ 35184372088832) :
    app1 none esz bytes sg (.gs g esz 0 n) m fl = some (.gs sg.length esz 0 (n + m), sg.set g (.mk []) ++ [boxT none (B.cells ++ fl)]) :=
  app1_gso h ht (by omega) h0 hb (.inl rfl)
end Go.Abs
