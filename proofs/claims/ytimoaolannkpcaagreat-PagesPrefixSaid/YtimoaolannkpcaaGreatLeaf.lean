/- What the functions of the program come to, one after another: several texts joined. -/
import Derived.KernelRfl
import Derived.Test.YtimoaolannkpcaaGreatOvProof
import Derived.Test.YtimoaolannkpcaaGreatLayP
import Derived.Test.YtimoaolannkpcaaGreatOvDefs
import Derived.Test.YtimoaolannkpcaaGreatCodeP
import Derived.Test.YtimoaolannkpcaaGreatEngC
set_option linter.unusedVariables false
set_option linter.unusedSimpArgs false
set_option linter.unusedSectionVars false
namespace Go.Abs
open Go.Proofs Go.RowKit
set_option linter.unusedVariables false
set_option maxRecDepth 100000

theorem GRel.below {G : Gh} {sg : Sg} {w w' : World} (K : GRel G sg w) (B : Below w.heap.size w w') : GRel G sg w' ∧ Fr G w G w' := by
  refine ⟨⟨fun g b hb hne => ?_, K.gdom, fun g b hb ho => ?_, fun a v h => ?_, fun b o h => Nat.lt_of_lt_of_le (K.ownlt b o h) B.size, K.ownG⟩,
    ⟨B.os, B.tape, B.output, B.size, fun _ _ h => h, fun _ _ h => h, fun b hb ho => ⟨B.block b hb, ho, fun _ _ => rfl⟩⟩⟩
  · obtain ⟨p, h1, h2, h3, h4⟩ := K.gbox g b hb hne
    have e := B.block p.1 (K.ownlt _ _ h2)
    obtain ⟨arr, T, fr, q1, q2⟩ := h3
    exact ⟨p, h1, h2, ⟨arr, T, fr, e.trans q1, q2⟩, h4.same e⟩
  · obtain ⟨p, h1, h2, h3⟩ := K.gobj g b hb ho
    exact ⟨p, h1, h2, h3.mono (B.block p.1 (K.ownlt _ _ h2)) (fun _ _ h => h) (fun _ _ h => h)⟩
  · obtain ⟨h1, h2, h3⟩ := K.frz a v h
    have hlt : a.block < w.heap.size := by
      unfold World.cell? at h1
      cases hh : w.heap[a.block]? with
      | none => simp [hh] at h1
      | some _ => exact (Array.getElem?_eq_some_iff.1 hh).1
    exact ⟨(B.cell hlt).trans h1, h2, h3⟩

theorem cntB_eq (b : UInt8) : ∀ l : List UInt8, cntB b l = Go.Lib.countByte l b
  | [] => rfl
  | x :: l => by
    simp only [cntB, Go.Lib.countByte, List.count_cons]
    have ih := cntB_eq b l
    simp only [Go.Lib.countByte] at ih
    cases h : Nat.beq x.toNat b.toNat with
    | true =>
      have e : x = b := UInt8.toNat_inj.1 (Nat.eq_of_beq_eq_true h)
      simp [e, ih]
    | false =>
      have e : x ≠ b := by rintro rfl; simp at h
      simp [e, ih]
theorem repB_eq (l : List UInt8) : ∀ n, repB l n = Go.Lib.repeatL l n
  | 0 => rfl
  | n + 1 => by simp only [repB, Go.Lib.repeatL, repB_eq l n]

theorem arg_is {xs : List AVal} {args : Array Value} {G : Gh} (h : ∀ (i : Nat) a v, xs[i]? = some a → args[i]? = some v → VR G.Z G.ι a v ∧ ∀ vs, a ≠ .tup vs) {i : Nat} {v u : Value} (h1 : xs[i]? = some (.at v)) (h2 : args[i]? = some u) : u = v := at_eq (h i _ _ h1 h2).1

/-- What a leaf needs, of a function that is called. -/
theorem leafL {f : Nat} {fn : Func} {g : List AVal → Sg → R} (hf : Tryz.prog.funcs[f]? = some fn) (h3 : fn.body ≠ none) (h4 : fn.name ≠ "runtime.NumGoroutine") (hl : Nat.blt f yBase = true) (hr : YTab.ro f = false)
    (hg : ∀ xs sg out, g xs sg = some out → CallOK Tryz.prog f xs sg out) : Good f (fun _ _ xs sg => g xs sg) := by
  intro C N xs sg out _ h
  refine ⟨⟨fun _ => ⟨⟨fn, hf, h3, h4⟩, hg xs sg out h⟩, fun k hk => ?_⟩, fun hh => ?_⟩
  · have : f < yBase := Nat.blt_eq ▸ hl
    omega
  · rw [hr] at hh; cases hh

theorem leafCount : Good 384 (fun _ _ xs sg => ovCount xs sg) := by
  refine leafL Tryz.func384 (nb (by kernel_rfl)) (ne_of_beq (by kernel_rfl)) (by kernel_rfl) (by kernel_rfl) ?_
  intro xs sg out h
  unfold ovCount at h
  split at h
  case h_2 => cases h
  rename_i s b
  cases h
  intro G w args K hlen ha
  match args, hlen with
  | ⟨[v0, v1]⟩, _ =>
    obtain rfl := arg_is ha (i := 0) rfl rfl
    obtain rfl := arg_is ha (i := 1) rfl rfl
    refine (Tryz.strings_Count_one s b w).mono ?_
    rintro e w' ⟨rfl, rfl⟩
    exact ⟨G, Fr.refl _ _, _, rfl, by rw [cntB_eq]; exact .at rfl, K⟩

theorem leafRepeat : Good 230 (fun _ _ xs sg => ovRepeat xs sg) := by
  refine leafL Tryz.func230 (nb (by kernel_rfl)) (ne_of_beq (by kernel_rfl)) (by kernel_rfl) (by kernel_rfl) ?_
  intro xs sg out h
  unfold ovRepeat at h
  split at h
  case h_2 => cases h
  rename_i s n
  obtain ⟨⟨h1, h0, h2⟩, h3⟩ := if_some h
  cases h3
  intro G w args K hlen ha
  match args, hlen with
  | ⟨[v0, v1]⟩, _ =>
    obtain rfl := arg_is ha (i := 0) rfl rfl
    obtain rfl := arg_is ha (i := 1) rfl rfl
    have hn : n = ((n.toNat : Nat) : Int) := by omega
    rw [hn]
    refine (Tryz.strings_Repeat s n.toNat w (by omega) (by simpa using h2)).mono ?_
    rintro e w' ⟨rfl, hb⟩
    obtain ⟨K', F'⟩ := K.below hb
    exact ⟨G, F', _, rfl, by rw [repB_eq]; exact .at rfl, K'⟩
end Go.Abs
namespace Go.Abs
open Go.Proofs Go.RowKit Go.Maps Go.Sort Go.Shelf
open Go.WideElems (Fit rd rg pl)
set_option linter.unusedVariables false
set_option maxRecDepth 100000

theorem sortsA (m : Nat) : AnyZI.SortsIn Tryz.prog Tryz.sortedA_ren Fence.wide m :=
  ⟨fun blk off cap ss W hH hblk hsz => callsIn_wide.2 (Tryz.slices_Sort_int blk off cap ss W hH hblk hsz),
   fun p cap W => callsIn_wide.2 (Tryz.slices_Sort_int_none p cap W)⟩

theorem insI_perm (x : Int) : ∀ l, (insI x l).Perm (x :: l)
  | [] => .refl _
  | y :: l => by
    unfold insI
    split
    · exact .refl _
    · exact ((insI_perm x l).cons y).trans (.swap x y l)
theorem sortI_perm : ∀ l, (sortI l).Perm l
  | [] => .refl _
  | x :: l => (insI_perm x (sortI l)).trans ((sortI_perm l).cons x)
theorem insI_sorted (x : Int) : ∀ {l : List Int}, l.Pairwise (· ≤ ·) → (insI x l).Pairwise (· ≤ ·)
  | [], _ => by simp [insI]
  | y :: l, h => by
    unfold insI
    rw [List.pairwise_cons] at h
    split
    · rename_i hxy
      rw [List.pairwise_cons, List.pairwise_cons]
      exact ⟨fun z hz => by rcases List.mem_cons.1 hz with rfl | hz; exact hxy; exact Int.le_trans hxy (h.1 z hz), h⟩
    · rename_i hxy
      rw [List.pairwise_cons]
      refine ⟨fun z hz => ?_, insI_sorted x h.2⟩
      rcases List.mem_cons.1 ((insI_perm x l).mem_iff.1 hz) with rfl | hz
      · omega
      · exact h.1 z hz
theorem sortI_sorted : ∀ l, (sortI l).Pairwise (· ≤ ·)
  | [] => .nil
  | x :: l => insI_sorted x (sortI_sorted l)
theorem sortI_eq {ss l : List Int} (h : ss.Perm l) : ss.mergeSort (fun x y => decide (x ≤ y)) = sortI l := by
  have tr : ∀ a b c : Int, leI a b = true → leI b c = true → leI a c = true := fun a b c h1 h2 => by simp only [leI, decide_eq_true_eq] at *; exact Int.le_trans h1 h2
  have tt : ∀ a b : Int, (leI a b || leI b a) = true := fun a b => by simp only [leI, Bool.or_eq_true, decide_eq_true_eq]; exact Int.le_total a b
  refine List.Perm.eq_of_pairwise (le := fun a b => leI a b = true) (fun a b _ _ h1 h2 => ?_) (List.pairwise_mergeSort tr tt ss) ((sortI_sorted l).imp fun h => by simpa [leI] using h) (((List.mergeSort_perm ss leI).trans h).trans (sortI_perm l).symm)
  simp only [leI, decide_eq_true_eq] at h1 h2
  exact Int.le_antisymm h1 h2

def RU : Value → Option (DataW Unit × List MemPlace) := fun _ => some (.nil, [])

/-- How an iterator over a map's keys gives them. -/
def KeysGive (kf : FuncId) : Prop := (∀ args w, (callFunc kf args).run Tryz.prog w = .ok (.enter kf args) w) ∧ ∀ (bp bm N : Nat) (D : DataW Unit) (w : World), bp < w.heap.size → w.cell? ⟨bp, 0, none⟩ = some (.map (some bm)) → w.ownsMap Tryz.prog 3 RU bm N D →
  SeqGives Fence.wide 2 Tryz.prog kf #[.pointer (some ⟨bp, 0, none⟩)] encZ (fun ss => ss.Perm (intKeys D)) (Maps.size D) w
theorem keysA_give : KeysGive 331 := ⟨enters_of Tryz.func331 (by kernel_rfl) rfl, fun bp bm N D w h1 h2 h3 => AnyZI.keys_gives (ρ := Tryz.keysA_ren) { Tryz.keysA with } Fence.wide _ trivial rfl (by omega) bp bm N _ _ h1 h2 h3⟩
theorem keysB_give : KeysGive 320 := ⟨enters_of Tryz.func320 (by kernel_rfl) rfl, fun bp bm N D w h1 h2 h3 => AnyZI.keys_gives (ρ := Tryz.keysB_ren) { Tryz.keysB with } Fence.wide _ trivial rfl (by omega) bp bm N _ _ h1 h2 h3⟩
theorem keysFn_give {f : Nat} (h : keysFn f = true) : KeysGive f := by
  simp only [keysFn, Bool.or_eq_true] at h
  rcases h with h | h
  · rw [Nat.eq_of_beq_eq_true h]; exact keysA_give
  · rw [Nat.eq_of_beq_eq_true h]; exact keysB_give
theorem keysI_spec : ∀ {es : List (AVal × AVal)} {ks : List Int}, keysI es = some ks → es.map (·.1) = ks.map fun n => .at (.int .i64 n)
  | [], ks, h => by cases h; rfl
  | e :: es, ks, h => by
    unfold keysI at h
    split at h
    · rename_i h0; cases h0
    · rename_i n va l heq
      cases heq
      split at h
      · rename_i r hr
        cases h
        simp [keysI_spec hr]
      · cases h
    · cases h
theorem sortedN {w : World} {bp bm clk kf : Nat} {arr : Array MapEntry} {ks : List Int} (hkf : KeysGive kf) (hbp : bp < w.heap.size) (hc : w.cell? ⟨bp, 0, none⟩ = some (.map (some bm))) (hm : w.heap[bm]? = some (.map arr clk)) (hst : Go.MapKept.Stamped arr clk)
    (hk : arr.toList.map (·.key) = ks.map encZ) (hn : ∀ n ∈ ks, -9223372036854775808 ≤ n ∧ n ≤ 9223372036854775807) (hsz : ks.length ≤ 1048576) :
    Calls Tryz.prog 226 #[.func (.func kf) #[] #[.pointer (some ⟨bp, 0, none⟩)]] w fun en w' => ∃ v, en = .returned v ∧ w'.ownsRow w.heap.size 3 1 v ks.length ((sortI ks).map encZ) ∧ (v = .slice none 0 0 ↔ ks = []) ∧ Below w.heap.size w w' := by
  have hlen : arr.size = ks.length := by
    have := congrArg List.length hk
    simpa using this
  have hkey : ∀ (i : Nat) e n, arr.toList[i]? = some e → ks[i]? = some n → rd Tryz.prog 3 RU e = some (.int .i64 n, .nil) := by
    intro i e n h1 h2
    have h3 : (arr.toList.map (·.key))[i]? = (ks.map encZ)[i]? := by rw [hk]
    rw [List.getElem?_map, List.getElem?_map, h1, h2] at h3
    have h4 : e.key = .int .i64 n := by simpa [encZ] using h3
    have hwf : (Lit.int .i64 n).wf = true := by
      have := hn n (List.mem_of_getElem? h2)
      simp [Lit.wf, IntKind.min, IntKind.max, IntKind.signed, IntKind.bits]; omega
    have hkk : keyOf Tryz.prog 3 e.key = some (.int .i64 n) := by rw [h4]; exact keyOf_int_mk Tryz.underlying3 hwf
    unfold Go.WideElems.rd; rw [hkk]; rfl
  have hmap : (arr.toList.map (rg Tryz.prog 3 RU)).map (fun p => intOf p.1) = ks := by
    apply List.ext_getElem?
    intro i
    rw [List.getElem?_map, List.getElem?_map]
    cases h1 : arr.toList[i]? with
    | none =>
      have h2 : ks[i]? = none := by
        rw [List.getElem?_eq_none_iff] at h1 ⊢
        simp at h1; omega
      rw [h2]; rfl
    | some e =>
      obtain ⟨n, h2⟩ : ∃ n, ks[i]? = some n := by
        have := (List.getElem?_eq_some_iff.1 h1).1
        simp at this
        exact ⟨_, List.getElem?_eq_getElem (by omega)⟩
      have hrd := hkey i e n h1 h2
      have hrg : rg Tryz.prog 3 RU e = (.int .i64 n, .nil) := by unfold Go.WideElems.rg; rw [hrd]; rfl
      rw [h2, Option.map_some, Option.map_some, hrg]; rfl
  let D : DataW Unit := .map ((arr.toList.map (rg Tryz.prog 3 RU)).foldr DataW.insert [])
  have hperm : (intKeys D).Perm ks := by
    show (((arr.toList.map (rg Tryz.prog 3 RU)).foldr DataW.insert []).map fun p => intOf p.1).Perm ks
    have h := (Go.WideShapes.sorted_perm (arr.toList.map (rg Tryz.prog 3 RU))).map (fun p => intOf p.1)
    rw [hmap] at h
    exact h
  have hsize : Maps.size D = ks.length := by
    show ((arr.toList.map (rg Tryz.prog 3 RU)).foldr DataW.insert []).length = _
    rw [Go.length_sorted]; simp [hlen]
  have hown : w.ownsMap Tryz.prog 3 RU bm ks.length D :=
    ⟨arr, clk, hm, ⟨by simp [maxLen]; omega, hst, fun x hx => by
      obtain ⟨i, hi⟩ := List.getElem?_of_mem hx
      obtain ⟨n, h2⟩ : ∃ n, ks[i]? = some n := by
        have := (List.getElem?_eq_some_iff.1 hi).1
        simp at this
        exact ⟨_, List.getElem?_eq_getElem (by omega)⟩
      exact ⟨_, hkey i x n hi h2⟩⟩, by omega, rfl⟩
  have hseq := hkf.2 bp bm _ D w hbp hc hown
  have cS := AnyZI.sorted_in Tryz.sortedA Fence.wide 5 trivial trivial trivial trivial rfl (by omega) (sortsA _) (enters_of Tryz.func319 (by kernel_rfl) rfl) kf #[.pointer (some ⟨bp, 0, none⟩)] trivial hkf.1 _ _ (by rw [hsize]; simp [maxLen]; omega) (by rw [hsize]; omega) _ hseq
  change CallsIn _ _ Tryz.prog 226 _ _ _ at cS
  refine (callsIn_wide.1 cS).mono ?_
  rintro en w' ⟨v, ss, rfl, hS, hrow, hnil, hb⟩
  have hp : ss.Perm ks := List.Perm.trans hS hperm
  rw [sortI_eq hp, hp.length_eq] at hrow
  refine ⟨v, rfl, hrow, hnil.trans ⟨?_, ?_⟩, hb⟩
  · rintro rfl; exact hp.symm.eq_nil
  · rintro rfl; exact hp.eq_nil

theorem GRel.newBox {G : Gh} {sg : Sg} {w w' : World} (K : GRel G sg w) (B : Below w.heap.size w w') {b : Nat} {arr : Array Value} {T : TypeId} {cs : List AVal} (hb : w.heap.size ≤ b) (hb2 : b < w'.heap.size) (hh : w'.heap[b]? = some (.cells arr T (0, 0))) (hl : cs.length ≤ arr.size)
    (hr : ∀ (j : Nat) c, cs[j]? = some c → ∃ u, arr[j]? = some u ∧ VR G.Z G.ι c u ∧ one u = true) :
    ∃ G', GRel G' (sg ++ [.mk cs]) w' ∧ Fr G w G' w' ∧ G'.ι sg.length = some (b, 0, arr.size) := by
  obtain ⟨K', F'⟩ := K.below B
  let G' : Gh := { G with ι := fun i => if i = sg.length then some (b, 0, arr.size) else G.ι i, own := fun c => if c = b then some (.gbox sg.length) else G.own c }
  have hnone : G.ι sg.length = none := K.gdom _ (Nat.le_refl _)
  have hι : ∀ g b, G.ι g = some b → G'.ι g = some b := fun g b h => by
    have : g ≠ sg.length := by rintro rfl; rw [hnone] at h; cases h
    simp [G', this, h]
  have hlt : ∀ c oo, G.own c = some oo → c ≠ b := fun c oo h => by have := K.ownlt c oo h; omega
  have hown : ∀ c oo, G.own c = some oo → G'.own c = some oo := fun c oo h => by simp [G', hlt c oo h, h]
  refine ⟨G', ⟨fun g B' hB' hne => ?_, fun g hg => ?_, fun g B' hB' ho => ?_, fun a v h => ?_, fun c o h => ?_, fun c o h => ?_⟩,
    ⟨F'.os, F'.tape, F'.output, F'.size, fun _ _ h => h, hι, fun c hc ho => ⟨B.block c hc, by simp [G', ho]; omega, fun _ _ => rfl⟩⟩, by simp [G']⟩
  · by_cases hg : g < sg.length
    · rw [List.getElem?_append_left hg] at hB'
      obtain ⟨p, h1, h2, ⟨arr1, T1, fr1, q1, q2, q3, q4⟩, h4⟩ := K'.gbox g B' hB' hne
      exact ⟨p, hι _ _ h1, hown _ _ h2, ⟨arr1, T1, fr1, q1, q2, q3, fun j c hc => by obtain ⟨u, r1, r2, r3⟩ := q4 j c hc; exact ⟨u, r1, r2.mono (fun _ _ h => h) hι, r3⟩⟩, h4⟩
    · have hg' : g = sg.length := by
        have := (List.getElem?_eq_some_iff.1 hB').1
        simp at this; omega
      subst hg'
      simp at hB'
      subst hB'
      exact ⟨(b, 0, arr.size), by simp [G'], by simp [G'], ⟨arr, T, (0, 0), hh, ⟨(by show 0 + cs.length ≤ arr.size; omega), .inl rfl⟩, fun j _ => by simp, fun j c hc => by obtain ⟨u, r1, r2, r3⟩ := hr j c hc; exact ⟨u, (by show arr[0 + j]? = _; rw [Nat.zero_add]; exact r1), r2.mono (fun _ _ h => h) hι, r3⟩⟩, ⟨arr, T, (0, 0), hh, (Nat.zero_add _).symm⟩⟩
  · have hg1 : sg.length + 1 ≤ g := by simpa using hg
    have : g ≠ sg.length := by omega
    simp only [G', this, if_false]
    exact K.gdom g (by omega)
  · by_cases hg : g < sg.length
    · rw [List.getElem?_append_left hg] at hB'
      obtain ⟨p, h1, h2, h3⟩ := K'.gobj g B' hB' ho
      exact ⟨p, hι _ _ h1, hown _ _ h2, h3.mono rfl (fun _ _ h => h) hι⟩
    · have hg' : g = sg.length := by
        have := (List.getElem?_eq_some_iff.1 hB').1
        simp at this; omega
      subst hg'
      simp at hB'
      subst hB'
      cases ho
  · obtain ⟨h1, h2, h3⟩ := K'.frz a v h
    refine ⟨h1, h2, ?_⟩
    have hlt : a.block < w.heap.size := by
      have h0 := (K.frz a v h).1
      unfold World.cell? at h0
      cases hh : w.heap[a.block]? with
      | none => simp [hh] at h0
      | some _ => exact (Array.getElem?_eq_some_iff.1 hh).1
    have : a.block ≠ b := by omega
    simp [G', this, h3]
  · simp only [G'] at h
    split at h
    · rename_i e; rw [e]; exact hb2
    · exact K'.ownlt c o h
  · simp only [G'] at h
    split at h
    · cases h; exact ⟨_, rfl⟩
    · exact K'.ownG c o h

theorem leafSortedN : Good 226 (fun _ _ xs sg => ovSortedN xs sg) := by
  refine leafL Tryz.func226 (nb (by kernel_rfl)) (ne_of_beq (by kernel_rfl)) (by kernel_rfl) (by kernel_rfl) ?_
  intro xs sg out h
  unfold ovSortedN at h
  split at h
  case h_2 => cases h
  rename_i f g
  obtain ⟨hf, h⟩ := bif_some h
  have hkf := keysFn_give hf
  split at h
  case h_2 => cases h
  rename_i m hg
  split at h
  case h_2 => cases h
  rename_i es hm
  split at h
  case h_2 => cases h
  rename_i ks hks
  obtain ⟨hcond, h⟩ := bif_some h
  simp only [Bool.and_eq_true, List.all_eq_true] at hcond
  have hn : ∀ n ∈ ks, -9223372036854775808 ≤ n ∧ n ≤ 9223372036854775807 := fun n hx => by
    have := hcond.1 n hx
    simpa [inI64] using this
  have hsz : ks.length ≤ 1048576 := Nat.le_of_ble_eq_true hcond.2
  intro G w args K hlen ha
  match args, hlen with
  | ⟨[v0]⟩, _ =>
    have hv := (ha 0 _ v0 rfl rfl).1
    cases hv with
    | @clo _ _ _ vf vc hl1 hh1 hl2 hh2 _ =>
      have e1 : vf = #[] := by apply Array.eq_empty_of_size_eq_zero; simpa using hl1.symm
      obtain ⟨p, rfl⟩ : ∃ p, vc = #[p] := by
        have : vc.size = 1 := by simpa using hl2.symm
        exact ⟨vc[0], by apply Array.ext <;> simp [this]; intro i hi; have : i = 0 := by omega
                         subst this; rfl⟩
      subst e1
      have hp := hh2 0 _ p rfl rfl
      cases hp with
      | @gp _ _ b hb =>
        obtain ⟨b', k1, k2, ⟨arr, T, fr, q1, q2, q3, q4⟩, k4⟩ := K.gbox g _ hg (by simp)
        rw [hb] at k1; cases k1
        obtain ⟨u, r1, r2, r3⟩ := q4 0 _ rfl
        cases r2 with
        | @gm _ bm hbm =>
          obtain ⟨bm', m1, m2, marr, clk, m3, m4, m5, m6⟩ := K.gobj m _ hm rfl
          rw [hbm] at m1; cases m1
          have hb0 : b.2.1 = 0 := by
            rcases q2.2 with h | h
            · exact h
            · exact absurd h (show ¬ 2 ≤ 1 by decide)
          have hcell : w.cell? ⟨b.1, 0, none⟩ = some (.map (some bm.1)) := by
            rw [hb0] at r1
            simp [World.cell?, q1, r1]
          rw [hb0]
          have hkeys : marr.toList.map (·.key) = ks.map encZ := by
            have hsp := keysI_spec hks
            have hl : es.length = ks.length := by simpa using congrArg List.length hsp
            apply List.ext_getElem?
            intro i
            rw [List.getElem?_map, List.getElem?_map]
            cases h1 : es[i]? with
            | none =>
              have h0 : es.length ≤ i := List.getElem?_eq_none_iff.1 h1
              have e1 : marr.toList[i]? = none := List.getElem?_eq_none_iff.2 (by simp; omega)
              have e2 : ks[i]? = none := List.getElem?_eq_none_iff.2 (by omega)
              rw [e1, e2]; rfl
            | some pe =>
              have h0 : i < es.length := (List.getElem?_eq_some_iff.1 h1).1
              obtain ⟨e, he⟩ : ∃ e, marr[i]? = some e := ⟨_, Array.getElem?_eq_getElem (by omega)⟩
              obtain ⟨n, hn⟩ : ∃ n, ks[i]? = some n := ⟨_, List.getElem?_eq_getElem (by omega)⟩
              have hE := (m5 i pe e h1 he).1
              have h3 : (es.map (·.1))[i]? = (ks.map fun n => AVal.at (.int .i64 n))[i]? := by rw [hsp]
              rw [List.getElem?_map, List.getElem?_map, h1, hn] at h3
              have h4 : pe.1 = .at (.int .i64 n) := by simpa using h3
              rw [h4] at hE
              have h5 : e.key = .int .i64 n := at_eq hE
              rw [Array.getElem?_toList, he, hn]
              simp [h5, encZ]
          refine (sortedN hkf (K.ownlt _ _ k2) hcell m3 m6 hkeys hn hsz).mono ?_
          rintro en w' ⟨v, rfl, hrow, hnil, hbel⟩
          split at h
          · cases h
            have hv0 : v = .slice none 0 0 := hnil.2 rfl
            subst hv0
            obtain ⟨K', F'⟩ := K.below hbel
            exact ⟨G, F', _, rfl, .nil, K'⟩
          · rename_i k0 kl _
            cases h
            obtain ⟨_, ⟨hz1, hz⟩ | ⟨gb, cap, cur, rfl, s1, s2, s3, s4, s5, s6⟩⟩ := hrow
            · exact absurd (hnil.1 hz1) (by simp)
            · have hlen2 : (sortI (k0 :: kl)).length = (k0 :: kl).length := (sortI_perm _).length_eq
              obtain ⟨G', K', F', hi⟩ := K.newBox hbel (cs := (sortI (k0 :: kl)).map fun n => .at (.int .i64 n)) s1 (Array.getElem?_eq_some_iff.1 s2).1 s2 (by
                  have := congrArg List.length s6
                  simp at this ⊢; omega) (fun j c hc => by
                rw [List.getElem?_map] at hc
                cases hj : (sortI (k0 :: kl))[j]? with
                | none => rw [hj] at hc; cases hc
                | some n =>
                  rw [hj] at hc
                  cases hc
                  have h7 : (((sortI (k0 :: kl)).map encZ))[j]? = some (encZ n) := by rw [List.getElem?_map, hj]; rfl
                  have hjl : j < (sortI (k0 :: kl)).length := (List.getElem?_eq_some_iff.1 hj).1
                  refine ⟨.int .i64 n, ?_, .at rfl, rfl⟩
                  have := congrArg (·[j]?) s6
                  simp only [h7] at this
                  rw [List.getElem?_take, if_pos (by rw [Nat.mul_one, ← hlen2]; exact hjl), Array.getElem?_toList] at this
                  exact this)
              exact ⟨G', F', _, rfl, .gs hi s3 (by simp; omega), K'⟩
end Go.Abs
namespace Go.Abs
set_option maxRecDepth 100000
set_option linter.unusedVariables false
/-! 24 wharfage/wharfagelaw08.Page -/
theorem law08_Page.main (C : CallF) (N : Nat) (n0 : Int) (sg1 : Sg) :
    evalF C N law08_Page.a [AVal.at (Value.int IntKind.u8 n0)] sg1 =
    if (0 : Int) < (480 : Int) ∧ (480 : Int) ≤ (480 : Int) ∧ (480 : Int) * (↑(1 : Nat) : Int) ≤ (35184372088832 : Int) then
      iter (law08_Page.R0 C N) N
        (mkS [(0 : Nat), (3 : Nat), (7 : Nat), (8 : Nat)]
          [Slot.v (AVal.at (Value.int IntKind.u8 n0)) false, Slot.v (AVal.gs (List.length sg1) (1 : Nat) (0 : Nat) (Int.toNat (480 : Int))) false,
            Slot.v (AVal.at (Value.int IntKind.i64 (↑(Int.toNat (480 : Int)) : Int))) false, Slot.v (AVal.at (Value.int IntKind.i64 (0 : Int))) false]
          [none, none, none, none] (RVal.sg (sg1 ++ [Box.mk (List.replicate (Int.toNat (480 : Int)) [AVal.at (Value.int IntKind.u8 (0 : Int))]).flatten])))
        (law08_Page.K0 C N)
    else none := by kernel_rfl
theorem law08_Page.r0 (C : CallF) (N : Nat) (n0 : Int) (m1 : Nat) (m2 : Nat) (n3 : Int) (n4 : Int) (sg5 : Sg) (k : Ex → St → R) :
    law08_Page.R0 C N
      (mkS [(0 : Nat), (3 : Nat), (7 : Nat), (8 : Nat)]
        [Slot.v (AVal.at (Value.int IntKind.u8 n0)) false, Slot.v (AVal.gs m1 (1 : Nat) (0 : Nat) m2) false, Slot.v (AVal.at (Value.int IntKind.i64 n3)) false,
          Slot.v (AVal.at (Value.int IntKind.i64 n4)) false]
        [none, none, none, none] (RVal.sg sg5))
      k =
    if decide (n4 < n3) = true then
      withO (elemV (1 : Nat) n4 (AVal.gs m1 (1 : Nat) (0 : Nat) m2)) fun (r : AVal) =>
        withO (storeG none sg5 r (1 : Nat) (AVal.at (Value.int IntKind.u8 n0))) fun (sg : Sg) =>
          k Ex.normal
            (mkS [(0 : Nat), (3 : Nat), (7 : Nat), (8 : Nat)]
              [Slot.v (AVal.at (Value.int IntKind.u8 n0)) false, Slot.v (AVal.gs m1 (1 : Nat) (0 : Nat) m2) false, Slot.v (AVal.at (Value.int IntKind.i64 n3)) false,
                Slot.v (AVal.at (Value.int IntKind.i64 (IntKind.i64.wrap (n4 + (1 : Int))))) false]
              [none, none, none, none] (RVal.sg sg))
    else k (Ex.exit (0 : Nat)) (mkS [(3 : Nat)] [Slot.v (AVal.gs m1 (1 : Nat) (0 : Nat) m2) false] [none] (RVal.sg sg5)) := by kernel_rfl
theorem law08_Page.k0_1 (C : CallF) (N : Nat) (m0 : Nat) (m1 : Nat) (sg2 : Sg) :
    law08_Page.K0 C N (Ex.exit (0 : Nat)) (mkS [(3 : Nat)] [Slot.v (AVal.gs m0 (1 : Nat) (0 : Nat) m1) false] [none] (RVal.sg sg2)) =
    withO (flatG sg2 (1 : Nat) (AVal.gs m0 (1 : Nat) (0 : Nat) m1)) fun (p : Nat × List AVal) =>
      withO (bytesOf p.snd) fun (bs : List UInt8) => some (Out.ret (AVal.at (Value.string (ByteArray.mk (bs.toArray)))) sg2) := by kernel_rfl

end Go.Abs
namespace Go.Abs
open Go
theorem wO {α β : Type} (a : β) (c : β → Option α) : withO (some a) c = c a := rfl
theorem wI {α : Type} (k : IntKind) (a : Int) (c : Int → Option α) : withI k (some (.at (.int k a))) c = c a := by simp only [withI]; cases k <;> rfl
theorem ne_nil_of_len {α : Type} {l : List α} (h : 0 < l.length) : l.isEmpty = false := by cases l <;> simp_all
theorem loadC_gp {sg : Sg} {g o : Nat} {B : Box} (h : sg[g]? = some B) (h0 : 0 < B.cells.length) : loadC none sg (.gp g o) = some (B.cells, o) := by
  simp only [loadC, h, withO, ne_nil_of_len h0, cond_false]
theorem storeG_gp {sg : Sg} {g o n : Nat} {B : Box} {v : AVal} (h : sg[g]? = some B) (hv : v.cells.length = n) (ho : o + n ≤ B.cells.length) (h0 : 0 < B.cells.length) :
    storeG none sg (.gp g o) n v = some (sg.set g (.mk (splice B.cells o v.cells))) := by
  have e1 : Nat.beq v.cells.length n = true := by rw [hv]; exact Nat.beq_refl n
  simp only [storeG, h, withO, ne_nil_of_len h0, cond_false, e1, Nat.ble_eq_true_of_le ho, cond_true, bindL]
theorem elemV_gs {g sz o len : Nat} {n : Int} (h0 : 0 ≤ n) (h1 : n < len) : elemV sz n (.gs g sz o len) = some (.gp g (o + n.toNat * sz)) := by
  simp only [elemV, Nat.beq_refl, cond_true, if_pos (And.intro h0 h1)]
theorem flatG_gs {sg : Sg} {g sz o n : Nat} {B : Box} (h : sg[g]? = some B) (h1 : o + n * sz ≤ B.cells.length) (h0 : 0 < B.cells.length) :
    flatG sg sz (.gs g sz o n) = some (n, (B.cells.drop o).take (n * sz)) := by
  have e : (Nat.ble (o + n * sz) B.cells.length && Nat.blt 0 B.cells.length) = true := by
    rw [Nat.ble_eq_true_of_le h1]; exact Nat.ble_eq_true_of_le h0
  simp only [flatG, Nat.beq_refl, cond_true, h, e]
theorem app1_nil {ty : Option TypeId} {esz bytes sz m : Nat} {sg : Sg} {fl : List AVal} : app1 ty esz bytes sg (.sl true sz []) m fl = some (.gs sg.length esz 0 m, sg ++ [boxT ty fl]) := rfl
theorem app1_gso {esz bytes n m g o : Nat} {sg : Sg} {fl : List AVal} {B : Box} (h : sg[g]? = some B) (ht : okT none B = true) (hl : B.cells.length = o + n * esz) (h0 : 0 < B.cells.length) (hb : (n + m) * bytes ≤ 35184372088832) (ho : o = 0 ∨ 0 < n * esz) :
    app1 none esz bytes sg (.gs g esz o n) m fl = some (.gs sg.length esz 0 (n + m), sg.set g (.mk []) ++ [boxT none (B.cells.drop o ++ fl)]) := by
  have e : (okT none B && (Nat.beq B.cells.length (o + n * esz) && Nat.blt 0 B.cells.length)) = true := by
    rw [ht, hl, Nat.beq_refl]; rw [hl] at h0; exact Nat.ble_eq_true_of_le h0
  have e2 : (Nat.beq esz esz && (Nat.beq o 0 || Nat.blt 0 (n * esz))) = true := by
    rw [Nat.beq_refl]
    rcases ho with rfl | h1
    · rfl
    · have h2 : Nat.blt 0 (n * esz) = true := Nat.ble_eq_true_of_le h1
      rw [h2]; cases Nat.beq o 0 <;> rfl
  simp only [app1, e2, cond_true, h, withO, e, if_pos hb]
theorem app1_gs {esz bytes n m g : Nat} {sg : Sg} {fl : List AVal} {B : Box} (h : sg[g]? = some B) (ht : okT none B = true) (hl : B.cells.length = n * esz) (h0 : 0 < B.cells.length) (hb : (n + m) * bytes ≤ 35184372088832) :
    app1 none esz bytes sg (.gs g esz 0 n) m fl = some (.gs sg.length esz 0 (n + m), sg.set g (.mk []) ++ [boxT none (B.cells ++ fl)]) :=
  app1_gso h ht (by omega) h0 hb (.inl rfl)
end Go.Abs
namespace Go.Abs
open Go.Proofs
set_option linter.unusedSimpArgs false
set_option linter.unusedVariables false
set_option maxRecDepth 100000
theorem pageAt_len (n : Int) {i : Nat} (h : i ≤ 480) : (pageAt n i).length = 480 := by simp [pageAt]; omega
theorem page_splice (n : Int) {i : Nat} (h : i < 480) : splice (pageAt n i) i [cell8 n] = pageAt n (i + 1) := by
  have h1 : (pageAt n i).take i = List.replicate i (cell8 n) := by
    rw [pageAt, List.take_append_of_le_length (by simp)]; simp
  have h2 : (pageAt n i).drop (i + 1) = List.replicate (480 - (i + 1)) (cell8 0) := by
    rw [pageAt, List.drop_append, List.drop_eq_nil_of_le (by simp)]; simp; omega
  simp only [splice, List.length_singleton]
  rw [h1, h2, pageAt, List.replicate_succ']
  simp
theorem bytes_rep (n : Int) : ∀ m, bytesOf (List.replicate m (cell8 n)) = some (List.replicate m (UInt8.ofNat n.toNat))
  | 0 => rfl
  | m + 1 => by
    rw [List.replicate_succ]
    show (match bytesOf (List.replicate m (cell8 n)) with | some bs => some (UInt8.ofNat n.toNat :: bs) | none => none) = _
    rw [bytes_rep n m]; rfl
def pgSt (n : Int) (i : Nat) (sg : Sg) : St := mkS [0, 3, 7, 8]
    [.v (.at (.int .u8 n)) false, .v (.gs sg.length 1 0 480) false, .v (.at (.int .i64 480)) false, .v (.at (.int .i64 (i : Int))) false]
    [none, none, none, none] (.sg (sg ++ [.mk (pageAt n i)]))
theorem pg_at (n : Int) (i : Nat) (sg : Sg) : (sg ++ [Box.mk (pageAt n i)])[sg.length]? = some (.mk (pageAt n i)) := by simp
variable {C : CallF} {N : Nat}
theorem pg_round {n : Int} {i : Nat} {sg : Sg} (h : i < 480) (k : Ex → St → R) : law08_Page.R0 C N (pgSt n i sg) k = k .normal (pgSt n (i + 1) sg) := by
  unfold pgSt
  have e1 : ((i : Nat) : Int).toNat = i := by simp
  have hl := pageAt_len n (Nat.le_of_lt h)
  rw [law08_Page.r0, if_pos (by simp; omega), elemV_gs (by omega) (by omega)]
  rw [wO, storeG_gp (n := 1) (v := .at (.int .u8 n)) (pg_at n i sg) rfl (by simp only [Box.cells_mk, hl, e1]; omega) (by simp only [Box.cells_mk, hl]; decide)]
  rw [wO]
  simp only [Box.cells_mk, e1]
  have e4 : splice (pageAt n i) (0 + i * 1) [AVal.at (Value.int IntKind.u8 n)] = pageAt n (i + 1) := by
    rw [Nat.zero_add, Nat.mul_one]; exact page_splice n h
  show k _ (mkS _ _ _ (.sg (List.set _ _ (.mk (splice (pageAt n i) (0 + i * 1) [AVal.at (Value.int IntKind.u8 n)]))))) = _
  rw [e4, i64_id (by omega)]
  congr 2
  simp
theorem pg_loop {n : Int} {sg : Sg} : ∀ (m i M : Nat), i + m = 480 → m < M →
    iter (law08_Page.R0 C N) M (pgSt n i sg) (law08_Page.K0 C N) = some (.ret (.at (.string ⟨⟨List.replicate 480 (UInt8.ofNat n.toNat)⟩⟩)) (sg ++ [.mk (pageAt n 480)]))
  | 0, i, M + 1, hi, hM => by
    obtain rfl : i = 480 := by omega
    show law08_Page.R0 C N _ _ = _
    unfold pgSt
    rw [law08_Page.r0, if_neg (by simp)]
    show law08_Page.K0 C N _ _ = _
    have hl := pageAt_len n (Nat.le_refl 480)
    rw [law08_Page.k0_1, flatG_gs (pg_at n 480 sg) (by simp only [Box.cells_mk, hl]; decide) (by simp only [Box.cells_mk, hl]; decide)]
    have e2 : List.take (480 * 1) (List.drop 0 (pageAt n 480)) = List.replicate 480 (cell8 n) := by simp [pageAt]
    simp only [Box.cells_mk, withO, e2, bytes_rep]
  | m + 1, i, M + 1, hi, hM => by
    have ih := pg_loop m (i + 1) M (n := n) (sg := sg) (by omega) (by omega)
    rw [← ih]
    show law08_Page.R0 C N _ _ = _
    rw [pg_round (by omega)]
    rfl
  | _, _, 0, _, hM => by omega
def noC : CallF := fun _ _ _ => none
theorem noC_sound : SoundC Tryz.prog noC := fun f args sg out h => by cases h
theorem page_ev (n : Int) (sg : Sg) : evalF noC 500 law08_Page.a [.at (.int .u8 n)] sg = some (.ret (.at (.string ⟨⟨List.replicate 480 (UInt8.ofNat n.toNat)⟩⟩)) (sg ++ [.mk (pageAt n 480)])) := by
  rw [law08_Page.main, if_pos (by decide)]
  have key := pg_loop (C := noC) (N := 500) (n := n) (sg := sg) 480 0 500 rfl (by decide)
  have e : (List.replicate (Int.toNat 480) [AVal.at (Value.int IntKind.u8 0)]).flatten = pageAt n 0 := by
    show (List.replicate 480 [cell8 0]).flatten = _
    rw [List.flatten_replicate_singleton]
    simp [pageAt]
  rw [e]
  exact key
theorem leafPage : Good 24 (fun _ _ xs sg => ovPage xs sg) := by
  intro C N xs sg out _ h
  replace h : ovPage xs sg = some out := h
  unfold ovPage at h
  split at h
  case h_2 => cases h
  rename_i n
  cases h
  exact leafF Tryz.func24 law08_Page.made law08_Page.fine (nb (by kernel_rfl)) (ne_of_beq (by kernel_rfl)) (by kernel_rfl) noC 500 _ _ _ noC_sound (page_ev n sg)
end Go.Abs
