/- THE ENGINE, part 21: functions. -/
import Derived.Test.YtafmbianlodemaaSnd17
namespace Go.Abs
set_option linter.unusedSectionVars false
set_option linter.unusedVariables false
set_option linter.unusedSimpArgs false
section
variable {P : Program} {C : CallF} {nt : Nat}

/-- Of a frame that begins. -/
theorem start_rel {G : Gh} {w : World} {as : List AVal} {sg : Sg} {args : Array Value} (K : GRel G sg w) (hl : as.length = args.size)
    (hv : ∀ (i : Nat) a v, as[i]? = some a → args[i]? = some v → VR G.Z G.ι a v ∧ ∀ vs, a ≠ .tup vs) (nt : Nat) (hnt : args.size ≤ nt) :
    Rel G nt (start as sg) (args ++ Array.replicate (nt - args.size) undef) w := by
  refine ⟨by simp; omega, fun i s hi => ?_, fun i B hB => ?_, fun s hs => ?_, fun s hs => ?_, fun a v h => ?_, K.ownlt⟩
  · simp only [start] at hi
    split at hi
    · rename_i a ha
      cases hi
      have hlt : i < args.size := by rw [← hl]; exact (List.getElem?_eq_some_iff.1 ha).1
      have : (args ++ Array.replicate (nt - args.size) undef).getD i undef = args[i] := by
        rw [Array.getD_eq_getD_getElem?, Array.getElem?_append_left hlt, Array.getElem?_eq_getElem hlt]; rfl
      rw [this]
      exact slotV (hv i a _ ha (Array.getElem?_eq_getElem hlt)).1
    · cases hi
  · simp [start] at hB
  · simp [start] at hs; subst hs; exact K.gbox
  · simp [start] at hs; subst hs; exact K.gdom
  · obtain ⟨h1, h2, h3⟩ := K.frz a v h
    exact ⟨h1, h2, fun o ho => by rw [h3] at ho; cases ho⟩

inductive ResOK (P : Program) : ResultVar → ARes → Prop
  | tmp (t : Nat) : ResOK P (.tmp t) (.tmp t)
  | cell {t : Nat} {ty : TypeId} {ks : List CK} {agg : Bool} (ha : isAggT P ty = some agg) (hs : sizeT P ty = some ks.length) : ResOK P (.cell t ty) (.cell t ks agg)

def resV (tmps : Array Value) : ResultVar → Sem Value
  | .tmp t => pure (tmps.getD t undef)
  | .cell t ty => do loadVar ty (← asAddr (tmps.getD t undef))

theorem results_eq (fn : Func) (tmps : Array Value) : results fn tmps = (do let vs ← fn.results.mapM (resV tmps); pure (if h : vs.size = 1 then vs[0] else .tuple vs)) := by
  unfold results
  congr 1

theorem res_one {G : Gh} {st : St} {a : Act} {w : World} (H : Rel G nt st a.tmps w) {r : ResultVar} {ar : ARes} (hr : ResOK P r ar) {out : Out} {c : AVal → R} (h : resOf st ar c = some out) :
    ∃ v u, (resV a.tmps r).run P w = .ok u w ∧ VR G.Z G.ι v u ∧ c v = some out := by
  cases hr with
  | tmp t =>
    simp only [resOf] at h
    split at h
    · rename_i v f hs
      have h0 := (rdT_slot H hs).1
      split at h
      · cases h
      · rename_i hj
        rcases h0 with h0 | h0
        · exact absurd h0 hj
        · exact ⟨v, _, rfl, h0, h⟩
    · cases h
  | cell ha hs =>
    simp only [resOf] at h
    split at h
    · rename_i b off hsl
      obtain ⟨blk, h1, h2, h3⟩ := rdT_slot H hsl
      split at h
      · rename_i B hB
        obtain ⟨b', h4, h5, h6⟩ := H.lbox b B hB
        rw [h1] at h4; cases h4
        obtain ⟨v, x, hx, hv, hc⟩ := load_row (P := P) h6.row ha hs h
        refine ⟨v, x, ?_, hv, hc⟩
        simp only [resV, h3, Sem.run_bind, asAddr, Sem.run_pure, Result.andThen_ok]
        simpa using hx
      · cases h
    · rename_i g off f hsl
      have h0 := (rdT_slot H hsl).1
      split at h
      · rename_i sg hsg
        split at h
        · rename_i B hB
          have hne : B.cells ≠ [] := fun e => by rw [e] at h; cases h
          have hE : B.cells.isEmpty = false := by
            cases hE : B.cells.isEmpty with
            | true => exact absurd (List.isEmpty_iff.1 hE) hne
            | false => rfl
          rw [hE, cond_false] at h
          rcases h0 with h0 | h0
          · cases h0
          generalize he : a.tmps.getD _ undef = u at h0
          cases h0 with
          | gp hg =>
            obtain ⟨b', h4, h5, h6, _⟩ := H.gbox sg hsg g B hB hne
            rw [hg] at h4; cases h4
            obtain ⟨v, x, hx, hv, hc⟩ := load_row (P := P) h6.row ha hs h
            refine ⟨v, x, ?_, hv, hc⟩
            simp only [resV, he, Sem.run_bind, asAddr, Sem.run_pure, Result.andThen_ok]
            simpa using hx
        · cases h
      · cases h
    · cases h

theorem res_all {G : Gh} {st : St} {a : Act} {w : World} (H : Rel G nt st a.tmps w) : ∀ (rs : List ResultVar) (ars : List ARes), rs.length = ars.length → (∀ (i : Nat) r ar, rs[i]? = some r → ars[i]? = some ar → ResOK P r ar) →
    ∀ {out : Out} {c : List AVal → R}, resAll st ars c = some out →
    ∃ vs us, (rs.mapM (resV a.tmps) : Sem (List Value)).run P w = .ok us w ∧ vs.length = us.length ∧ us.length = rs.length ∧ (∀ (i : Nat) v u, vs[i]? = some v → us[i]? = some u → VR G.Z G.ι v u) ∧ c vs = some out
  | [], ars, hl, hr, out, c, h => by
    cases ars with
    | cons => simp at hl
    | nil => exact ⟨[], [], by simp, rfl, rfl, by simp, h⟩
  | r :: rs, ars, hl, hr, out, c, h => by
    cases ars with
    | nil => simp at hl
    | cons ar ars =>
      simp only [resAll] at h
      obtain ⟨v, u, h1, h2, h3⟩ := res_one H (hr 0 r ar rfl rfl) h
      obtain ⟨vs, us, h4, h5, h6, h7, h8⟩ := res_all H rs ars (by simpa using hl) (fun i r ar e1 e2 => hr (i + 1) r ar (by simpa using e1) (by simpa using e2)) h3
      refine ⟨v :: vs, u :: us, ?_, by simp [h5], by simp [h6], fun i v' u' e1 e2 => ?_, h8⟩
      · rw [List.mapM_cons, Sem.run_bind, h1, Result.andThen_ok, Sem.run_bind, h4]; rfl
      · cases i with
        | zero => simp at e1 e2; subst e1; subst e2; exact h2
        | succ i => exact h7 i v' u' (by simpa using e1) (by simpa using e2)

theorem fun_ok {f : FuncId} {fn : Func} {c : Code} {af : AFun} {N : Nat} (hf : P.funcs[f]? = some fn) (hb : fn.body = some c) (hm : Matches P C fn.ntmps c af.body) (hnp : af.np ≤ fn.ntmps)
    (hrl : fn.results.toList.length = af.res.length) (hr : ∀ (i : Nat) r ar, fn.results.toList[i]? = some r → af.res[i]? = some ar → ResOK P r ar)
    {as : List AVal} {sg : Sg} {out : Out} (h : evalF C N af as sg = some out) : CallOK P f as sg out := by
  intro G w args K hl hv
  unfold evalF at h
  obtain ⟨h1, h2⟩ := bif_some h
  have h1 := Nat.eq_of_beq_eq_true h1
  have hsz : args.size ≤ fn.ntmps := by omega
  refine calls_of_wp hf hb ?_
  have H := start_rel K hl hv fn.ntmps hsz
  have done : ∀ st G' (a : Act) w', finish af .ret st = some out → Rel G' fn.ntmps st a.tmps w' → a.defers = [] → Fr G w G' w' →
      a.defers = [] ∧ ∃ v, (results fn a.tmps).run P w' = .ok v w' ∧ ∃ G', Fr G w G' w' ∧ OutOK G' w' out (.returned v) := by
    intro st G' a w' hfin R' hd F'
    refine ⟨hd, ?_⟩
    simp only [finish] at hfin
    obtain ⟨vs, us, e1, e2, e3, e4, e5⟩ := res_all R' fn.results.toList af.res hrl hr hfin
    unfold withSg at e5
    split at e5
    case h_2 => cases e5
    rename_i sg' hsg'
    have hrun : (results fn a.tmps).run P w' = .ok (if h : us.toArray.size = 1 then us.toArray[0] else .tuple us.toArray) w' := by
      rw [results_eq, Sem.run_bind, Array.mapM_eq_mapM_toList, Sem.run_map, e1]
      rfl
    have Fc : Fr G w G'.callee w' := ⟨F'.os, F'.tape, F'.output, F'.size, F'.Z, F'.ι, fun b hb ho => by
      obtain ⟨k1, k2, k3⟩ := F'.rest b hb ho
      exact ⟨k1, by simp [Gh.callee, k2], k3⟩⟩
    refine ⟨_, hrun, G'.callee, Fc, ?_⟩
    split at e5
    · rename_i v0
      cases e5
      cases us with
      | nil => simp at e2
      | cons u us =>
        cases us with
        | cons => simp at e2
        | nil => exact ⟨u, by simp, e4 0 v0 u rfl rfl, R'.toG hsg'⟩
    · rename_i hne
      cases e5
      have hnl : us.length ≠ 1 := by
        intro h1
        rw [← e2] at h1
        obtain ⟨x, hx⟩ := List.length_eq_one_iff.1 h1
        exact hne x hx
      exact ⟨.tuple us.toArray, by simp [hnl], .tup (by simp [e2]) (fun i v u x1 x2 => e4 i v u x1 (by simpa using x2)), R'.toG hsg'⟩
  refine code_ok N c af.body hm _ G w [] out (finish af) ⟨fun e st G' a w' hfin R' hd F' => ?_, fun v sg' G' st a u w' ho hv R' hs hd F' => ?_⟩ G _ _ w H rfl (Fr.refl _ _) h2
  · cases e with
    | normal => exact done st G' a w' hfin R' hd F'
    | exit id => simp [finish] at hfin
    | ret => exact done st G' a w' hfin R' hd F'
  · subst ho
    have Fc : Fr G w G'.callee w' := ⟨F'.os, F'.tape, F'.output, F'.size, F'.Z, F'.ι, fun b hb ho => by
      obtain ⟨k1, k2, k3⟩ := F'.rest b hb ho
      exact ⟨k1, by simp [Gh.callee, k2], k3⟩⟩
    exact ⟨hd, G'.callee, Fc, u, rfl, hv, R'.toG hs⟩
end
end Go.Abs
