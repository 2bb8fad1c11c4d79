/- The row's closed facts, one by one. Printed by a program of my own. -/
import Derived.Test.YtimoaolannkpcaaGreatRows
import Derived.JoinedOf
import Derived.KernelRfl
set_option linter.unusedVariables false
set_option linter.unusedSimpArgs false
set_option linter.unusedSectionVars false
namespace Go.Proofs.YtimoaolannkpcaaGreat
theorem andT {a b : Bool} (h : a = true) (k : b = true) : (a && b) = true := by rw [h, k]; rfl
theorem heapOnce_c0 : (Rows.heapOnceRow.wf (OpenSpec.ofChange Rows.heapOnceSpec)) = true := by kernel_rfl
theorem heapOnce_c1 : (laidOutB Tryz.prog) = true := by kernel_rfl
theorem heapOnce_c2 : (mapsRowed Tryz.prog) = true := by kernel_rfl
theorem heapOnce_c3 : (Tryz.f3.params.all (Tryz.prog.readableRec ·)) = true := by kernel_rfl
theorem heapOnce_c4 : (namedTie Tryz.prog Rows.heapOnceRow.named Rows.heapOnceSpec.vars) = true := by kernel_rfl
theorem heapOnce_c5 : ((Rows.heapOnceRow.stops == [])) = true := by kernel_rfl
theorem heapOnce_c6 : ((Tryz.prog.stops == [])) = true := by kernel_rfl
theorem heapOnce_c7 : ((Rows.heapOnceRow.knobs == [])) = true := by kernel_rfl
theorem heapOnce_c8 : ((Tryz.prog.stopKnobs == [])) = true := by kernel_rfl
theorem heapOnce_c9 : ((Rows.heapOnceRow.inPlace == Tryz.prog.inPlace 3)) = true := by kernel_rfl
theorem heapOnce_c10 : ((Rows.heapOnceRow.unfollowed == Tryz.prog.unfollowed 3)) = true := by kernel_rfl
theorem heapOnce_c11 : ((Rows.heapOnceRow.recurses == Tryz.prog.recurses 3)) = true := by kernel_rfl
theorem heapOnce_c12 : ((Rows.heapOnceRow.named == Tryz.prog.varsNamed 3)) = true := by kernel_rfl
theorem heapOnce_c13 : ((Rows.heapOnceRow.maps == (Tryz.f3.params.toList ++ Rows.heapOnceSpec.plain.varTypes Tryz.prog).any (Tryz.prog.mapsRec ·))) = true := by kernel_rfl
theorem heapOnce_c14 : ((Rows.heapOnceRow.ifaces == (Tryz.f3.params.toList ++ Rows.heapOnceSpec.plain.varTypes Tryz.prog).any (Tryz.prog.ifacesRec ·))) = true := by kernel_rfl
theorem heapOnce_c15 : ((Rows.heapOnceRow.mapsOut == Tryz.prog.mapsAmong Tryz.f3.resultTypes.toList)) = true := by kernel_rfl
theorem heapOnce_c16 : ((Rows.heapOnceRow.loops == (Tryz.f3.params.toList ++ Rows.heapOnceSpec.plain.varTypes Tryz.prog).any (Tryz.prog.loopsFrom ·))) = true := by kernel_rfl
theorem heapOnce_c17 : ((Rows.heapOnceRow.wideKeys == (Tryz.f3.params.toList ++ Rows.heapOnceSpec.plain.varTypes Tryz.prog ++ Tryz.f3.resultTypes.toList).any (Tryz.prog.wideKeysFrom ·))) = true := by kernel_rfl
theorem heapOnce_c18 : (Rows.heapOnceSpec.vars.all (Tryz.prog.varReadable ·)) = true := by kernel_rfl
theorem heapOnce_c19 : (Tryz.f3.resultTypes.all (fun t => Tryz.prog.readableRec t && decide (t < Tryz.prog.types.size))) = true := by kernel_rfl
theorem heapOnce_c20 : ((Rows.heapOnceRow.ifacesOut == Tryz.f3.resultTypes.toList.any (Tryz.prog.ifacesRec ·))) = true := by kernel_rfl
theorem heapOnce_c21 : ((Rows.heapOnceRow.loopsOut == Tryz.f3.resultTypes.toList.any (Tryz.prog.loopsFrom ·))) = true := by kernel_rfl
theorem heapOnce_c22 : ((Rows.heapOnceRow.plainKeys == Tryz.prog.plainKeys)) = true := by kernel_rfl
theorem heapOnce_c23 : (Rows.heapOnceRow.shortTexts.isNone) = true := by kernel_rfl
theorem heapOnce_c24 : (Tryz.prog.stopsHeard) = true := by kernel_rfl
theorem heapOnce_c25 : (Tryz.prog.mayEnter) = true := by kernel_rfl
theorem heapOnce_c26 : ((Rows.heapOnceRow.lifted == Tryz.prog.liftsFinal)) = true := by kernel_rfl
theorem heapOnce_c27 : ((Tryz.prog.make == some Rows.heapOnceRow.make)) = true := by kernel_rfl
theorem heapOnce_c28 : ((Rows.heapOnceRow.kinds == (if Rows.heapOnceRow.domain.isEmpty then [] else Tryz.f3.params.toList.map fun t => match Tryz.prog.underlying t with | some (.int k) => some k | _ => none))) = true := by kernel_rfl
theorem heapOnce_c29 : ((Rows.heapOnceRow.pinned == Rows.heapOnceRow.pinnedBy)) = true := by kernel_rfl
theorem heapOnce_c30 : ((Rows.heapOnceRow.veiled == (Tryz.f3.params.toList ++ Rows.heapOnceSpec.plain.varTypes Tryz.prog ++ Tryz.f3.resultTypes.toList).any (Tryz.prog.veiledRec ·))) = true := by kernel_rfl
theorem heapOnce_c31 : (Rows.heapOnceRow.veiledFits Tryz.prog Tryz.f3.params.toList (Tryz.f3.params.toList ++ Rows.heapOnceSpec.plain.varTypes Tryz.prog ++ Tryz.f3.resultTypes.toList)) = true := by kernel_rfl
theorem heapOnceFn : Tryz.pinned.checked.prog.funcNamed Rows.heapOnceRow.func = some 3 := by kernel_rfl
set_option maxRecDepth 100000 in
theorem heapOnceClosed : joinedFacts Tryz.prog 3 Tryz.f3 Rows.heapOnceSpec Rows.heapOnceRow = true := (andT (andT (andT (andT (andT (andT (andT (andT (andT (andT (andT (andT (andT (andT (andT (andT (andT (andT (andT (andT (andT (andT (andT (andT (andT (andT (andT (andT (andT (andT (andT heapOnce_c0 heapOnce_c1) heapOnce_c2) heapOnce_c3) heapOnce_c4) heapOnce_c5) heapOnce_c6) heapOnce_c7) heapOnce_c8) heapOnce_c9) heapOnce_c10) heapOnce_c11) heapOnce_c12) heapOnce_c13) heapOnce_c14) heapOnce_c15) heapOnce_c16) heapOnce_c17) heapOnce_c18) heapOnce_c19) heapOnce_c20) heapOnce_c21) heapOnce_c22) heapOnce_c23) heapOnce_c24) heapOnce_c25) heapOnce_c26) heapOnce_c27) heapOnce_c28) heapOnce_c29) heapOnce_c30) heapOnce_c31)
theorem heapOnceInst : Tryz.f3.isInstance Tryz.prog Rows.heapOnceRow.origin Rows.heapOnceRow.targs := of_decide_eq_true (by kernel_rfl)
theorem heapOnceWrap : Tryz.f3.isWrapper Tryz.prog Rows.heapOnceRow.wrapper Rows.heapOnceRow.mainSum := by
  unfold Func.isWrapper; first | (rw [if_pos (by decide +kernel)]; kernel_rfl) | (rw [if_neg (by decide +kernel)]; exact ⟨rfl, rfl⟩)
end Go.Proofs.YtimoaolannkpcaaGreat
