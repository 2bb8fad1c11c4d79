/- The row's closed facts, one by one. Printed by a program of my own. -/
import Derived.Test.YtimoaolannkpcaaGreatRows
import Derived.JoinedOf
import Derived.KernelRfl
set_option linter.unusedVariables false
set_option linter.unusedSimpArgs false
set_option linter.unusedSectionVars false
namespace Go.Proofs.YtimoaolannkpcaaGreat
theorem andT {a b : Bool} (h : a = true) (k : b = true) : (a && b) = true := by rw [h, k]; rfl
theorem pagesPrefix_c0 : (Rows.pagesPrefixRow.wf (OpenSpec.ofChange Rows.pagesPrefixSpec)) = true := by kernel_rfl
theorem pagesPrefix_c1 : (laidOutB Tryz.prog) = true := by kernel_rfl
theorem pagesPrefix_c2 : (mapsRowed Tryz.prog) = true := by kernel_rfl
theorem pagesPrefix_c3 : (Tryz.f5.params.all (Tryz.prog.readableRec ·)) = true := by kernel_rfl
theorem pagesPrefix_c4 : (namedTie Tryz.prog Rows.pagesPrefixRow.named Rows.pagesPrefixSpec.vars) = true := by kernel_rfl
theorem pagesPrefix_c5 : ((Rows.pagesPrefixRow.stops == [])) = true := by kernel_rfl
theorem pagesPrefix_c6 : ((Tryz.prog.stops == [])) = true := by kernel_rfl
theorem pagesPrefix_c7 : ((Rows.pagesPrefixRow.knobs == [])) = true := by kernel_rfl
theorem pagesPrefix_c8 : ((Tryz.prog.stopKnobs == [])) = true := by kernel_rfl
theorem pagesPrefix_c9 : ((Rows.pagesPrefixRow.inPlace == Tryz.prog.inPlace 5)) = true := by kernel_rfl
theorem pagesPrefix_c10 : ((Rows.pagesPrefixRow.unfollowed == Tryz.prog.unfollowed 5)) = true := by kernel_rfl
theorem pagesPrefix_c11 : ((Rows.pagesPrefixRow.recurses == Tryz.prog.recurses 5)) = true := by kernel_rfl
theorem pagesPrefix_c12 : ((Rows.pagesPrefixRow.named == Tryz.prog.varsNamed 5)) = true := by kernel_rfl
theorem pagesPrefix_c13 : ((Rows.pagesPrefixRow.maps == (Tryz.f5.params.toList ++ Rows.pagesPrefixSpec.plain.varTypes Tryz.prog).any (Tryz.prog.mapsRec ·))) = true := by kernel_rfl
theorem pagesPrefix_c14 : ((Rows.pagesPrefixRow.ifaces == (Tryz.f5.params.toList ++ Rows.pagesPrefixSpec.plain.varTypes Tryz.prog).any (Tryz.prog.ifacesRec ·))) = true := by kernel_rfl
theorem pagesPrefix_c15 : ((Rows.pagesPrefixRow.mapsOut == Tryz.prog.mapsAmong Tryz.f5.resultTypes.toList)) = true := by kernel_rfl
theorem pagesPrefix_c16 : ((Rows.pagesPrefixRow.loops == (Tryz.f5.params.toList ++ Rows.pagesPrefixSpec.plain.varTypes Tryz.prog).any (Tryz.prog.loopsFrom ·))) = true := by kernel_rfl
theorem pagesPrefix_c17 : ((Rows.pagesPrefixRow.wideKeys == (Tryz.f5.params.toList ++ Rows.pagesPrefixSpec.plain.varTypes Tryz.prog ++ Tryz.f5.resultTypes.toList).any (Tryz.prog.wideKeysFrom ·))) = true := by kernel_rfl
theorem pagesPrefix_c18 : (Rows.pagesPrefixSpec.vars.all (Tryz.prog.varReadable ·)) = true := by kernel_rfl
theorem pagesPrefix_c19 : (Tryz.f5.resultTypes.all (fun t => Tryz.prog.readableRec t && decide (t < Tryz.prog.types.size))) = true := by kernel_rfl
theorem pagesPrefix_c20 : ((Rows.pagesPrefixRow.ifacesOut == Tryz.f5.resultTypes.toList.any (Tryz.prog.ifacesRec ·))) = true := by kernel_rfl
theorem pagesPrefix_c21 : ((Rows.pagesPrefixRow.loopsOut == Tryz.f5.resultTypes.toList.any (Tryz.prog.loopsFrom ·))) = true := by kernel_rfl
theorem pagesPrefix_c22 : ((Rows.pagesPrefixRow.plainKeys == Tryz.prog.plainKeys)) = true := by kernel_rfl
theorem pagesPrefix_c23 : (Rows.pagesPrefixRow.shortTexts.isNone) = true := by kernel_rfl
theorem pagesPrefix_c24 : (Tryz.prog.stopsHeard) = true := by kernel_rfl
theorem pagesPrefix_c25 : (Tryz.prog.mayEnter) = true := by kernel_rfl
theorem pagesPrefix_c26 : ((Rows.pagesPrefixRow.lifted == Tryz.prog.liftsFinal)) = true := by kernel_rfl
theorem pagesPrefix_c27 : ((Tryz.prog.make == some Rows.pagesPrefixRow.make)) = true := by kernel_rfl
theorem pagesPrefix_c28 : ((Rows.pagesPrefixRow.kinds == (if Rows.pagesPrefixRow.domain.isEmpty then [] else Tryz.f5.params.toList.map fun t => match Tryz.prog.underlying t with | some (.int k) => some k | _ => none))) = true := by kernel_rfl
theorem pagesPrefix_c29 : ((Rows.pagesPrefixRow.pinned == Rows.pagesPrefixRow.pinnedBy)) = true := by kernel_rfl
theorem pagesPrefix_c30 : ((Rows.pagesPrefixRow.veiled == (Tryz.f5.params.toList ++ Rows.pagesPrefixSpec.plain.varTypes Tryz.prog ++ Tryz.f5.resultTypes.toList).any (Tryz.prog.veiledRec ·))) = true := by kernel_rfl
theorem pagesPrefix_c31 : (Rows.pagesPrefixRow.veiledFits Tryz.prog Tryz.f5.params.toList (Tryz.f5.params.toList ++ Rows.pagesPrefixSpec.plain.varTypes Tryz.prog ++ Tryz.f5.resultTypes.toList)) = true := by kernel_rfl
theorem pagesPrefixFn : Tryz.pinned.checked.prog.funcNamed Rows.pagesPrefixRow.func = some 5 := by kernel_rfl
set_option maxRecDepth 100000 in
theorem pagesPrefixClosed : joinedFacts Tryz.prog 5 Tryz.f5 Rows.pagesPrefixSpec Rows.pagesPrefixRow = true := (andT (andT (andT (andT (andT (andT (andT (andT (andT (andT (andT (andT (andT (andT (andT (andT (andT (andT (andT (andT (andT (andT (andT (andT (andT (andT (andT (andT (andT (andT (andT pagesPrefix_c0 pagesPrefix_c1) pagesPrefix_c2) pagesPrefix_c3) pagesPrefix_c4) pagesPrefix_c5) pagesPrefix_c6) pagesPrefix_c7) pagesPrefix_c8) pagesPrefix_c9) pagesPrefix_c10) pagesPrefix_c11) pagesPrefix_c12) pagesPrefix_c13) pagesPrefix_c14) pagesPrefix_c15) pagesPrefix_c16) pagesPrefix_c17) pagesPrefix_c18) pagesPrefix_c19) pagesPrefix_c20) pagesPrefix_c21) pagesPrefix_c22) pagesPrefix_c23) pagesPrefix_c24) pagesPrefix_c25) pagesPrefix_c26) pagesPrefix_c27) pagesPrefix_c28) pagesPrefix_c29) pagesPrefix_c30) pagesPrefix_c31)
theorem pagesPrefixInst : Tryz.f5.isInstance Tryz.prog Rows.pagesPrefixRow.origin Rows.pagesPrefixRow.targs := of_decide_eq_true (by kernel_rfl)
theorem pagesPrefixWrap : Tryz.f5.isWrapper Tryz.prog Rows.pagesPrefixRow.wrapper Rows.pagesPrefixRow.mainSum := by
  unfold Func.isWrapper; first | (rw [if_pos (by decide +kernel)]; kernel_rfl) | (rw [if_neg (by decide +kernel)]; exact ⟨rfl, rfl⟩)
end Go.Proofs.YtimoaolannkpcaaGreat
