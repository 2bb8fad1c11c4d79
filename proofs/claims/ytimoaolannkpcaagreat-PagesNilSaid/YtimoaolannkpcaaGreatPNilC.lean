/- The row's closed facts, one by one. Printed by a program of my own. -/
import Derived.Test.YtimoaolannkpcaaGreatRows
import Derived.JoinedOf
import Derived.KernelRfl
set_option linter.unusedVariables false
set_option linter.unusedSimpArgs false
set_option linter.unusedSectionVars false
namespace Go.Proofs.YtimoaolannkpcaaGreat
theorem andT {a b : Bool} (h : a = true) (k : b = true) : (a && b) = true := by rw [h, k]; rfl
theorem pagesNil_c0 : (Rows.pagesNilRow.wf (OpenSpec.ofChange Rows.pagesNilSpec)) = true := by kernel_rfl
theorem pagesNil_c1 : (laidOutB Tryz.prog) = true := by kernel_rfl
theorem pagesNil_c2 : (mapsRowed Tryz.prog) = true := by kernel_rfl
theorem pagesNil_c3 : (Tryz.f4.params.all (Tryz.prog.readableRec ·)) = true := by kernel_rfl
theorem pagesNil_c4 : (namedTie Tryz.prog Rows.pagesNilRow.named Rows.pagesNilSpec.vars) = true := by kernel_rfl
theorem pagesNil_c5 : ((Rows.pagesNilRow.stops == [])) = true := by kernel_rfl
theorem pagesNil_c6 : ((Tryz.prog.stops == [])) = true := by kernel_rfl
theorem pagesNil_c7 : ((Rows.pagesNilRow.knobs == [])) = true := by kernel_rfl
theorem pagesNil_c8 : ((Tryz.prog.stopKnobs == [])) = true := by kernel_rfl
theorem pagesNil_c9 : ((Rows.pagesNilRow.inPlace == Tryz.prog.inPlace 4)) = true := by kernel_rfl
theorem pagesNil_c10 : ((Rows.pagesNilRow.unfollowed == Tryz.prog.unfollowed 4)) = true := by kernel_rfl
theorem pagesNil_c11 : ((Rows.pagesNilRow.recurses == Tryz.prog.recurses 4)) = true := by kernel_rfl
theorem pagesNil_c12 : ((Rows.pagesNilRow.named == Tryz.prog.varsNamed 4)) = true := by kernel_rfl
theorem pagesNil_c13 : ((Rows.pagesNilRow.maps == (Tryz.f4.params.toList ++ Rows.pagesNilSpec.plain.varTypes Tryz.prog).any (Tryz.prog.mapsRec ·))) = true := by kernel_rfl
theorem pagesNil_c14 : ((Rows.pagesNilRow.ifaces == (Tryz.f4.params.toList ++ Rows.pagesNilSpec.plain.varTypes Tryz.prog).any (Tryz.prog.ifacesRec ·))) = true := by kernel_rfl
theorem pagesNil_c15 : ((Rows.pagesNilRow.mapsOut == Tryz.prog.mapsAmong Tryz.f4.resultTypes.toList)) = true := by kernel_rfl
theorem pagesNil_c16 : ((Rows.pagesNilRow.loops == (Tryz.f4.params.toList ++ Rows.pagesNilSpec.plain.varTypes Tryz.prog).any (Tryz.prog.loopsFrom ·))) = true := by kernel_rfl
theorem pagesNil_c17 : ((Rows.pagesNilRow.wideKeys == (Tryz.f4.params.toList ++ Rows.pagesNilSpec.plain.varTypes Tryz.prog ++ Tryz.f4.resultTypes.toList).any (Tryz.prog.wideKeysFrom ·))) = true := by kernel_rfl
theorem pagesNil_c18 : (Rows.pagesNilSpec.vars.all (Tryz.prog.varReadable ·)) = true := by kernel_rfl
theorem pagesNil_c19 : (Tryz.f4.resultTypes.all (fun t => Tryz.prog.readableRec t && decide (t < Tryz.prog.types.size))) = true := by kernel_rfl
theorem pagesNil_c20 : ((Rows.pagesNilRow.ifacesOut == Tryz.f4.resultTypes.toList.any (Tryz.prog.ifacesRec ·))) = true := by kernel_rfl
theorem pagesNil_c21 : ((Rows.pagesNilRow.loopsOut == Tryz.f4.resultTypes.toList.any (Tryz.prog.loopsFrom ·))) = true := by kernel_rfl
theorem pagesNil_c22 : ((Rows.pagesNilRow.plainKeys == Tryz.prog.plainKeys)) = true := by kernel_rfl
theorem pagesNil_c23 : (Rows.pagesNilRow.shortTexts.isNone) = true := by kernel_rfl
theorem pagesNil_c24 : (Tryz.prog.stopsHeard) = true := by kernel_rfl
theorem pagesNil_c25 : (Tryz.prog.mayEnter) = true := by kernel_rfl
theorem pagesNil_c26 : ((Rows.pagesNilRow.lifted == Tryz.prog.liftsFinal)) = true := by kernel_rfl
theorem pagesNil_c27 : ((Tryz.prog.make == some Rows.pagesNilRow.make)) = true := by kernel_rfl
theorem pagesNil_c28 : ((Rows.pagesNilRow.kinds == (if Rows.pagesNilRow.domain.isEmpty then [] else Tryz.f4.params.toList.map fun t => match Tryz.prog.underlying t with | some (.int k) => some k | _ => none))) = true := by kernel_rfl
theorem pagesNil_c29 : ((Rows.pagesNilRow.pinned == Rows.pagesNilRow.pinnedBy)) = true := by kernel_rfl
theorem pagesNil_c30 : ((Rows.pagesNilRow.veiled == (Tryz.f4.params.toList ++ Rows.pagesNilSpec.plain.varTypes Tryz.prog ++ Tryz.f4.resultTypes.toList).any (Tryz.prog.veiledRec ·))) = true := by kernel_rfl
theorem pagesNil_c31 : (Rows.pagesNilRow.veiledFits Tryz.prog Tryz.f4.params.toList (Tryz.f4.params.toList ++ Rows.pagesNilSpec.plain.varTypes Tryz.prog ++ Tryz.f4.resultTypes.toList)) = true := by kernel_rfl
theorem pagesNilFn : Tryz.pinned.checked.prog.funcNamed Rows.pagesNilRow.func = some 4 := by kernel_rfl
set_option maxRecDepth 100000 in
theorem pagesNilClosed : joinedFacts Tryz.prog 4 Tryz.f4 Rows.pagesNilSpec Rows.pagesNilRow = true := (andT (andT (andT (andT (andT (andT (andT (andT (andT (andT (andT (andT (andT (andT (andT (andT (andT (andT (andT (andT (andT (andT (andT (andT (andT (andT (andT (andT (andT (andT (andT pagesNil_c0 pagesNil_c1) pagesNil_c2) pagesNil_c3) pagesNil_c4) pagesNil_c5) pagesNil_c6) pagesNil_c7) pagesNil_c8) pagesNil_c9) pagesNil_c10) pagesNil_c11) pagesNil_c12) pagesNil_c13) pagesNil_c14) pagesNil_c15) pagesNil_c16) pagesNil_c17) pagesNil_c18) pagesNil_c19) pagesNil_c20) pagesNil_c21) pagesNil_c22) pagesNil_c23) pagesNil_c24) pagesNil_c25) pagesNil_c26) pagesNil_c27) pagesNil_c28) pagesNil_c29) pagesNil_c30) pagesNil_c31)
theorem pagesNilInst : Tryz.f4.isInstance Tryz.prog Rows.pagesNilRow.origin Rows.pagesNilRow.targs := of_decide_eq_true (by kernel_rfl)
theorem pagesNilWrap : Tryz.f4.isWrapper Tryz.prog Rows.pagesNilRow.wrapper Rows.pagesNilRow.mainSum := by
  unfold Func.isWrapper; first | (rw [if_pos (by decide +kernel)]; kernel_rfl) | (rw [if_neg (by decide +kernel)]; exact ⟨rfl, rfl⟩)
end Go.Proofs.YtimoaolannkpcaaGreat
