/- The row's closed facts, one by one. Printed by a program of my own. -/
import Derived.Test.YtimoaolannkpcaaGreatRows
import Derived.JoinedOf
import Derived.KernelRfl
set_option linter.unusedVariables false
set_option linter.unusedSimpArgs false
set_option linter.unusedSectionVars false
namespace Go.Proofs.YtimoaolannkpcaaGreat
theorem andT {a b : Bool} (h : a = true) (k : b = true) : (a && b) = true := by rw [h, k]; rfl
theorem blobBack_c0 : (Rows.blobBackRow.wf (OpenSpec.ofChange Rows.blobBackSpec)) = true := by kernel_rfl
theorem blobBack_c1 : (laidOutB Tryz.prog) = true := by kernel_rfl
theorem blobBack_c2 : (mapsRowed Tryz.prog) = true := by kernel_rfl
theorem blobBack_c3 : (Tryz.f7.params.all (Tryz.prog.readableRec ·)) = true := by kernel_rfl
theorem blobBack_c4 : (namedTie Tryz.prog Rows.blobBackRow.named Rows.blobBackSpec.vars) = true := by kernel_rfl
theorem blobBack_c5 : ((Rows.blobBackRow.stops == [])) = true := by kernel_rfl
theorem blobBack_c6 : ((Tryz.prog.stops == [])) = true := by kernel_rfl
theorem blobBack_c7 : ((Rows.blobBackRow.knobs == [])) = true := by kernel_rfl
theorem blobBack_c8 : ((Tryz.prog.stopKnobs == [])) = true := by kernel_rfl
theorem blobBack_c9 : ((Rows.blobBackRow.inPlace == Tryz.prog.inPlace 7)) = true := by kernel_rfl
theorem blobBack_c10 : ((Rows.blobBackRow.unfollowed == Tryz.prog.unfollowed 7)) = true := by kernel_rfl
theorem blobBack_c11 : ((Rows.blobBackRow.recurses == Tryz.prog.recurses 7)) = true := by kernel_rfl
theorem blobBack_c12 : ((Rows.blobBackRow.named == Tryz.prog.varsNamed 7)) = true := by kernel_rfl
theorem blobBack_c13 : ((Rows.blobBackRow.maps == (Tryz.f7.params.toList ++ Rows.blobBackSpec.plain.varTypes Tryz.prog).any (Tryz.prog.mapsRec ·))) = true := by kernel_rfl
theorem blobBack_c14 : ((Rows.blobBackRow.ifaces == (Tryz.f7.params.toList ++ Rows.blobBackSpec.plain.varTypes Tryz.prog).any (Tryz.prog.ifacesRec ·))) = true := by kernel_rfl
theorem blobBack_c15 : ((Rows.blobBackRow.mapsOut == Tryz.prog.mapsAmong Tryz.f7.resultTypes.toList)) = true := by kernel_rfl
theorem blobBack_c16 : ((Rows.blobBackRow.loops == (Tryz.f7.params.toList ++ Rows.blobBackSpec.plain.varTypes Tryz.prog).any (Tryz.prog.loopsFrom ·))) = true := by kernel_rfl
theorem blobBack_c17 : ((Rows.blobBackRow.wideKeys == (Tryz.f7.params.toList ++ Rows.blobBackSpec.plain.varTypes Tryz.prog ++ Tryz.f7.resultTypes.toList).any (Tryz.prog.wideKeysFrom ·))) = true := by kernel_rfl
theorem blobBack_c18 : (Rows.blobBackSpec.vars.all (Tryz.prog.varReadable ·)) = true := by kernel_rfl
theorem blobBack_c19 : (Tryz.f7.resultTypes.all (fun t => Tryz.prog.readableRec t && decide (t < Tryz.prog.types.size))) = true := by kernel_rfl
theorem blobBack_c20 : ((Rows.blobBackRow.ifacesOut == Tryz.f7.resultTypes.toList.any (Tryz.prog.ifacesRec ·))) = true := by kernel_rfl
theorem blobBack_c21 : ((Rows.blobBackRow.loopsOut == Tryz.f7.resultTypes.toList.any (Tryz.prog.loopsFrom ·))) = true := by kernel_rfl
theorem blobBack_c22 : ((Rows.blobBackRow.plainKeys == Tryz.prog.plainKeys)) = true := by kernel_rfl
theorem blobBack_c23 : (Rows.blobBackRow.shortTexts.isNone) = true := by kernel_rfl
theorem blobBack_c24 : (Tryz.prog.stopsHeard) = true := by kernel_rfl
theorem blobBack_c25 : (Tryz.prog.mayEnter) = true := by kernel_rfl
theorem blobBack_c26 : ((Rows.blobBackRow.lifted == Tryz.prog.liftsFinal)) = true := by kernel_rfl
theorem blobBack_c27 : ((Tryz.prog.make == some Rows.blobBackRow.make)) = true := by kernel_rfl
theorem blobBack_c28 : ((Rows.blobBackRow.kinds == (if Rows.blobBackRow.domain.isEmpty then [] else Tryz.f7.params.toList.map fun t => match Tryz.prog.underlying t with | some (.int k) => some k | _ => none))) = true := by kernel_rfl
theorem blobBack_c29 : ((Rows.blobBackRow.pinned == Rows.blobBackRow.pinnedBy)) = true := by kernel_rfl
theorem blobBack_c30 : ((Rows.blobBackRow.veiled == (Tryz.f7.params.toList ++ Rows.blobBackSpec.plain.varTypes Tryz.prog ++ Tryz.f7.resultTypes.toList).any (Tryz.prog.veiledRec ·))) = true := by kernel_rfl
theorem blobBack_c31 : (Rows.blobBackRow.veiledFits Tryz.prog Tryz.f7.params.toList (Tryz.f7.params.toList ++ Rows.blobBackSpec.plain.varTypes Tryz.prog ++ Tryz.f7.resultTypes.toList)) = true := by kernel_rfl
theorem blobBackFn : Tryz.pinned.checked.prog.funcNamed Rows.blobBackRow.func = some 7 := by kernel_rfl
set_option maxRecDepth 100000 in
theorem blobBackClosed : joinedFacts Tryz.prog 7 Tryz.f7 Rows.blobBackSpec Rows.blobBackRow = true := (andT (andT (andT (andT (andT (andT (andT (andT (andT (andT (andT (andT (andT (andT (andT (andT (andT (andT (andT (andT (andT (andT (andT (andT (andT (andT (andT (andT (andT (andT (andT blobBack_c0 blobBack_c1) blobBack_c2) blobBack_c3) blobBack_c4) blobBack_c5) blobBack_c6) blobBack_c7) blobBack_c8) blobBack_c9) blobBack_c10) blobBack_c11) blobBack_c12) blobBack_c13) blobBack_c14) blobBack_c15) blobBack_c16) blobBack_c17) blobBack_c18) blobBack_c19) blobBack_c20) blobBack_c21) blobBack_c22) blobBack_c23) blobBack_c24) blobBack_c25) blobBack_c26) blobBack_c27) blobBack_c28) blobBack_c29) blobBack_c30) blobBack_c31)
theorem blobBackInst : Tryz.f7.isInstance Tryz.prog Rows.blobBackRow.origin Rows.blobBackRow.targs := of_decide_eq_true (by kernel_rfl)
theorem blobBackWrap : Tryz.f7.isWrapper Tryz.prog Rows.blobBackRow.wrapper Rows.blobBackRow.mainSum := by
  unfold Func.isWrapper; first | (rw [if_pos (by decide +kernel)]; kernel_rfl) | (rw [if_neg (by decide +kernel)]; exact ⟨rfl, rfl⟩)
end Go.Proofs.YtimoaolannkpcaaGreat
