/- The row's closed facts, one by one. Printed by a program of my own. -/
import Derived.Test.YtojghbipoihboaaGreatRows
import Derived.JoinedOf
import Derived.KernelRfl
set_option linter.unusedVariables false
set_option linter.unusedSimpArgs false
set_option linter.unusedSectionVars false
namespace Go.Proofs.YtojghbipoihboaaGreat
theorem andT {a b : Bool} (h : a = true) (k : b = true) : (a && b) = true := by rw [h, k]; rfl
theorem kvNil_c0 : (Rows.kvNilRow.wf (OpenSpec.ofChange Rows.kvNilSpec)) = true := by kernel_rfl
theorem kvNil_c1 : (laidOutB Tryz.prog) = true := by kernel_rfl
theorem kvNil_c2 : (mapsRowed Tryz.prog) = true := by kernel_rfl
theorem kvNil_c3 : (Tryz.f3.params.all (Tryz.prog.readableRec ·)) = true := by kernel_rfl
theorem kvNil_c4 : (namedTie Tryz.prog Rows.kvNilRow.named Rows.kvNilSpec.vars) = true := by kernel_rfl
theorem kvNil_c5 : ((Rows.kvNilRow.stops == [])) = true := by kernel_rfl
theorem kvNil_c6 : ((Tryz.prog.stops == [])) = true := by kernel_rfl
theorem kvNil_c7 : ((Rows.kvNilRow.knobs == [])) = true := by kernel_rfl
theorem kvNil_c8 : ((Tryz.prog.stopKnobs == [])) = true := by kernel_rfl
theorem kvNil_c9 : ((Rows.kvNilRow.inPlace == Tryz.prog.inPlace 3)) = true := by kernel_rfl
theorem kvNil_c10 : ((Rows.kvNilRow.unfollowed == Tryz.prog.unfollowed 3)) = true := by kernel_rfl
theorem kvNil_c11 : ((Rows.kvNilRow.recurses == Tryz.prog.recurses 3)) = true := by kernel_rfl
theorem kvNil_c12 : ((Rows.kvNilRow.named == Tryz.prog.varsNamed 3)) = true := by kernel_rfl
theorem kvNil_c13 : ((Rows.kvNilRow.maps == (Tryz.f3.params.toList ++ Rows.kvNilSpec.plain.varTypes Tryz.prog).any (Tryz.prog.mapsRec ·))) = true := by kernel_rfl
theorem kvNil_c14 : ((Rows.kvNilRow.ifaces == (Tryz.f3.params.toList ++ Rows.kvNilSpec.plain.varTypes Tryz.prog).any (Tryz.prog.ifacesRec ·))) = true := by kernel_rfl
theorem kvNil_c15 : ((Rows.kvNilRow.mapsOut == Tryz.prog.mapsAmong Tryz.f3.resultTypes.toList)) = true := by kernel_rfl
theorem kvNil_c16 : ((Rows.kvNilRow.loops == (Tryz.f3.params.toList ++ Rows.kvNilSpec.plain.varTypes Tryz.prog).any (Tryz.prog.loopsFrom ·))) = true := by kernel_rfl
theorem kvNil_c17 : ((Rows.kvNilRow.wideKeys == (Tryz.f3.params.toList ++ Rows.kvNilSpec.plain.varTypes Tryz.prog ++ Tryz.f3.resultTypes.toList).any (Tryz.prog.wideKeysFrom ·))) = true := by kernel_rfl
theorem kvNil_c18 : (Rows.kvNilSpec.vars.all (Tryz.prog.varReadable ·)) = true := by kernel_rfl
theorem kvNil_c19 : (Tryz.f3.resultTypes.all (fun t => Tryz.prog.readableRec t && decide (t < Tryz.prog.types.size))) = true := by kernel_rfl
theorem kvNil_c20 : ((Rows.kvNilRow.ifacesOut == Tryz.f3.resultTypes.toList.any (Tryz.prog.ifacesRec ·))) = true := by kernel_rfl
theorem kvNil_c21 : ((Rows.kvNilRow.loopsOut == Tryz.f3.resultTypes.toList.any (Tryz.prog.loopsFrom ·))) = true := by kernel_rfl
theorem kvNil_c22 : ((Rows.kvNilRow.plainKeys == Tryz.prog.plainKeys)) = true := by kernel_rfl
theorem kvNil_c23 : (Rows.kvNilRow.shortTexts.isNone) = true := by kernel_rfl
theorem kvNil_c24 : (Tryz.prog.stopsHeard) = true := by kernel_rfl
theorem kvNil_c25 : (Tryz.prog.mayEnter) = true := by kernel_rfl
theorem kvNil_c26 : ((Rows.kvNilRow.lifted == Tryz.prog.liftsFinal)) = true := by kernel_rfl
theorem kvNil_c27 : ((Tryz.prog.make == some Rows.kvNilRow.make)) = true := by kernel_rfl
theorem kvNil_c28 : ((Rows.kvNilRow.kinds == (if Rows.kvNilRow.domain.isEmpty then [] else Tryz.f3.params.toList.map fun t => match Tryz.prog.underlying t with | some (.int k) => some k | _ => none))) = true := by kernel_rfl
theorem kvNil_c29 : ((Rows.kvNilRow.pinned == Rows.kvNilRow.pinnedBy)) = true := by kernel_rfl
theorem kvNil_c30 : ((Rows.kvNilRow.veiled == (Tryz.f3.params.toList ++ Rows.kvNilSpec.plain.varTypes Tryz.prog ++ Tryz.f3.resultTypes.toList).any (Tryz.prog.veiledRec ·))) = true := by kernel_rfl
theorem kvNil_c31 : (Rows.kvNilRow.veiledFits Tryz.prog Tryz.f3.params.toList (Tryz.f3.params.toList ++ Rows.kvNilSpec.plain.varTypes Tryz.prog ++ Tryz.f3.resultTypes.toList)) = true := by kernel_rfl
theorem kvNilFn : Tryz.pinned.checked.prog.funcNamed Rows.kvNilRow.func = some 3 := by kernel_rfl
set_option maxRecDepth 100000 in
theorem kvNilClosed : joinedFacts Tryz.prog 3 Tryz.f3 Rows.kvNilSpec Rows.kvNilRow = true := (andT (andT (andT (andT (andT (andT (andT (andT (andT (andT (andT (andT (andT (andT (andT (andT (andT (andT (andT (andT (andT (andT (andT (andT (andT (andT (andT (andT (andT (andT (andT kvNil_c0 kvNil_c1) kvNil_c2) kvNil_c3) kvNil_c4) kvNil_c5) kvNil_c6) kvNil_c7) kvNil_c8) kvNil_c9) kvNil_c10) kvNil_c11) kvNil_c12) kvNil_c13) kvNil_c14) kvNil_c15) kvNil_c16) kvNil_c17) kvNil_c18) kvNil_c19) kvNil_c20) kvNil_c21) kvNil_c22) kvNil_c23) kvNil_c24) kvNil_c25) kvNil_c26) kvNil_c27) kvNil_c28) kvNil_c29) kvNil_c30) kvNil_c31)
theorem kvNilInst : Tryz.f3.isInstance Tryz.prog Rows.kvNilRow.origin Rows.kvNilRow.targs := of_decide_eq_true (by kernel_rfl)
theorem kvNilWrap : Tryz.f3.isWrapper Tryz.prog Rows.kvNilRow.wrapper Rows.kvNilRow.mainSum := by
  unfold Func.isWrapper; first | (rw [if_pos (by decide +kernel)]; kernel_rfl) | (rw [if_neg (by decide +kernel)]; exact ⟨rfl, rfl⟩)
end Go.Proofs.YtojghbipoihboaaGreat
