/- the row's closed facts -/
import Derived.Test.Qxb6500990aGreatRows
import Derived.ProofKit
set_option linter.unusedVariables false
set_option linter.unusedSimpArgs false
namespace Go.Proofs.Qxb6500990aGreat
set_option maxRecDepth 100000
theorem jf1 : Rows.exactRow.wf (OpenSpec.ofChange Rows.exactSpec) = true := by kernel_rfl
theorem jf2 : laidOutB Tryz.prog = true := by kernel_rfl
theorem jf3 : mapsRowed Tryz.prog = true := by kernel_rfl
theorem jf4 : Tryz.f3.params.all (Tryz.prog.readableRec ·) = true := by kernel_rfl
theorem jf5 : namedTie Tryz.prog Rows.exactRow.named Rows.exactSpec.vars = true := by kernel_rfl
theorem jf6 : (Rows.exactRow.stops == []) = true := by kernel_rfl
theorem jf7 : (Tryz.prog.stops == []) = true := by kernel_rfl
theorem jf8 : (Rows.exactRow.knobs == []) = true := by kernel_rfl
theorem jf9 : (Tryz.prog.stopKnobs == []) = true := by kernel_rfl
theorem jf14 : (Rows.exactRow.maps == (Tryz.f3.params.toList ++ Rows.exactSpec.plain.varTypes Tryz.prog).any (Tryz.prog.mapsRec ·)) = true := by kernel_rfl
theorem jf15 : (Rows.exactRow.ifaces == (Tryz.f3.params.toList ++ Rows.exactSpec.plain.varTypes Tryz.prog).any (Tryz.prog.ifacesRec ·)) = true := by kernel_rfl
theorem jf16 : (Rows.exactRow.mapsOut == Tryz.prog.mapsAmong Tryz.f3.resultTypes.toList) = true := by kernel_rfl
theorem jf17 : (Rows.exactRow.loops == (Tryz.f3.params.toList ++ Rows.exactSpec.plain.varTypes Tryz.prog).any (Tryz.prog.loopsFrom ·)) = true := by kernel_rfl
theorem jf18 : (Rows.exactRow.wideKeys == (Tryz.f3.params.toList ++ Rows.exactSpec.plain.varTypes Tryz.prog ++ Tryz.f3.resultTypes.toList).any (Tryz.prog.wideKeysFrom ·)) = true := by kernel_rfl
theorem jf19 : Rows.exactSpec.vars.all (Tryz.prog.varReadable ·) = true := by kernel_rfl
theorem jf20 : Tryz.f3.resultTypes.all (fun t => Tryz.prog.readableRec t && decide (t < Tryz.prog.types.size)) = true := by kernel_rfl
theorem jf21 : (Rows.exactRow.ifacesOut == Tryz.f3.resultTypes.toList.any (Tryz.prog.ifacesRec ·)) = true := by kernel_rfl
theorem jf22 : (Rows.exactRow.loopsOut == Tryz.f3.resultTypes.toList.any (Tryz.prog.loopsFrom ·)) = true := by kernel_rfl
theorem jf23 : (Rows.exactRow.plainKeys == Tryz.prog.plainKeys) = true := by kernel_rfl
theorem jf24 : Rows.exactRow.shortTexts.isNone = true := by kernel_rfl
theorem jf25 : Tryz.prog.stopsHeard = true := by kernel_rfl
theorem jf26 : Tryz.prog.mayEnter = true := by kernel_rfl
theorem jf27 : (Rows.exactRow.lifted == Tryz.prog.liftsFinal) = true := by kernel_rfl
theorem jf28 : (Tryz.prog.make == some Rows.exactRow.make) = true := by kernel_rfl
theorem jf29 : (Rows.exactRow.kinds == (if Rows.exactRow.domain.isEmpty then [] else Tryz.f3.params.toList.map fun t => match Tryz.prog.underlying t with | some (.int k) => some k | _ => none)) = true := by kernel_rfl
theorem jf30 : (Rows.exactRow.pinned == Rows.exactRow.pinnedBy) = true := by kernel_rfl
theorem jf31 : (Rows.exactRow.veiled == (Tryz.f3.params.toList ++ Rows.exactSpec.plain.varTypes Tryz.prog ++ Tryz.f3.resultTypes.toList).any (Tryz.prog.veiledRec ·)) = true := by kernel_rfl
theorem jf32 : Rows.exactRow.veiledFits Tryz.prog Tryz.f3.params.toList (Tryz.f3.params.toList ++ Rows.exactSpec.plain.varTypes Tryz.prog ++ Tryz.f3.resultTypes.toList) = true := by kernel_rfl
theorem jfn : Tryz.prog.funcNamed Rows.exactRow.func = some 3 := by kernel_rfl
theorem jfi : Tryz.f3.isInstance Tryz.prog Rows.exactRow.origin Rows.exactRow.targs := of_decide_eq_true (by kernel_rfl)
theorem jfw : Tryz.f3.isWrapper Tryz.prog Rows.exactRow.wrapper Rows.exactRow.mainSum := by unfold Func.isWrapper; first | (rw [if_pos (by decide +kernel)]; kernel_rfl) | (rw [if_neg (by decide +kernel)]; exact ⟨rfl, rfl⟩)
end Go.Proofs.Qxb6500990aGreat
