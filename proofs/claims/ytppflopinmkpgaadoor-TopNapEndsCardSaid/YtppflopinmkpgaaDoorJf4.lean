/- TopNapEnds: the closed facts of its row, one by one. -/
import Derived.Test.YtppflopinmkpgaaDoorRows
import Derived.JoinedCond
noncomputable section
namespace Go.Proofs.YtppflopinmkpgaaDoor
open Go
namespace Jf4
set_option maxRecDepth 100000
theorem band {a b : Bool} (h : a = true) (k : b = true) : (a && b) = true := by rw [h, k]; rfl
theorem jf0 : (Rows.topNapEndsRow.wf (OpenSpec.ofChange Rows.topNapEndsSpec)) = true := by kernel_rfl
theorem jf1 : (laidOutB Tryd.prog) = true := by kernel_rfl
theorem jf2 : (mapsRowed Tryd.prog) = true := by kernel_rfl
theorem jf3 : (Tryd.f4.params.all (Tryd.prog.readableRec ·)) = true := by kernel_rfl
theorem jf4 : (namedTie Tryd.prog Rows.topNapEndsRow.named Rows.topNapEndsSpec.vars) = true := by kernel_rfl
theorem jf5 : ((Rows.topNapEndsRow.stops == [])) = true := by kernel_rfl
theorem jf6 : ((Tryd.prog.stops == [])) = true := by kernel_rfl
theorem jf7 : ((Rows.topNapEndsRow.knobs == [])) = true := by kernel_rfl
theorem jf8 : ((Tryd.prog.stopKnobs == [])) = true := by kernel_rfl
theorem jf9 : ((Rows.topNapEndsRow.inPlace == Tryd.prog.inPlace 4)) = true := by kernel_rfl
theorem jf10 : ((Rows.topNapEndsRow.unfollowed == Tryd.prog.unfollowed 4)) = true := by kernel_rfl
theorem jf11 : ((Rows.topNapEndsRow.recurses == Tryd.prog.recurses 4)) = true := by kernel_rfl
theorem jf12 : ((Rows.topNapEndsRow.named == Tryd.prog.varsNamed 4)) = true := by kernel_rfl
theorem jf13 : ((Rows.topNapEndsRow.maps == (Tryd.f4.params.toList ++ Rows.topNapEndsSpec.plain.varTypes Tryd.prog).any (Tryd.prog.mapsRec ·))) = true := by kernel_rfl
theorem jf14 : ((Rows.topNapEndsRow.ifaces == (Tryd.f4.params.toList ++ Rows.topNapEndsSpec.plain.varTypes Tryd.prog).any (Tryd.prog.ifacesRec ·))) = true := by kernel_rfl
theorem jf15 : ((Rows.topNapEndsRow.mapsOut == Tryd.prog.mapsAmong Tryd.f4.resultTypes.toList)) = true := by kernel_rfl
theorem jf16 : ((Rows.topNapEndsRow.loops == (Tryd.f4.params.toList ++ Rows.topNapEndsSpec.plain.varTypes Tryd.prog).any (Tryd.prog.loopsFrom ·))) = true := by kernel_rfl
theorem jf17 : ((Rows.topNapEndsRow.wideKeys == (Tryd.f4.params.toList ++ Rows.topNapEndsSpec.plain.varTypes Tryd.prog ++ Tryd.f4.resultTypes.toList).any (Tryd.prog.wideKeysFrom ·))) = true := by kernel_rfl
theorem jf18 : (Rows.topNapEndsSpec.vars.all (Tryd.prog.varReadable ·)) = true := by kernel_rfl
theorem jf19 : (Tryd.f4.resultTypes.all (fun t => Tryd.prog.readableRec t && decide (t < Tryd.prog.types.size))) = true := by kernel_rfl
theorem jf20 : ((Rows.topNapEndsRow.ifacesOut == Tryd.f4.resultTypes.toList.any (Tryd.prog.ifacesRec ·))) = true := by kernel_rfl
theorem jf21 : ((Rows.topNapEndsRow.loopsOut == Tryd.f4.resultTypes.toList.any (Tryd.prog.loopsFrom ·))) = true := by kernel_rfl
theorem jf22 : ((Rows.topNapEndsRow.plainKeys == Tryd.prog.plainKeys)) = true := by kernel_rfl
theorem jf23 : (Rows.topNapEndsRow.shortTexts.isNone) = true := by kernel_rfl
theorem jf24 : (Tryd.prog.stopsHeard) = true := by kernel_rfl
theorem jf25 : (Tryd.prog.mayEnter) = true := by kernel_rfl
theorem jf26 : ((Rows.topNapEndsRow.lifted == Tryd.prog.liftsFinal)) = true := by kernel_rfl
theorem jf27 : ((Tryd.prog.make == some Rows.topNapEndsRow.make)) = true := by kernel_rfl
theorem jf28 : ((Rows.topNapEndsRow.kinds == (if Rows.topNapEndsRow.domain.isEmpty then [] else Tryd.f4.params.toList.map fun t => match Tryd.prog.underlying t with | some (.int k) => some k | _ => none))) = true := by kernel_rfl
theorem jf29 : ((Rows.topNapEndsRow.pinned == Rows.topNapEndsRow.pinnedBy)) = true := by kernel_rfl
theorem jf30 : ((Rows.topNapEndsRow.veiled == (Tryd.f4.params.toList ++ Rows.topNapEndsSpec.plain.varTypes Tryd.prog ++ Tryd.f4.resultTypes.toList).any (Tryd.prog.veiledRec ·))) = true := by kernel_rfl
theorem jf31 : (Rows.topNapEndsRow.veiledFits Tryd.prog Tryd.f4.params.toList (Tryd.f4.params.toList ++ Rows.topNapEndsSpec.plain.varTypes Tryd.prog ++ Tryd.f4.resultTypes.toList)) = true := by kernel_rfl
theorem jfall : joinedFacts Tryd.prog 4 Tryd.f4 Rows.topNapEndsSpec Rows.topNapEndsRow = true :=
  band (band (band (band (band (band (band (band (band (band (band (band (band (band (band (band (band (band (band (band (band (band (band (band (band (band (band (band (band (band (band (jf0) jf1) jf2) jf3) jf4) jf5) jf6) jf7) jf8) jf9) jf10) jf11) jf12) jf13) jf14) jf15) jf16) jf17) jf18) jf19) jf20) jf21) jf22) jf23) jf24) jf25) jf26) jf27) jf28) jf29) jf30) jf31
end Jf4
end Go.Proofs.YtppflopinmkpgaaDoor
