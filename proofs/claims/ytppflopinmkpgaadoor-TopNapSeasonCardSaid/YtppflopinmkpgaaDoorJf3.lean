/- TopNapSeason: the closed facts of its row, one by one. -/
import Derived.Test.YtppflopinmkpgaaDoorRows
import Derived.JoinedCond
noncomputable section
namespace Go.Proofs.YtppflopinmkpgaaDoor
open Go
namespace Jf3
set_option maxRecDepth 100000
theorem band {a b : Bool} (h : a = true) (k : b = true) : (a && b) = true := by rw [h, k]; rfl
theorem jf0 : (Rows.topNapSeasonRow.wf (OpenSpec.ofChange Rows.topNapSeasonSpec)) = true := by kernel_rfl
theorem jf1 : (laidOutB Tryd.prog) = true := by kernel_rfl
theorem jf2 : (mapsRowed Tryd.prog) = true := by kernel_rfl
theorem jf3 : (Tryd.f3.params.all (Tryd.prog.readableRec ·)) = true := by kernel_rfl
theorem jf4 : (namedTie Tryd.prog Rows.topNapSeasonRow.named Rows.topNapSeasonSpec.vars) = true := by kernel_rfl
theorem jf5 : ((Rows.topNapSeasonRow.stops == [])) = true := by kernel_rfl
theorem jf6 : ((Tryd.prog.stops == [])) = true := by kernel_rfl
theorem jf7 : ((Rows.topNapSeasonRow.knobs == [])) = true := by kernel_rfl
theorem jf8 : ((Tryd.prog.stopKnobs == [])) = true := by kernel_rfl
theorem jf9 : ((Rows.topNapSeasonRow.inPlace == Tryd.prog.inPlace 3)) = true := by kernel_rfl
theorem jf10 : ((Rows.topNapSeasonRow.unfollowed == Tryd.prog.unfollowed 3)) = true := by kernel_rfl
theorem jf11 : ((Rows.topNapSeasonRow.recurses == Tryd.prog.recurses 3)) = true := by kernel_rfl
theorem jf12 : ((Rows.topNapSeasonRow.named == Tryd.prog.varsNamed 3)) = true := by kernel_rfl
theorem jf13 : ((Rows.topNapSeasonRow.maps == (Tryd.f3.params.toList ++ Rows.topNapSeasonSpec.plain.varTypes Tryd.prog).any (Tryd.prog.mapsRec ·))) = true := by kernel_rfl
theorem jf14 : ((Rows.topNapSeasonRow.ifaces == (Tryd.f3.params.toList ++ Rows.topNapSeasonSpec.plain.varTypes Tryd.prog).any (Tryd.prog.ifacesRec ·))) = true := by kernel_rfl
theorem jf15 : ((Rows.topNapSeasonRow.mapsOut == Tryd.prog.mapsAmong Tryd.f3.resultTypes.toList)) = true := by kernel_rfl
theorem jf16 : ((Rows.topNapSeasonRow.loops == (Tryd.f3.params.toList ++ Rows.topNapSeasonSpec.plain.varTypes Tryd.prog).any (Tryd.prog.loopsFrom ·))) = true := by kernel_rfl
theorem jf17 : ((Rows.topNapSeasonRow.wideKeys == (Tryd.f3.params.toList ++ Rows.topNapSeasonSpec.plain.varTypes Tryd.prog ++ Tryd.f3.resultTypes.toList).any (Tryd.prog.wideKeysFrom ·))) = true := by kernel_rfl
theorem jf18 : (Rows.topNapSeasonSpec.vars.all (Tryd.prog.varReadable ·)) = true := by kernel_rfl
theorem jf19 : (Tryd.f3.resultTypes.all (fun t => Tryd.prog.readableRec t && decide (t < Tryd.prog.types.size))) = true := by kernel_rfl
theorem jf20 : ((Rows.topNapSeasonRow.ifacesOut == Tryd.f3.resultTypes.toList.any (Tryd.prog.ifacesRec ·))) = true := by kernel_rfl
theorem jf21 : ((Rows.topNapSeasonRow.loopsOut == Tryd.f3.resultTypes.toList.any (Tryd.prog.loopsFrom ·))) = true := by kernel_rfl
theorem jf22 : ((Rows.topNapSeasonRow.plainKeys == Tryd.prog.plainKeys)) = true := by kernel_rfl
theorem jf23 : (Rows.topNapSeasonRow.shortTexts.isNone) = true := by kernel_rfl
theorem jf24 : (Tryd.prog.stopsHeard) = true := by kernel_rfl
theorem jf25 : (Tryd.prog.mayEnter) = true := by kernel_rfl
theorem jf26 : ((Rows.topNapSeasonRow.lifted == Tryd.prog.liftsFinal)) = true := by kernel_rfl
theorem jf27 : ((Tryd.prog.make == some Rows.topNapSeasonRow.make)) = true := by kernel_rfl
theorem jf28 : ((Rows.topNapSeasonRow.kinds == (if Rows.topNapSeasonRow.domain.isEmpty then [] else Tryd.f3.params.toList.map fun t => match Tryd.prog.underlying t with | some (.int k) => some k | _ => none))) = true := by kernel_rfl
theorem jf29 : ((Rows.topNapSeasonRow.pinned == Rows.topNapSeasonRow.pinnedBy)) = true := by kernel_rfl
theorem jf30 : ((Rows.topNapSeasonRow.veiled == (Tryd.f3.params.toList ++ Rows.topNapSeasonSpec.plain.varTypes Tryd.prog ++ Tryd.f3.resultTypes.toList).any (Tryd.prog.veiledRec ·))) = true := by kernel_rfl
theorem jf31 : (Rows.topNapSeasonRow.veiledFits Tryd.prog Tryd.f3.params.toList (Tryd.f3.params.toList ++ Rows.topNapSeasonSpec.plain.varTypes Tryd.prog ++ Tryd.f3.resultTypes.toList)) = true := by kernel_rfl
theorem jfall : joinedFacts Tryd.prog 3 Tryd.f3 Rows.topNapSeasonSpec Rows.topNapSeasonRow = true :=
  band (band (band (band (band (band (band (band (band (band (band (band (band (band (band (band (band (band (band (band (band (band (band (band (band (band (band (band (band (band (band (jf0) jf1) jf2) jf3) jf4) jf5) jf6) jf7) jf8) jf9) jf10) jf11) jf12) jf13) jf14) jf15) jf16) jf17) jf18) jf19) jf20) jf21) jf22) jf23) jf24) jf25) jf26) jf27) jf28) jf29) jf30) jf31
end Jf3
end Go.Proofs.YtppflopinmkpgaaDoor
