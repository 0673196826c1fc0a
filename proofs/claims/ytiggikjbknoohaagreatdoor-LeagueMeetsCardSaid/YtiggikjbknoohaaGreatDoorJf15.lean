/- LeagueMeets: the closed facts of its row, one by one. -/
import Derived.Test.YtiggikjbknoohaaGreatDoorRows
import Derived.JoinedCond
noncomputable section
namespace Go.Proofs.YtiggikjbknoohaaGreatDoor
open Go
namespace Jf15
set_option maxRecDepth 100000
theorem band {a b : Bool} (h : a = true) (k : b = true) : (a && b) = true := by rw [h, k]; rfl
theorem jf0 : (Rows.leagueMeetsRow.wf (OpenSpec.ofChange Rows.leagueMeetsSpec)) = true := by kernel_rfl
theorem jf1 : (laidOutB Tryz.prog) = true := by kernel_rfl
theorem jf2 : (mapsRowed Tryz.prog) = true := by kernel_rfl
theorem jf3 : (Tryz.f15.params.all (Tryz.prog.readableRec ·)) = true := by kernel_rfl
theorem jf4 : (namedTie Tryz.prog Rows.leagueMeetsRow.named Rows.leagueMeetsSpec.vars) = true := by kernel_rfl
theorem jf5 : ((Rows.leagueMeetsRow.stops == [])) = true := by kernel_rfl
theorem jf6 : ((Tryz.prog.stops == [])) = true := by kernel_rfl
theorem jf7 : ((Rows.leagueMeetsRow.knobs == [])) = true := by kernel_rfl
theorem jf8 : ((Tryz.prog.stopKnobs == [])) = true := by kernel_rfl
theorem jf9 : ((Rows.leagueMeetsRow.inPlace == Tryz.prog.inPlace 15)) = true := by kernel_rfl
theorem jf10 : ((Rows.leagueMeetsRow.unfollowed == Tryz.prog.unfollowed 15)) = true := by kernel_rfl
theorem jf11 : ((Rows.leagueMeetsRow.recurses == Tryz.prog.recurses 15)) = true := by kernel_rfl
theorem jf12 : ((Rows.leagueMeetsRow.named == Tryz.prog.varsNamed 15)) = true := by kernel_rfl
theorem jf13 : ((Rows.leagueMeetsRow.maps == (Tryz.f15.params.toList ++ Rows.leagueMeetsSpec.plain.varTypes Tryz.prog).any (Tryz.prog.mapsRec ·))) = true := by kernel_rfl
theorem jf14 : ((Rows.leagueMeetsRow.ifaces == (Tryz.f15.params.toList ++ Rows.leagueMeetsSpec.plain.varTypes Tryz.prog).any (Tryz.prog.ifacesRec ·))) = true := by kernel_rfl
theorem jf15 : ((Rows.leagueMeetsRow.mapsOut == Tryz.prog.mapsAmong Tryz.f15.resultTypes.toList)) = true := by kernel_rfl
theorem jf16 : ((Rows.leagueMeetsRow.loops == (Tryz.f15.params.toList ++ Rows.leagueMeetsSpec.plain.varTypes Tryz.prog).any (Tryz.prog.loopsFrom ·))) = true := by kernel_rfl
theorem jf17 : ((Rows.leagueMeetsRow.wideKeys == (Tryz.f15.params.toList ++ Rows.leagueMeetsSpec.plain.varTypes Tryz.prog ++ Tryz.f15.resultTypes.toList).any (Tryz.prog.wideKeysFrom ·))) = true := by kernel_rfl
theorem jf18 : (Rows.leagueMeetsSpec.vars.all (Tryz.prog.varReadable ·)) = true := by kernel_rfl
theorem jf19 : (Tryz.f15.resultTypes.all (fun t => Tryz.prog.readableRec t && decide (t < Tryz.prog.types.size))) = true := by kernel_rfl
theorem jf20 : ((Rows.leagueMeetsRow.ifacesOut == Tryz.f15.resultTypes.toList.any (Tryz.prog.ifacesRec ·))) = true := by kernel_rfl
theorem jf21 : ((Rows.leagueMeetsRow.loopsOut == Tryz.f15.resultTypes.toList.any (Tryz.prog.loopsFrom ·))) = true := by kernel_rfl
theorem jf22 : ((Rows.leagueMeetsRow.plainKeys == Tryz.prog.plainKeys)) = true := by kernel_rfl
theorem jf23 : (Rows.leagueMeetsRow.shortTexts.isNone) = true := by kernel_rfl
theorem jf24 : (Tryz.prog.stopsHeard) = true := by kernel_rfl
theorem jf25 : (Tryz.prog.mayEnter) = true := by kernel_rfl
theorem jf26 : ((Rows.leagueMeetsRow.lifted == Tryz.prog.liftsFinal)) = true := by kernel_rfl
theorem jf27 : ((Tryz.prog.make == some Rows.leagueMeetsRow.make)) = true := by kernel_rfl
theorem jf28 : ((Rows.leagueMeetsRow.kinds == (if Rows.leagueMeetsRow.domain.isEmpty then [] else Tryz.f15.params.toList.map fun t => match Tryz.prog.underlying t with | some (.int k) => some k | _ => none))) = true := by kernel_rfl
theorem jf29 : ((Rows.leagueMeetsRow.pinned == Rows.leagueMeetsRow.pinnedBy)) = true := by kernel_rfl
theorem jf30 : ((Rows.leagueMeetsRow.veiled == (Tryz.f15.params.toList ++ Rows.leagueMeetsSpec.plain.varTypes Tryz.prog ++ Tryz.f15.resultTypes.toList).any (Tryz.prog.veiledRec ·))) = true := by kernel_rfl
theorem jf31 : (Rows.leagueMeetsRow.veiledFits Tryz.prog Tryz.f15.params.toList (Tryz.f15.params.toList ++ Rows.leagueMeetsSpec.plain.varTypes Tryz.prog ++ Tryz.f15.resultTypes.toList)) = true := by kernel_rfl
theorem jfall : joinedFacts Tryz.prog 15 Tryz.f15 Rows.leagueMeetsSpec Rows.leagueMeetsRow = true :=
  band (band (band (band (band (band (band (band (band (band (band (band (band (band (band (band (band (band (band (band (band (band (band (band (band (band (band (band (band (band (band (jf0) jf1) jf2) jf3) jf4) jf5) jf6) jf7) jf8) jf9) jf10) jf11) jf12) jf13) jf14) jf15) jf16) jf17) jf18) jf19) jf20) jf21) jf22) jf23) jf24) jf25) jf26) jf27) jf28) jf29) jf30) jf31
end Jf15
end Go.Proofs.YtiggikjbknoohaaGreatDoor
