/- HallBalances: the closed facts of its row, one by one. -/
import Derived.Test.YtfegloadbajbhaaGreatDoorRows
import Derived.JoinedCond
noncomputable section
namespace Go.Proofs.YtfegloadbajbhaaGreatDoor
open Go
namespace Jf14
set_option maxRecDepth 100000
theorem band {a b : Bool} (h : a = true) (k : b = true) : (a && b) = true := by rw [h, k]; rfl
theorem jf0 : (Rows.hallBalancesUptoRow.wf (OpenSpec.ofChange Rows.hallBalancesSpec)) = true := by kernel_rfl
theorem jf1 : (laidOutB Tryz.prog) = true := by kernel_rfl
theorem jf2 : (mapsRowed Tryz.prog) = true := by kernel_rfl
theorem jf3 : (Tryz.f14.params.all (Tryz.prog.readableRec ·)) = true := by kernel_rfl
theorem jf4 : (namedTie Tryz.prog Rows.hallBalancesUptoRow.named Rows.hallBalancesSpec.vars) = true := by kernel_rfl
theorem jf5 : ((Rows.hallBalancesUptoRow.stops == [])) = true := by kernel_rfl
theorem jf6 : ((Tryz.prog.stops == [])) = true := by kernel_rfl
theorem jf7 : ((Rows.hallBalancesUptoRow.knobs == [])) = true := by kernel_rfl
theorem jf8 : ((Tryz.prog.stopKnobs == [])) = true := by kernel_rfl
theorem jf9 : ((Rows.hallBalancesUptoRow.inPlace == Tryz.prog.inPlace 14)) = true := by kernel_rfl
theorem jf10 : ((Rows.hallBalancesUptoRow.unfollowed == Tryz.prog.unfollowed 14)) = true := by kernel_rfl
theorem jf11 : ((Rows.hallBalancesUptoRow.recurses == Tryz.prog.recurses 14)) = true := by kernel_rfl
theorem jf12 : ((Rows.hallBalancesUptoRow.named == Tryz.prog.varsNamed 14)) = true := by kernel_rfl
theorem jf13 : ((Rows.hallBalancesUptoRow.maps == (Tryz.f14.params.toList ++ Rows.hallBalancesSpec.plain.varTypes Tryz.prog).any (Tryz.prog.mapsRec ·))) = true := by kernel_rfl
theorem jf14 : ((Rows.hallBalancesUptoRow.ifaces == (Tryz.f14.params.toList ++ Rows.hallBalancesSpec.plain.varTypes Tryz.prog).any (Tryz.prog.ifacesRec ·))) = true := by kernel_rfl
theorem jf15 : ((Rows.hallBalancesUptoRow.mapsOut == Tryz.prog.mapsAmong Tryz.f14.resultTypes.toList)) = true := by kernel_rfl
theorem jf16 : ((Rows.hallBalancesUptoRow.loops == (Tryz.f14.params.toList ++ Rows.hallBalancesSpec.plain.varTypes Tryz.prog).any (Tryz.prog.loopsFrom ·))) = true := by kernel_rfl
theorem jf17 : ((Rows.hallBalancesUptoRow.wideKeys == (Tryz.f14.params.toList ++ Rows.hallBalancesSpec.plain.varTypes Tryz.prog ++ Tryz.f14.resultTypes.toList).any (Tryz.prog.wideKeysFrom ·))) = true := by kernel_rfl
theorem jf18 : (Rows.hallBalancesSpec.vars.all (Tryz.prog.varReadable ·)) = true := by kernel_rfl
theorem jf19 : (Tryz.f14.resultTypes.all (fun t => Tryz.prog.readableRec t && decide (t < Tryz.prog.types.size))) = true := by kernel_rfl
theorem jf20 : ((Rows.hallBalancesUptoRow.ifacesOut == Tryz.f14.resultTypes.toList.any (Tryz.prog.ifacesRec ·))) = true := by kernel_rfl
theorem jf21 : ((Rows.hallBalancesUptoRow.loopsOut == Tryz.f14.resultTypes.toList.any (Tryz.prog.loopsFrom ·))) = true := by kernel_rfl
theorem jf22 : ((Rows.hallBalancesUptoRow.plainKeys == Tryz.prog.plainKeys)) = true := by kernel_rfl
theorem jf23 : (Rows.hallBalancesUptoRow.shortTexts.isNone) = true := by kernel_rfl
theorem jf24 : (Tryz.prog.stopsHeard) = true := by kernel_rfl
theorem jf25 : (Tryz.prog.mayEnter) = true := by kernel_rfl
theorem jf26 : ((Rows.hallBalancesUptoRow.lifted == Tryz.prog.liftsFinal)) = true := by kernel_rfl
theorem jf27 : ((Tryz.prog.make == some Rows.hallBalancesUptoRow.make)) = true := by kernel_rfl
theorem jf28 : ((Rows.hallBalancesUptoRow.kinds == (if Rows.hallBalancesUptoRow.domain.isEmpty then [] else Tryz.f14.params.toList.map fun t => match Tryz.prog.underlying t with | some (.int k) => some k | _ => none))) = true := by kernel_rfl
theorem jf29 : ((Rows.hallBalancesUptoRow.pinned == Rows.hallBalancesUptoRow.pinnedBy)) = true := by kernel_rfl
theorem jf30 : ((Rows.hallBalancesUptoRow.veiled == (Tryz.f14.params.toList ++ Rows.hallBalancesSpec.plain.varTypes Tryz.prog ++ Tryz.f14.resultTypes.toList).any (Tryz.prog.veiledRec ·))) = true := by kernel_rfl
theorem jf31 : (Rows.hallBalancesUptoRow.veiledFits Tryz.prog Tryz.f14.params.toList (Tryz.f14.params.toList ++ Rows.hallBalancesSpec.plain.varTypes Tryz.prog ++ Tryz.f14.resultTypes.toList)) = true := by kernel_rfl
theorem jfall : joinedFacts Tryz.prog 14 Tryz.f14 Rows.hallBalancesSpec Rows.hallBalancesUptoRow = true :=
  band (band (band (band (band (band (band (band (band (band (band (band (band (band (band (band (band (band (band (band (band (band (band (band (band (band (band (band (band (band (band (jf0) jf1) jf2) jf3) jf4) jf5) jf6) jf7) jf8) jf9) jf10) jf11) jf12) jf13) jf14) jf15) jf16) jf17) jf18) jf19) jf20) jf21) jf22) jf23) jf24) jf25) jf26) jf27) jf28) jf29) jf30) jf31
end Jf14
end Go.Proofs.YtfegloadbajbhaaGreatDoor
