/- HallTurns: the closed facts of its row, one by one. -/
import Derived.Test.YtfegloadbajbhaaGreatDoorRows
import Derived.JoinedCond
noncomputable section
namespace Go.Proofs.YtfegloadbajbhaaGreatDoor
open Go
namespace Jf12
set_option maxRecDepth 100000
theorem band {a b : Bool} (h : a = true) (k : b = true) : (a && b) = true := by rw [h, k]; rfl
theorem jf0 : (Rows.hallTurnsUptoRow.wf (OpenSpec.ofChange Rows.hallTurnsSpec)) = true := by kernel_rfl
theorem jf1 : (laidOutB Tryz.prog) = true := by kernel_rfl
theorem jf2 : (mapsRowed Tryz.prog) = true := by kernel_rfl
theorem jf3 : (Tryz.f12.params.all (Tryz.prog.readableRec ·)) = true := by kernel_rfl
theorem jf4 : (namedTie Tryz.prog Rows.hallTurnsUptoRow.named Rows.hallTurnsSpec.vars) = true := by kernel_rfl
theorem jf5 : ((Rows.hallTurnsUptoRow.stops == [])) = true := by kernel_rfl
theorem jf6 : ((Tryz.prog.stops == [])) = true := by kernel_rfl
theorem jf7 : ((Rows.hallTurnsUptoRow.knobs == [])) = true := by kernel_rfl
theorem jf8 : ((Tryz.prog.stopKnobs == [])) = true := by kernel_rfl
theorem jf9 : ((Rows.hallTurnsUptoRow.inPlace == Tryz.prog.inPlace 12)) = true := by kernel_rfl
theorem jf10 : ((Rows.hallTurnsUptoRow.unfollowed == Tryz.prog.unfollowed 12)) = true := by kernel_rfl
theorem jf11 : ((Rows.hallTurnsUptoRow.recurses == Tryz.prog.recurses 12)) = true := by kernel_rfl
theorem jf12 : ((Rows.hallTurnsUptoRow.named == Tryz.prog.varsNamed 12)) = true := by kernel_rfl
theorem jf13 : ((Rows.hallTurnsUptoRow.maps == (Tryz.f12.params.toList ++ Rows.hallTurnsSpec.plain.varTypes Tryz.prog).any (Tryz.prog.mapsRec ·))) = true := by kernel_rfl
theorem jf14 : ((Rows.hallTurnsUptoRow.ifaces == (Tryz.f12.params.toList ++ Rows.hallTurnsSpec.plain.varTypes Tryz.prog).any (Tryz.prog.ifacesRec ·))) = true := by kernel_rfl
theorem jf15 : ((Rows.hallTurnsUptoRow.mapsOut == Tryz.prog.mapsAmong Tryz.f12.resultTypes.toList)) = true := by kernel_rfl
theorem jf16 : ((Rows.hallTurnsUptoRow.loops == (Tryz.f12.params.toList ++ Rows.hallTurnsSpec.plain.varTypes Tryz.prog).any (Tryz.prog.loopsFrom ·))) = true := by kernel_rfl
theorem jf17 : ((Rows.hallTurnsUptoRow.wideKeys == (Tryz.f12.params.toList ++ Rows.hallTurnsSpec.plain.varTypes Tryz.prog ++ Tryz.f12.resultTypes.toList).any (Tryz.prog.wideKeysFrom ·))) = true := by kernel_rfl
theorem jf18 : (Rows.hallTurnsSpec.vars.all (Tryz.prog.varReadable ·)) = true := by kernel_rfl
theorem jf19 : (Tryz.f12.resultTypes.all (fun t => Tryz.prog.readableRec t && decide (t < Tryz.prog.types.size))) = true := by kernel_rfl
theorem jf20 : ((Rows.hallTurnsUptoRow.ifacesOut == Tryz.f12.resultTypes.toList.any (Tryz.prog.ifacesRec ·))) = true := by kernel_rfl
theorem jf21 : ((Rows.hallTurnsUptoRow.loopsOut == Tryz.f12.resultTypes.toList.any (Tryz.prog.loopsFrom ·))) = true := by kernel_rfl
theorem jf22 : ((Rows.hallTurnsUptoRow.plainKeys == Tryz.prog.plainKeys)) = true := by kernel_rfl
theorem jf23 : (Rows.hallTurnsUptoRow.shortTexts.isNone) = true := by kernel_rfl
theorem jf24 : (Tryz.prog.stopsHeard) = true := by kernel_rfl
theorem jf25 : (Tryz.prog.mayEnter) = true := by kernel_rfl
theorem jf26 : ((Rows.hallTurnsUptoRow.lifted == Tryz.prog.liftsFinal)) = true := by kernel_rfl
theorem jf27 : ((Tryz.prog.make == some Rows.hallTurnsUptoRow.make)) = true := by kernel_rfl
theorem jf28 : ((Rows.hallTurnsUptoRow.kinds == (if Rows.hallTurnsUptoRow.domain.isEmpty then [] else Tryz.f12.params.toList.map fun t => match Tryz.prog.underlying t with | some (.int k) => some k | _ => none))) = true := by kernel_rfl
theorem jf29 : ((Rows.hallTurnsUptoRow.pinned == Rows.hallTurnsUptoRow.pinnedBy)) = true := by kernel_rfl
theorem jf30 : ((Rows.hallTurnsUptoRow.veiled == (Tryz.f12.params.toList ++ Rows.hallTurnsSpec.plain.varTypes Tryz.prog ++ Tryz.f12.resultTypes.toList).any (Tryz.prog.veiledRec ·))) = true := by kernel_rfl
theorem jf31 : (Rows.hallTurnsUptoRow.veiledFits Tryz.prog Tryz.f12.params.toList (Tryz.f12.params.toList ++ Rows.hallTurnsSpec.plain.varTypes Tryz.prog ++ Tryz.f12.resultTypes.toList)) = true := by kernel_rfl
theorem jfall : joinedFacts Tryz.prog 12 Tryz.f12 Rows.hallTurnsSpec Rows.hallTurnsUptoRow = true :=
  band (band (band (band (band (band (band (band (band (band (band (band (band (band (band (band (band (band (band (band (band (band (band (band (band (band (band (band (band (band (band (jf0) jf1) jf2) jf3) jf4) jf5) jf6) jf7) jf8) jf9) jf10) jf11) jf12) jf13) jf14) jf15) jf16) jf17) jf18) jf19) jf20) jf21) jf22) jf23) jf24) jf25) jf26) jf27) jf28) jf29) jf30) jf31
end Jf12
end Go.Proofs.YtfegloadbajbhaaGreatDoor
