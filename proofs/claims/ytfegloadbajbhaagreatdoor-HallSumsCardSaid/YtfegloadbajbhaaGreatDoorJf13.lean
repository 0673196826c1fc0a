/- HallSums: the closed facts of its row, one by one. -/
import Derived.Test.YtfegloadbajbhaaGreatDoorRows
import Derived.JoinedCond
noncomputable section
namespace Go.Proofs.YtfegloadbajbhaaGreatDoor
open Go
namespace Jf13
set_option maxRecDepth 100000
theorem band {a b : Bool} (h : a = true) (k : b = true) : (a && b) = true := by rw [h, k]; rfl
theorem jf0 : (Rows.hallSumsRow.wf (OpenSpec.ofChange Rows.hallSumsSpec)) = true := by kernel_rfl
theorem jf1 : (laidOutB Tryz.prog) = true := by kernel_rfl
theorem jf2 : (mapsRowed Tryz.prog) = true := by kernel_rfl
theorem jf3 : (Tryz.f13.params.all (Tryz.prog.readableRec ·)) = true := by kernel_rfl
theorem jf4 : (namedTie Tryz.prog Rows.hallSumsRow.named Rows.hallSumsSpec.vars) = true := by kernel_rfl
theorem jf5 : ((Rows.hallSumsRow.stops == [])) = true := by kernel_rfl
theorem jf6 : ((Tryz.prog.stops == [])) = true := by kernel_rfl
theorem jf7 : ((Rows.hallSumsRow.knobs == [])) = true := by kernel_rfl
theorem jf8 : ((Tryz.prog.stopKnobs == [])) = true := by kernel_rfl
theorem jf9 : ((Rows.hallSumsRow.inPlace == Tryz.prog.inPlace 13)) = true := by kernel_rfl
theorem jf10 : ((Rows.hallSumsRow.unfollowed == Tryz.prog.unfollowed 13)) = true := by kernel_rfl
theorem jf11 : ((Rows.hallSumsRow.recurses == Tryz.prog.recurses 13)) = true := by kernel_rfl
theorem jf12 : ((Rows.hallSumsRow.named == Tryz.prog.varsNamed 13)) = true := by kernel_rfl
theorem jf13 : ((Rows.hallSumsRow.maps == (Tryz.f13.params.toList ++ Rows.hallSumsSpec.plain.varTypes Tryz.prog).any (Tryz.prog.mapsRec ·))) = true := by kernel_rfl
theorem jf14 : ((Rows.hallSumsRow.ifaces == (Tryz.f13.params.toList ++ Rows.hallSumsSpec.plain.varTypes Tryz.prog).any (Tryz.prog.ifacesRec ·))) = true := by kernel_rfl
theorem jf15 : ((Rows.hallSumsRow.mapsOut == Tryz.prog.mapsAmong Tryz.f13.resultTypes.toList)) = true := by kernel_rfl
theorem jf16 : ((Rows.hallSumsRow.loops == (Tryz.f13.params.toList ++ Rows.hallSumsSpec.plain.varTypes Tryz.prog).any (Tryz.prog.loopsFrom ·))) = true := by kernel_rfl
theorem jf17 : ((Rows.hallSumsRow.wideKeys == (Tryz.f13.params.toList ++ Rows.hallSumsSpec.plain.varTypes Tryz.prog ++ Tryz.f13.resultTypes.toList).any (Tryz.prog.wideKeysFrom ·))) = true := by kernel_rfl
theorem jf18 : (Rows.hallSumsSpec.vars.all (Tryz.prog.varReadable ·)) = true := by kernel_rfl
theorem jf19 : (Tryz.f13.resultTypes.all (fun t => Tryz.prog.readableRec t && decide (t < Tryz.prog.types.size))) = true := by kernel_rfl
theorem jf20 : ((Rows.hallSumsRow.ifacesOut == Tryz.f13.resultTypes.toList.any (Tryz.prog.ifacesRec ·))) = true := by kernel_rfl
theorem jf21 : ((Rows.hallSumsRow.loopsOut == Tryz.f13.resultTypes.toList.any (Tryz.prog.loopsFrom ·))) = true := by kernel_rfl
theorem jf22 : ((Rows.hallSumsRow.plainKeys == Tryz.prog.plainKeys)) = true := by kernel_rfl
theorem jf23 : (Rows.hallSumsRow.shortTexts.isNone) = true := by kernel_rfl
theorem jf24 : (Tryz.prog.stopsHeard) = true := by kernel_rfl
theorem jf25 : (Tryz.prog.mayEnter) = true := by kernel_rfl
theorem jf26 : ((Rows.hallSumsRow.lifted == Tryz.prog.liftsFinal)) = true := by kernel_rfl
theorem jf27 : ((Tryz.prog.make == some Rows.hallSumsRow.make)) = true := by kernel_rfl
theorem jf28 : ((Rows.hallSumsRow.kinds == (if Rows.hallSumsRow.domain.isEmpty then [] else Tryz.f13.params.toList.map fun t => match Tryz.prog.underlying t with | some (.int k) => some k | _ => none))) = true := by kernel_rfl
theorem jf29 : ((Rows.hallSumsRow.pinned == Rows.hallSumsRow.pinnedBy)) = true := by kernel_rfl
theorem jf30 : ((Rows.hallSumsRow.veiled == (Tryz.f13.params.toList ++ Rows.hallSumsSpec.plain.varTypes Tryz.prog ++ Tryz.f13.resultTypes.toList).any (Tryz.prog.veiledRec ·))) = true := by kernel_rfl
theorem jf31 : (Rows.hallSumsRow.veiledFits Tryz.prog Tryz.f13.params.toList (Tryz.f13.params.toList ++ Rows.hallSumsSpec.plain.varTypes Tryz.prog ++ Tryz.f13.resultTypes.toList)) = true := by kernel_rfl
theorem jfall : joinedFacts Tryz.prog 13 Tryz.f13 Rows.hallSumsSpec Rows.hallSumsRow = true :=
  band (band (band (band (band (band (band (band (band (band (band (band (band (band (band (band (band (band (band (band (band (band (band (band (band (band (band (band (band (band (band (jf0) jf1) jf2) jf3) jf4) jf5) jf6) jf7) jf8) jf9) jf10) jf11) jf12) jf13) jf14) jf15) jf16) jf17) jf18) jf19) jf20) jf21) jf22) jf23) jf24) jf25) jf26) jf27) jf28) jf29) jf30) jf31
end Jf13
end Go.Proofs.YtfegloadbajbhaaGreatDoor
