/- HallOpens: the closed facts of its row, one by one. -/
import Derived.Test.YtfegloadbajbhaaGreatDoorRows
import Derived.JoinedCond
noncomputable section
namespace Go.Proofs.YtfegloadbajbhaaGreatDoor
open Go
namespace Jf11
set_option maxRecDepth 100000
theorem band {a b : Bool} (h : a = true) (k : b = true) : (a && b) = true := by rw [h, k]; rfl
theorem jf0 : (Rows.hallOpensUptoRow.wf (OpenSpec.ofChange Rows.hallOpensSpec)) = true := by kernel_rfl
theorem jf1 : (laidOutB Tryz.prog) = true := by kernel_rfl
theorem jf2 : (mapsRowed Tryz.prog) = true := by kernel_rfl
theorem jf3 : (Tryz.f11.params.all (Tryz.prog.readableRec ·)) = true := by kernel_rfl
theorem jf4 : (namedTie Tryz.prog Rows.hallOpensUptoRow.named Rows.hallOpensSpec.vars) = true := by kernel_rfl
theorem jf5 : ((Rows.hallOpensUptoRow.stops == [])) = true := by kernel_rfl
theorem jf6 : ((Tryz.prog.stops == [])) = true := by kernel_rfl
theorem jf7 : ((Rows.hallOpensUptoRow.knobs == [])) = true := by kernel_rfl
theorem jf8 : ((Tryz.prog.stopKnobs == [])) = true := by kernel_rfl
theorem jf9 : ((Rows.hallOpensUptoRow.inPlace == Tryz.prog.inPlace 11)) = true := by kernel_rfl
theorem jf10 : ((Rows.hallOpensUptoRow.unfollowed == Tryz.prog.unfollowed 11)) = true := by kernel_rfl
theorem jf11 : ((Rows.hallOpensUptoRow.recurses == Tryz.prog.recurses 11)) = true := by kernel_rfl
theorem jf12 : ((Rows.hallOpensUptoRow.named == Tryz.prog.varsNamed 11)) = true := by kernel_rfl
theorem jf13 : ((Rows.hallOpensUptoRow.maps == (Tryz.f11.params.toList ++ Rows.hallOpensSpec.plain.varTypes Tryz.prog).any (Tryz.prog.mapsRec ·))) = true := by kernel_rfl
theorem jf14 : ((Rows.hallOpensUptoRow.ifaces == (Tryz.f11.params.toList ++ Rows.hallOpensSpec.plain.varTypes Tryz.prog).any (Tryz.prog.ifacesRec ·))) = true := by kernel_rfl
theorem jf15 : ((Rows.hallOpensUptoRow.mapsOut == Tryz.prog.mapsAmong Tryz.f11.resultTypes.toList)) = true := by kernel_rfl
theorem jf16 : ((Rows.hallOpensUptoRow.loops == (Tryz.f11.params.toList ++ Rows.hallOpensSpec.plain.varTypes Tryz.prog).any (Tryz.prog.loopsFrom ·))) = true := by kernel_rfl
theorem jf17 : ((Rows.hallOpensUptoRow.wideKeys == (Tryz.f11.params.toList ++ Rows.hallOpensSpec.plain.varTypes Tryz.prog ++ Tryz.f11.resultTypes.toList).any (Tryz.prog.wideKeysFrom ·))) = true := by kernel_rfl
theorem jf18 : (Rows.hallOpensSpec.vars.all (Tryz.prog.varReadable ·)) = true := by kernel_rfl
theorem jf19 : (Tryz.f11.resultTypes.all (fun t => Tryz.prog.readableRec t && decide (t < Tryz.prog.types.size))) = true := by kernel_rfl
theorem jf20 : ((Rows.hallOpensUptoRow.ifacesOut == Tryz.f11.resultTypes.toList.any (Tryz.prog.ifacesRec ·))) = true := by kernel_rfl
theorem jf21 : ((Rows.hallOpensUptoRow.loopsOut == Tryz.f11.resultTypes.toList.any (Tryz.prog.loopsFrom ·))) = true := by kernel_rfl
theorem jf22 : ((Rows.hallOpensUptoRow.plainKeys == Tryz.prog.plainKeys)) = true := by kernel_rfl
theorem jf23 : (Rows.hallOpensUptoRow.shortTexts.isNone) = true := by kernel_rfl
theorem jf24 : (Tryz.prog.stopsHeard) = true := by kernel_rfl
theorem jf25 : (Tryz.prog.mayEnter) = true := by kernel_rfl
theorem jf26 : ((Rows.hallOpensUptoRow.lifted == Tryz.prog.liftsFinal)) = true := by kernel_rfl
theorem jf27 : ((Tryz.prog.make == some Rows.hallOpensUptoRow.make)) = true := by kernel_rfl
theorem jf28 : ((Rows.hallOpensUptoRow.kinds == (if Rows.hallOpensUptoRow.domain.isEmpty then [] else Tryz.f11.params.toList.map fun t => match Tryz.prog.underlying t with | some (.int k) => some k | _ => none))) = true := by kernel_rfl
theorem jf29 : ((Rows.hallOpensUptoRow.pinned == Rows.hallOpensUptoRow.pinnedBy)) = true := by kernel_rfl
theorem jf30 : ((Rows.hallOpensUptoRow.veiled == (Tryz.f11.params.toList ++ Rows.hallOpensSpec.plain.varTypes Tryz.prog ++ Tryz.f11.resultTypes.toList).any (Tryz.prog.veiledRec ·))) = true := by kernel_rfl
theorem jf31 : (Rows.hallOpensUptoRow.veiledFits Tryz.prog Tryz.f11.params.toList (Tryz.f11.params.toList ++ Rows.hallOpensSpec.plain.varTypes Tryz.prog ++ Tryz.f11.resultTypes.toList)) = true := by kernel_rfl
theorem jfall : joinedFacts Tryz.prog 11 Tryz.f11 Rows.hallOpensSpec Rows.hallOpensUptoRow = true :=
  band (band (band (band (band (band (band (band (band (band (band (band (band (band (band (band (band (band (band (band (band (band (band (band (band (band (band (band (band (band (band (jf0) jf1) jf2) jf3) jf4) jf5) jf6) jf7) jf8) jf9) jf10) jf11) jf12) jf13) jf14) jf15) jf16) jf17) jf18) jf19) jf20) jf21) jf22) jf23) jf24) jf25) jf26) jf27) jf28) jf29) jf30) jf31
end Jf11
end Go.Proofs.YtfegloadbajbhaaGreatDoor
