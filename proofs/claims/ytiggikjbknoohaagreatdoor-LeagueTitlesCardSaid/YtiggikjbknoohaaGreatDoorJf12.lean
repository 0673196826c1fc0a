/- LeagueTitles: the closed facts of its row, one by one. -/
import Derived.Test.YtiggikjbknoohaaGreatDoorRows
import Derived.JoinedCond
noncomputable section
namespace Go.Proofs.YtiggikjbknoohaaGreatDoor
open Go
namespace Jf12
set_option maxRecDepth 100000
theorem band {a b : Bool} (h : a = true) (k : b = true) : (a && b) = true := by rw [h, k]; rfl
theorem jf0 : (Rows.leagueTitlesRow.wf (OpenSpec.ofChange Rows.leagueTitlesSpec)) = true := by kernel_rfl
theorem jf1 : (laidOutB Tryz.prog) = true := by kernel_rfl
theorem jf2 : (mapsRowed Tryz.prog) = true := by kernel_rfl
theorem jf3 : (Tryz.f12.params.all (Tryz.prog.readableRec ·)) = true := by kernel_rfl
theorem jf4 : (namedTie Tryz.prog Rows.leagueTitlesRow.named Rows.leagueTitlesSpec.vars) = true := by kernel_rfl
theorem jf5 : ((Rows.leagueTitlesRow.stops == [])) = true := by kernel_rfl
theorem jf6 : ((Tryz.prog.stops == [])) = true := by kernel_rfl
theorem jf7 : ((Rows.leagueTitlesRow.knobs == [])) = true := by kernel_rfl
theorem jf8 : ((Tryz.prog.stopKnobs == [])) = true := by kernel_rfl
theorem jf9 : ((Rows.leagueTitlesRow.inPlace == Tryz.prog.inPlace 12)) = true := by kernel_rfl
theorem jf10 : ((Rows.leagueTitlesRow.unfollowed == Tryz.prog.unfollowed 12)) = true := by kernel_rfl
theorem jf11 : ((Rows.leagueTitlesRow.recurses == Tryz.prog.recurses 12)) = true := by kernel_rfl
theorem jf12 : ((Rows.leagueTitlesRow.named == Tryz.prog.varsNamed 12)) = true := by kernel_rfl
theorem jf13 : ((Rows.leagueTitlesRow.maps == (Tryz.f12.params.toList ++ Rows.leagueTitlesSpec.plain.varTypes Tryz.prog).any (Tryz.prog.mapsRec ·))) = true := by kernel_rfl
theorem jf14 : ((Rows.leagueTitlesRow.ifaces == (Tryz.f12.params.toList ++ Rows.leagueTitlesSpec.plain.varTypes Tryz.prog).any (Tryz.prog.ifacesRec ·))) = true := by kernel_rfl
theorem jf15 : ((Rows.leagueTitlesRow.mapsOut == Tryz.prog.mapsAmong Tryz.f12.resultTypes.toList)) = true := by kernel_rfl
theorem jf16 : ((Rows.leagueTitlesRow.loops == (Tryz.f12.params.toList ++ Rows.leagueTitlesSpec.plain.varTypes Tryz.prog).any (Tryz.prog.loopsFrom ·))) = true := by kernel_rfl
theorem jf17 : ((Rows.leagueTitlesRow.wideKeys == (Tryz.f12.params.toList ++ Rows.leagueTitlesSpec.plain.varTypes Tryz.prog ++ Tryz.f12.resultTypes.toList).any (Tryz.prog.wideKeysFrom ·))) = true := by kernel_rfl
theorem jf18 : (Rows.leagueTitlesSpec.vars.all (Tryz.prog.varReadable ·)) = true := by kernel_rfl
theorem jf19 : (Tryz.f12.resultTypes.all (fun t => Tryz.prog.readableRec t && decide (t < Tryz.prog.types.size))) = true := by kernel_rfl
theorem jf20 : ((Rows.leagueTitlesRow.ifacesOut == Tryz.f12.resultTypes.toList.any (Tryz.prog.ifacesRec ·))) = true := by kernel_rfl
theorem jf21 : ((Rows.leagueTitlesRow.loopsOut == Tryz.f12.resultTypes.toList.any (Tryz.prog.loopsFrom ·))) = true := by kernel_rfl
theorem jf22 : ((Rows.leagueTitlesRow.plainKeys == Tryz.prog.plainKeys)) = true := by kernel_rfl
theorem jf23 : (Rows.leagueTitlesRow.shortTexts.isNone) = true := by kernel_rfl
theorem jf24 : (Tryz.prog.stopsHeard) = true := by kernel_rfl
theorem jf25 : (Tryz.prog.mayEnter) = true := by kernel_rfl
theorem jf26 : ((Rows.leagueTitlesRow.lifted == Tryz.prog.liftsFinal)) = true := by kernel_rfl
theorem jf27 : ((Tryz.prog.make == some Rows.leagueTitlesRow.make)) = true := by kernel_rfl
theorem jf28 : ((Rows.leagueTitlesRow.kinds == (if Rows.leagueTitlesRow.domain.isEmpty then [] else Tryz.f12.params.toList.map fun t => match Tryz.prog.underlying t with | some (.int k) => some k | _ => none))) = true := by kernel_rfl
theorem jf29 : ((Rows.leagueTitlesRow.pinned == Rows.leagueTitlesRow.pinnedBy)) = true := by kernel_rfl
theorem jf30 : ((Rows.leagueTitlesRow.veiled == (Tryz.f12.params.toList ++ Rows.leagueTitlesSpec.plain.varTypes Tryz.prog ++ Tryz.f12.resultTypes.toList).any (Tryz.prog.veiledRec ·))) = true := by kernel_rfl
theorem jf31 : (Rows.leagueTitlesRow.veiledFits Tryz.prog Tryz.f12.params.toList (Tryz.f12.params.toList ++ Rows.leagueTitlesSpec.plain.varTypes Tryz.prog ++ Tryz.f12.resultTypes.toList)) = true := by kernel_rfl
theorem jfall : joinedFacts Tryz.prog 12 Tryz.f12 Rows.leagueTitlesSpec Rows.leagueTitlesRow = true :=
  band (band (band (band (band (band (band (band (band (band (band (band (band (band (band (band (band (band (band (band (band (band (band (band (band (band (band (band (band (band (band (jf0) jf1) jf2) jf3) jf4) jf5) jf6) jf7) jf8) jf9) jf10) jf11) jf12) jf13) jf14) jf15) jf16) jf17) jf18) jf19) jf20) jf21) jf22) jf23) jf24) jf25) jf26) jf27) jf28) jf29) jf30) jf31
end Jf12
end Go.Proofs.YtiggikjbknoohaaGreatDoor
