/- LeagueDays: the closed facts of its row, one by one. -/
import Derived.Test.YtiggikjbknoohaaGreatDoorRows
import Derived.JoinedCond
noncomputable section
namespace Go.Proofs.YtiggikjbknoohaaGreatDoor
open Go
namespace Jf9
set_option maxRecDepth 100000
theorem band {a b : Bool} (h : a = true) (k : b = true) : (a && b) = true := by rw [h, k]; rfl
theorem jf0 : (Rows.leagueDaysRow.wf (OpenSpec.ofChange Rows.leagueDaysSpec)) = true := by kernel_rfl
theorem jf1 : (laidOutB Tryz.prog) = true := by kernel_rfl
theorem jf2 : (mapsRowed Tryz.prog) = true := by kernel_rfl
theorem jf3 : (Tryz.f9.params.all (Tryz.prog.readableRec ·)) = true := by kernel_rfl
theorem jf4 : (namedTie Tryz.prog Rows.leagueDaysRow.named Rows.leagueDaysSpec.vars) = true := by kernel_rfl
theorem jf5 : ((Rows.leagueDaysRow.stops == [])) = true := by kernel_rfl
theorem jf6 : ((Tryz.prog.stops == [])) = true := by kernel_rfl
theorem jf7 : ((Rows.leagueDaysRow.knobs == [])) = true := by kernel_rfl
theorem jf8 : ((Tryz.prog.stopKnobs == [])) = true := by kernel_rfl
theorem jf9 : ((Rows.leagueDaysRow.inPlace == Tryz.prog.inPlace 9)) = true := by kernel_rfl
theorem jf10 : ((Rows.leagueDaysRow.unfollowed == Tryz.prog.unfollowed 9)) = true := by kernel_rfl
theorem jf11 : ((Rows.leagueDaysRow.recurses == Tryz.prog.recurses 9)) = true := by kernel_rfl
theorem jf12 : ((Rows.leagueDaysRow.named == Tryz.prog.varsNamed 9)) = true := by kernel_rfl
theorem jf13 : ((Rows.leagueDaysRow.maps == (Tryz.f9.params.toList ++ Rows.leagueDaysSpec.plain.varTypes Tryz.prog).any (Tryz.prog.mapsRec ·))) = true := by kernel_rfl
theorem jf14 : ((Rows.leagueDaysRow.ifaces == (Tryz.f9.params.toList ++ Rows.leagueDaysSpec.plain.varTypes Tryz.prog).any (Tryz.prog.ifacesRec ·))) = true := by kernel_rfl
theorem jf15 : ((Rows.leagueDaysRow.mapsOut == Tryz.prog.mapsAmong Tryz.f9.resultTypes.toList)) = true := by kernel_rfl
theorem jf16 : ((Rows.leagueDaysRow.loops == (Tryz.f9.params.toList ++ Rows.leagueDaysSpec.plain.varTypes Tryz.prog).any (Tryz.prog.loopsFrom ·))) = true := by kernel_rfl
theorem jf17 : ((Rows.leagueDaysRow.wideKeys == (Tryz.f9.params.toList ++ Rows.leagueDaysSpec.plain.varTypes Tryz.prog ++ Tryz.f9.resultTypes.toList).any (Tryz.prog.wideKeysFrom ·))) = true := by kernel_rfl
theorem jf18 : (Rows.leagueDaysSpec.vars.all (Tryz.prog.varReadable ·)) = true := by kernel_rfl
theorem jf19 : (Tryz.f9.resultTypes.all (fun t => Tryz.prog.readableRec t && decide (t < Tryz.prog.types.size))) = true := by kernel_rfl
theorem jf20 : ((Rows.leagueDaysRow.ifacesOut == Tryz.f9.resultTypes.toList.any (Tryz.prog.ifacesRec ·))) = true := by kernel_rfl
theorem jf21 : ((Rows.leagueDaysRow.loopsOut == Tryz.f9.resultTypes.toList.any (Tryz.prog.loopsFrom ·))) = true := by kernel_rfl
theorem jf22 : ((Rows.leagueDaysRow.plainKeys == Tryz.prog.plainKeys)) = true := by kernel_rfl
theorem jf23 : (Rows.leagueDaysRow.shortTexts.isNone) = true := by kernel_rfl
theorem jf24 : (Tryz.prog.stopsHeard) = true := by kernel_rfl
theorem jf25 : (Tryz.prog.mayEnter) = true := by kernel_rfl
theorem jf26 : ((Rows.leagueDaysRow.lifted == Tryz.prog.liftsFinal)) = true := by kernel_rfl
theorem jf27 : ((Tryz.prog.make == some Rows.leagueDaysRow.make)) = true := by kernel_rfl
theorem jf28 : ((Rows.leagueDaysRow.kinds == (if Rows.leagueDaysRow.domain.isEmpty then [] else Tryz.f9.params.toList.map fun t => match Tryz.prog.underlying t with | some (.int k) => some k | _ => none))) = true := by kernel_rfl
theorem jf29 : ((Rows.leagueDaysRow.pinned == Rows.leagueDaysRow.pinnedBy)) = true := by kernel_rfl
theorem jf30 : ((Rows.leagueDaysRow.veiled == (Tryz.f9.params.toList ++ Rows.leagueDaysSpec.plain.varTypes Tryz.prog ++ Tryz.f9.resultTypes.toList).any (Tryz.prog.veiledRec ·))) = true := by kernel_rfl
theorem jf31 : (Rows.leagueDaysRow.veiledFits Tryz.prog Tryz.f9.params.toList (Tryz.f9.params.toList ++ Rows.leagueDaysSpec.plain.varTypes Tryz.prog ++ Tryz.f9.resultTypes.toList)) = true := by kernel_rfl
theorem jfall : joinedFacts Tryz.prog 9 Tryz.f9 Rows.leagueDaysSpec Rows.leagueDaysRow = true :=
  band (band (band (band (band (band (band (band (band (band (band (band (band (band (band (band (band (band (band (band (band (band (band (band (band (band (band (band (band (band (band (jf0) jf1) jf2) jf3) jf4) jf5) jf6) jf7) jf8) jf9) jf10) jf11) jf12) jf13) jf14) jf15) jf16) jf17) jf18) jf19) jf20) jf21) jf22) jf23) jf24) jf25) jf26) jf27) jf28) jf29) jf30) jf31
end Jf9
end Go.Proofs.YtiggikjbknoohaaGreatDoor
