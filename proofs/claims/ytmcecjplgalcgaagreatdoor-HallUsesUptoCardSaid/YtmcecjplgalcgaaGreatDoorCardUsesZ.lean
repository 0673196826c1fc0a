/- For every input of bulk at most 1048576 (values and letters together, as uptoBulk of the Rows text counts them) the law HallUses returns true, and every argument reads behind the call as it read before; package-level variables hold at the call's start what the program's text lays. -/
import Derived.Test.YtmcecjplgalcgaaGreatDoorCardUses
noncomputable section
namespace Go.Proofs.YtmcecjplgalcgaaGreatDoor
open Go Go.Den Go.ChangeShapes Go.WideShapes Go.ChangeAt Go.RowKit
namespace C3
theorem plain (f : FuncId) (fn : Func) (hf : Tryz.pinned.checked.prog.funcNamed "baulk/baulklaw09.HallUses" = some f) (hfn : Tryz.pinned.checked.prog.funcs[f]? = some fn) :
  false = Tryz.pinned.checked.prog.looks [] ∧ ∀ (j : Nat) t, fn.params[j]? = some t → Tryz.pinned.checked.prog.wantsStandIn t = false := by
 obtain rfl : f = 3 := Option.some.inj ((show Tryz.prog.funcNamed "baulk/baulklaw09.HallUses" = some 3 by kernel_rfl).symm.trans hf) |>.symm
 obtain rfl : fn = Tryz.f3 := (Option.some.inj (Tryz.func3.symm.trans hfn)).symm
 refine ⟨by kernel_rfl, fun j t ht => ?_⟩
 have hp : Tryz.f3.params = #[22, 26, 31] := rfl
 rw [hp] at ht
 have hm : t = 22 ∨ t = 26 ∨ t = 31 := by simpa using Array.mem_of_getElem? ht
 rcases hm with rfl | rfl | rfl
 ·exact (show Tryz.prog.wantsStandIn 22 = false by kernel_rfl)
 ·exact (show Tryz.prog.wantsStandIn 26 = false by kernel_rfl)
 ·exact (show Tryz.prog.wantsStandIn 31 = false by kernel_rfl)
theorem k1 : OpenClaim.wfByText (Rows.OpenSpec.upto Rows.hallUsesSpec) Rows.hallUsesUptoRow = true := by kernel_rfl
theorem k2 : Tryz.pinned.checked.prog.mainIs = some ((true, "341064bdf44e6d80856ef6b14c3ac2af8afe770221aa8d0b797574163f0ccc8b").fst, (true, "341064bdf44e6d80856ef6b14c3ac2af8afe770221aa8d0b797574163f0ccc8b").snd.toList) := by kernel_rfl
theorem k3 : false = Rows.hallUsesUptoRow.goesBy Tryz.pinned.checked.prog := by kernel_rfl
theorem card : Rows.HallUsesUptoCardSaid :=
 Claim7.holds_tied_plain_at .later [] _ _ _ _ said (fun _ h => by cases h) k1 (fun _ h => by cases h) hallUsesUpto_row_tie rfl ⟨rfl, rfl⟩ k2 rfl plain k3
end C3
theorem hallUsesUpto_holds : Rows.HallUsesUptoCardSaid := C3.card
end Go.Proofs.YtmcecjplgalcgaaGreatDoor
