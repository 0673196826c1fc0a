/- For every input of bulk at most 1048576 (values and letters together, as uptoBulk of the Rows text counts them) the law HallWears returns true, and every argument reads behind the call as it read before; package-level variables hold at the call's start what the program's text lays. -/
import Derived.Test.YtlejimjgagfalaaGreatDoorCardWears
noncomputable section
namespace Go.Proofs.YtlejimjgagfalaaGreatDoor
open Go Go.Den Go.ChangeShapes Go.WideShapes Go.ChangeAt Go.RowKit
namespace C3
theorem plain (f : FuncId) (fn : Func) (hf : Tryz.pinned.checked.prog.funcNamed "baulk/baulklaw09.HallWears" = some f) (hfn : Tryz.pinned.checked.prog.funcs[f]? = some fn) :
  false = Tryz.pinned.checked.prog.looks [] ∧ ∀ (j : Nat) t, fn.params[j]? = some t → Tryz.pinned.checked.prog.wantsStandIn t = false := by
 obtain rfl : f = 3 := Option.some.inj ((show Tryz.prog.funcNamed "baulk/baulklaw09.HallWears" = some 3 by kernel_rfl).symm.trans hf) |>.symm
 obtain rfl : fn = Tryz.f3 := (Option.some.inj (Tryz.func3.symm.trans hfn)).symm;refine ⟨by kernel_rfl, fun j t ht => ?_⟩;have hp : Tryz.f3.params = #[22, 26, 27] := rfl;rw [hp] at ht;have hm : t = 22 ∨ t = 26 ∨ t = 27 := by simpa using Array.mem_of_getElem? ht
 rcases hm with rfl | rfl | rfl
 ·exact (show Tryz.prog.wantsStandIn 22 = false by kernel_rfl)
 ·exact (show Tryz.prog.wantsStandIn 26 = false by kernel_rfl)
 ·exact (show Tryz.prog.wantsStandIn 27 = false by kernel_rfl)
theorem k1 : OpenClaim.wfByText (Rows.OpenSpec.upto Rows.hallWearsSpec) Rows.hallWearsUptoRow = true := by kernel_rfl
theorem k2 : Tryz.pinned.checked.prog.mainIs = some ((true, "d503a8dccee4723566888dc20d3ee0d3e538fbe6ff6dad40387142610b0e17f3").fst, (true, "d503a8dccee4723566888dc20d3ee0d3e538fbe6ff6dad40387142610b0e17f3").snd.toList) := by kernel_rfl
theorem k3 : false = Rows.hallWearsUptoRow.goesBy Tryz.pinned.checked.prog := by kernel_rfl
theorem card : Rows.HallWearsUptoCardSaid :=
 Claim7.holds_tied_plain_at .later [] _ _ _ _ said (fun _ h => by cases h) k1 (fun _ h => by cases h) hallWearsUpto_row_tie rfl ⟨rfl, rfl⟩ k2 rfl plain k3
end C3
theorem hallWearsUpto_holds : Rows.HallWearsUptoCardSaid := C3.card
end Go.Proofs.YtlejimjgagfalaaGreatDoor
