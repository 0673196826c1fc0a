/- For every input of bulk at most 1048576 (values and letters together, as uptoBulk of the Rows text counts them) the law HallBalances returns true, and every argument reads behind the call as it read before; package-level variables hold at the call's start what the program's text lays. -/
import Derived.Test.YtfegloadbajbhaaGreatDoorCardBalances
noncomputable section
namespace Go.Proofs.YtfegloadbajbhaaGreatDoor
open Go Go.Den Go.ChangeShapes Go.WideShapes Go.ChangeAt Go.RowKit
namespace C14
theorem plain (f : FuncId) (fn : Func) (hf : Tryz.pinned.checked.prog.funcNamed "baulk/baulklaw09.HallBalances" = some f) (hfn : Tryz.pinned.checked.prog.funcs[f]? = some fn) :
    false = Tryz.pinned.checked.prog.looks [] ∧ ∀ (j : Nat) t, fn.params[j]? = some t → Tryz.pinned.checked.prog.wantsStandIn t = false := by
  obtain rfl : f = 14 := Option.some.inj ((show Tryz.prog.funcNamed "baulk/baulklaw09.HallBalances" = some 14 by kernel_rfl).symm.trans hf) |>.symm
  obtain rfl : fn = Tryz.f14 := (Option.some.inj (Tryz.func14.symm.trans hfn)).symm
  refine ⟨by kernel_rfl, fun j t ht => ?_⟩
  have hp : Tryz.f14.params = #[101, 95, 59] := rfl
  rw [hp] at ht
  have hm : t = 101 ∨ t = 95 ∨ t = 59 := by simpa using Array.mem_of_getElem? ht
  rcases hm with rfl | rfl | rfl
  · exact (show Tryz.prog.wantsStandIn 101 = false by kernel_rfl)
  · exact (show Tryz.prog.wantsStandIn 95 = false by kernel_rfl)
  · exact (show Tryz.prog.wantsStandIn 59 = false by kernel_rfl)
theorem k1 : OpenClaim.wfByText (Rows.OpenSpec.upto Rows.hallBalancesSpec) Rows.hallBalancesUptoRow = true := by kernel_rfl
theorem k2 : Tryz.pinned.checked.prog.mainIs = some ((true, "47f8d7d05d972242664aeee6e1c327b56e6638765b626dca0abb647fa9108689").fst, (true, "47f8d7d05d972242664aeee6e1c327b56e6638765b626dca0abb647fa9108689").snd.toList) := by kernel_rfl
theorem k3 : false = Rows.hallBalancesUptoRow.goesBy Tryz.pinned.checked.prog := by kernel_rfl
theorem card : Rows.HallBalancesUptoCardSaid :=
  Claim7.holds_tied_plain_at .later [] _ _ _ _ said (fun _ h => by cases h) k1 (fun _ h => by cases h) hallBalancesUpto_row_tie rfl ⟨rfl, rfl⟩ k2 rfl plain k3
end C14
theorem hallBalancesUpto_holds : Rows.HallBalancesUptoCardSaid := C14.card
end Go.Proofs.YtfegloadbajbhaaGreatDoor
