/- For every input of bulk at most 1048576 (values and letters together, as uptoBulk of the Rows text counts them) the law HallEither returns true, and every argument reads behind the call as it read before; package-level variables hold at the call's start what the program's text lays. -/
import Derived.Test.YtfegloadbajbhaaGreatDoorCardEither
noncomputable section
namespace Go.Proofs.YtfegloadbajbhaaGreatDoor
open Go Go.Den Go.ChangeShapes Go.WideShapes Go.ChangeAt Go.RowKit
namespace C10
theorem plain (f : FuncId) (fn : Func) (hf : Tryz.pinned.checked.prog.funcNamed "baulk/baulklaw09.HallEither" = some f) (hfn : Tryz.pinned.checked.prog.funcs[f]? = some fn) :
    false = Tryz.pinned.checked.prog.looks [] ∧ ∀ (j : Nat) t, fn.params[j]? = some t → Tryz.pinned.checked.prog.wantsStandIn t = false := by
  obtain rfl : f = 10 := Option.some.inj ((show Tryz.prog.funcNamed "baulk/baulklaw09.HallEither" = some 10 by kernel_rfl).symm.trans hf) |>.symm
  obtain rfl : fn = Tryz.f10 := (Option.some.inj (Tryz.func10.symm.trans hfn)).symm
  refine ⟨by kernel_rfl, fun j t ht => ?_⟩
  have hp : Tryz.f10.params = #[22, 23, 3] := rfl
  rw [hp] at ht
  have hm : t = 22 ∨ t = 23 ∨ t = 3 := by simpa using Array.mem_of_getElem? ht
  rcases hm with rfl | rfl | rfl
  · exact (show Tryz.prog.wantsStandIn 22 = false by kernel_rfl)
  · exact (show Tryz.prog.wantsStandIn 23 = false by kernel_rfl)
  · exact (show Tryz.prog.wantsStandIn 3 = false by kernel_rfl)
theorem k1 : OpenClaim.wfByText (Rows.OpenSpec.upto Rows.hallEitherSpec) Rows.hallEitherUptoRow = true := by kernel_rfl
theorem k2 : Tryz.pinned.checked.prog.mainIs = some ((true, "47f8d7d05d972242664aeee6e1c327b56e6638765b626dca0abb647fa9108689").fst, (true, "47f8d7d05d972242664aeee6e1c327b56e6638765b626dca0abb647fa9108689").snd.toList) := by kernel_rfl
theorem k3 : false = Rows.hallEitherUptoRow.goesBy Tryz.pinned.checked.prog := by kernel_rfl
theorem card : Rows.HallEitherUptoCardSaid :=
  Claim7.holds_tied_plain_at .later [] _ _ _ _ said (fun _ h => by cases h) k1 (fun _ h => by cases h) hallEitherUpto_row_tie rfl ⟨rfl, rfl⟩ k2 rfl plain k3
end C10
theorem hallEitherUpto_holds : Rows.HallEitherUptoCardSaid := C10.card
end Go.Proofs.YtfegloadbajbhaaGreatDoor
