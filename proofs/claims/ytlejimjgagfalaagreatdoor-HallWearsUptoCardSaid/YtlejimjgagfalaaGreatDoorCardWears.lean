import Derived.Test.YtlejimjgagfalaaGreatDoorLwH
import Derived.Test.YtlejimjgagfalaaGreatDoorJf3
noncomputable section
namespace Go.Proofs.YtlejimjgagfalaaGreatDoor
open Go Go.Den Go.ChangeShapes Go.WideShapes Go.ChangeAt Go.RowKit
namespace C3
def wargs : Array Value := #[.slice none 0 0, .agg ⟨[.slice none 0 0, .slice none 0 0, .int .i64 0]⟩, .slice none 0 0]
theorem zqC (os : Os) : laidMet Tryz.prog Rows.hallWearsUptoRow.laid ((laidWorld os).forCall (fun _ _ => 0) ⟨#[], wargs, []⟩).memory :=
 laidMet_of_run' 8 (by kernel_rfl) (by kernel_rfl)
theorem reads (os : Os) {H : Type} (enc : TypeId × Value → H) : ∃ places, DataW.whole enc Tryz.prog ((laidWorld os).forCall (fun _ _ => 0) ⟨#[], wargs, []⟩).memory Tryz.f3.params.toList Rows.hallWearsSpec.vars false wargs.toList 8 = some ([.nil, .agg [.nil, .nil, .lit (.int .i64 0)], .nil], [], places) :=
 ⟨[], by kernel_rfl⟩
set_option maxRecDepth 100000 in
theorem lifted (os : Os) (started : os.Started) (H : Type) (enc : TypeId × Value → H) (F : Stop.Interp) :
  ReturnsInHanded {} Tryz.checked os 3 .any ((Rows.OpenSpec.upto Rows.hallWearsSpec).preRow enc Tryz.prog Tryz.f3 Rows.hallWearsUptoRow.domain false Rows.hallWearsUptoRow.laid) (((Rows.OpenSpec.upto Rows.hallWearsSpec).at F).post enc Tryz.prog Tryz.f3 false true false false) := by
 obtain ⟨places, hx⟩ := reads os enc
 refine returnsInHanded_of_row (C := Tryz.checked) (s := Rows.OpenSpec.upto Rows.hallWearsSpec) own0 started (by kernel_rfl) Tryz.func3
  (witness_row_at (enc := enc) (C := Tryz.checked) false (laidWorld os) wargs rfl (by kernel_rfl) (by kernel_rfl) (by kernel_rfl)
   (OpenSpec.preRow_of_cond 8 hx (by kernel_rfl) (fun k hk => by cases hk; kernel_rfl) (by kernel_rfl) (zqC os))) ?_
 intro W base args ds gs before hval hW _ hcond _ hL _ _;exact zhn H enc W base args ds gs before hval hW (hcond _ rfl) hL
set_option maxRecDepth 1000000 in
theorem said : Rows.HallWearsUptoSaid :=
 OpenClaim.holds_of_cond 3 Tryz.f3 rfl rfl rfl rfl rfl rfl rfl ⟨rfl, rfl, rfl, rfl, rfl⟩ rfl rfl rfl rfl rfl (by kernel_rfl) Tryz.func3 Jf3.jfall
  (of_decide_eq_true (by kernel_rfl)) (by unfold Func.isWrapper; first | (rw [if_pos (by decide +kernel)]; kernel_rfl) | (rw [if_neg (by decide +kernel)]; exact ⟨rfl, rfl⟩))
  (fun os started H enc _ F => by rw [OpenClaim.pre_eq_preRow]; exact lifted os started H enc F)
end C3
end Go.Proofs.YtlejimjgagfalaaGreatDoor
