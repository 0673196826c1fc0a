/- Contracts: pairs of teams. -/
import Derived.Test.YtiggikjbknoohaaGreatDoorFnA
import Derived.Test.YtiggikjbknoohaaGreatDoorSxA
noncomputable section
namespace Go.Proofs.YtiggikjbknoohaaGreatDoor
open Go Go.Den
set_option maxRecDepth 10000

abbrev Pr (a b : Int) : Value := .agg ⟨[I a, I b]⟩
theorem turned138 {H : AHeap} {a b : Int} : Ret Tryz.prog 138 [Pr a b] H (Pr b a) H := by
  refine fn_start Tryz.func138 rfl rfl rfl fun hc => ?_
  apply ct_seq
  apply ct_region
  apply seq_newP; exact do_box rfl rfl rfl; exact rfl
  apply seq_newP; exact do_alloc rfl rfl; exact rfl
  apply seq_nil
  apply ct_seq
  apply ct_region
  apply seq_plain; exact do_indexAddrA rfl rfl rfl (by exact rfl); exact rfl
  apply seq_plain; exact do_load rfl (by exact ext_get_new rfl) rfl (by exact rfl); exact rfl
  apply seq_plain; exact do_indexAddrA rfl rfl rfl (by exact rfl); exact rfl
  apply seq_plain; exact do_load rfl (by exact ext_get_new rfl) rfl (by exact rfl); exact rfl
  apply seq_plain; exact do_build rfl rfl rfl rfl; exact rfl
  apply seq_putC (hc := by assumption); rotate_left; exact do_store rfl rfl (by exact ext_get_new rfl) rfl rfl (nb_own _); rotate_left; exact Nat.le_of_ble_eq_true rfl
  apply ct_ret
  exact fin_cell hc rfl rfl (by exact ext_get_new rfl) (by exact rfl) (by exact rfl) (by exact rfl) (by exact ⟨rfl, rfl⟩)

end Go.Proofs.YtiggikjbknoohaaGreatDoor
