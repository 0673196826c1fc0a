/- Contracts: lists of fixtures that are the same, small numbers. -/
import Derived.Test.YtiggikjbknoohaaGreatDoorFnL
import Derived.Test.YtiggikjbknoohaaGreatDoorSxK
noncomputable section
namespace Go.Proofs.YtiggikjbknoohaaGreatDoor
open Go Go.Den
set_option maxRecDepth 100000

/-- n, made even -/
def evenN (n : Nat) : Nat := n + n % 2
theorem even_c {H : AHeap} {n : Nat} (hn : n ≤ 1000000) : Ret Tryz.prog 155 [I n] H (I (evenN n)) H := by
  have e : ((n : Int)).tmod 2 = ((n % 2 : Nat) : Int) := by rw [Int.tmod_eq_emod_of_nonneg (by omega)]; rfl
  refine fn_start Tryz.func155 rfl rfl rfl fun hc => ?_
  apply ct_seq
  apply ct_region
  apply seq_plain; exact do_assign rfl; exact rfl
  apply seq_nil
  apply ct_seq
  apply ct_region
  apply seq_plain; exact do_move rfl; exact rfl
  apply seq_plain; exact do_move rfl; exact rfl
  apply seq_plain; exact do_rem rfl rfl (by decide); exact rfl
  apply seq_plain; exact do_add rfl rfl (by omega); exact rfl
  apply seq_plain; exact do_assign rfl; exact rfl
  apply seq_nil
  apply ct_ret
  refine fin_flat hc rfl rfl ⟨?_, rfl⟩
  show I ((n : Int) + (n : Int).tmod 2) = _
  rw [e]
  simp [evenN]
end Go.Proofs.YtiggikjbknoohaaGreatDoor
