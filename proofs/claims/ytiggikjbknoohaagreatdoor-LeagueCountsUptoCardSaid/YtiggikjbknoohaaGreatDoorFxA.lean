/- Contracts: lists of fixtures that are the same, small numbers. -/
import Derived.Test.YtiggikjbknoohaaGreatDoorFnL
import Derived.Test.YtiggikjbknoohaaGreatDoorSxK
noncomputable section
namespace Go.Proofs.YtiggikjbknoohaaGreatDoor
open Go Go.Den
set_option maxRecDepth 100000

theorem tyI : ∃ ti, (ctxOf Tryz.prog).ty.get 3 = some ti ∧ ti.und = .int .i64 ∧ ti.size = 1 ∧ isAggD ti.und = false := ⟨_, ctx_ty rfl, rfl, rfl, rfl⟩
end Go.Proofs.YtiggikjbknoohaaGreatDoor
