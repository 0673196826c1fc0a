/- Contracts: what is wrong with a set that is to prove something. -/
import Derived.Test.YtiggikjbknoohaaGreatDoorElB
noncomputable section
namespace Go.Proofs.YtiggikjbknoohaaGreatDoor
open Go Go.Den
set_option maxRecDepth 10000

def nth (l : List Int) (i : Nat) : Int := l[i]?.getD 0
theorem nth_eq {l : List Int} {i : Nat} (h : i < l.length) : l[i] = nth l i := by simp [nth, h]
end Go.Proofs.YtiggikjbknoohaaGreatDoor
