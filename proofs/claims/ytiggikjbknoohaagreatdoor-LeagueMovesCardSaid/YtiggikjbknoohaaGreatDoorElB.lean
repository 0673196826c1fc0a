/- Contracts: what is wrong with a race; the most of a team. -/
import Derived.Test.YtiggikjbknoohaaGreatDoorElA
noncomputable section
namespace Go.Proofs.YtiggikjbknoohaaGreatDoor
open Go Go.Den
set_option maxRecDepth 10000

theorem whenL_zero {b : Bool} {e : Int} (h : whenL b e = 0) (he : e ≠ 0) : b = false := by
  cases b
  · rfl
  · exact absurd h he
end Go.Proofs.YtiggikjbknoohaaGreatDoor
