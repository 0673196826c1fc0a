/- Contracts: the most of a team; what a set of teams proves. -/
import Derived.Test.YtiggikjbknoohaaGreatDoorElB
noncomputable section
namespace Go.Proofs.YtiggikjbknoohaaGreatDoor
open Go Go.Den
set_option maxRecDepth 10000

end Go.Proofs.YtiggikjbknoohaaGreatDoor
