/- Contracts: the best set of teams that proves it (the program's). -/
import Derived.Test.YtiggikjbknoohaaGreatDoorElF
noncomputable section
namespace Go.Proofs.YtiggikjbknoohaaGreatDoor
open Go Go.Den
set_option maxRecDepth 10000

end Go.Proofs.YtiggikjbknoohaaGreatDoor
