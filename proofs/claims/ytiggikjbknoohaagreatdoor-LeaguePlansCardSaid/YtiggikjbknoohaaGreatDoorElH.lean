/- Contracts: the best set of teams that proves it (the reference's). -/
import Derived.Test.YtiggikjbknoohaaGreatDoorElG
noncomputable section
namespace Go.Proofs.YtiggikjbknoohaaGreatDoor
open Go Go.Den
set_option maxRecDepth 10000

end Go.Proofs.YtiggikjbknoohaaGreatDoor
