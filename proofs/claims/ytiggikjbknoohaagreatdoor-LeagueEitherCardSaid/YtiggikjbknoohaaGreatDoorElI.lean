/- LeagueEliminates: the law's own walk. -/
import Derived.Test.YtiggikjbknoohaaGreatDoorElH
import Derived.Test.YtiggikjbknoohaaGreatDoorFnJ
noncomputable section
namespace Go.Proofs.YtiggikjbknoohaaGreatDoor
open Go Go.Den
set_option maxRecDepth 10000

end Go.Proofs.YtiggikjbknoohaaGreatDoor
