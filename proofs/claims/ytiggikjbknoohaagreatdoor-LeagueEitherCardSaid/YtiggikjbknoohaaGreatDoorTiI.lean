/- LeagueTitles: the law's own walk. -/
import Derived.Test.YtiggikjbknoohaaGreatDoorTiH
import Derived.Test.YtiggikjbknoohaaGreatDoorElI
noncomputable section
namespace Go.Proofs.YtiggikjbknoohaaGreatDoor
open Go Go.Den Go.Den.Title
set_option maxRecDepth 100000

end Go.Proofs.YtiggikjbknoohaaGreatDoor
