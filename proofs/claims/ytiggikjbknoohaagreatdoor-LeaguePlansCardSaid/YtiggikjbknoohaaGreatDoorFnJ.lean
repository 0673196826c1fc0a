/- LeagueChecks: the law's own walk. -/
import Derived.Test.YtiggikjbknoohaaGreatDoorFnI
noncomputable section
namespace Go.Proofs.YtiggikjbknoohaaGreatDoor
open Go Go.Den
set_option maxRecDepth 10000
