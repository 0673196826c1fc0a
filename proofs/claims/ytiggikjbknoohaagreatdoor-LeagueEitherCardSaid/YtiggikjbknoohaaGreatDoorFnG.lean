/- Contracts: home matches, the list as a whole. -/
import Derived.Test.YtiggikjbknoohaaGreatDoorFnF
noncomputable section
namespace Go.Proofs.YtiggikjbknoohaaGreatDoor
open Go Go.Den
set_option maxRecDepth 10000
