/- Contracts: what is wrong with a list of fixtures. -/
import Derived.Test.YtiggikjbknoohaaGreatDoorFnC
noncomputable section
namespace Go.Proofs.YtiggikjbknoohaaGreatDoor
open Go Go.Den
set_option maxRecDepth 10000
