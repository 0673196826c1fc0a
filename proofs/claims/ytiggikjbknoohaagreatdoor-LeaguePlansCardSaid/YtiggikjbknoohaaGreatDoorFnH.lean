/- Contracts: every pair meets. -/
import Derived.Test.YtiggikjbknoohaaGreatDoorFnG
noncomputable section
namespace Go.Proofs.YtiggikjbknoohaaGreatDoor
open Go Go.Den
set_option maxRecDepth 10000
