/- Plain law: all pairs met are counted. -/
import Derived.Test.YtiggikjbknoohaaGreatDoorFnH
noncomputable section
namespace Go.Proofs.YtiggikjbknoohaaGreatDoor
open Go Go.Den
