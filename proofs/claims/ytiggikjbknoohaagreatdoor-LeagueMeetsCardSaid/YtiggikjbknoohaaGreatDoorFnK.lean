/- Opening a list of fixtures. -/
import Derived.Test.YtiggikjbknoohaaGreatDoorFnJ
import Derived.Test.YtiggikjbknoohaaGreatDoorSxA
import Derived.Deep.Slices
import Derived.Deep.Strs
noncomputable section
namespace Go.Proofs.YtiggikjbknoohaaGreatDoor
open Go Go.Den Go.ChangeShapes Go.Deep
set_option maxRecDepth 10000
noncomputable instance : Inhabited Fx := ⟨⟨0, 0, 0⟩⟩
