/- LeagueEliminates: the contract over every input, the row's forms, the card. -/
import Derived.Test.YtiggikjbknoohaaGreatDoorFnL
import Derived.Test.YtiggikjbknoohaaGreatDoorSxK
import Derived.Test.YtiggikjbknoohaaGreatDoorElA
import Derived.Test.YtiggikjbknoohaaGreatDoorFnJ
import Derived.Test.YtiggikjbknoohaaGreatDoorAwake
noncomputable section
namespace Go.Proofs.YtiggikjbknoohaaGreatDoor
open Go Go.Den Go.ChangeShapes Go.WideShapes Go.ChangeAt Go.RowKit Go.Deep
set_option maxRecDepth 10000
noncomputable instance : Inhabited (Int × Int) := ⟨(0, 0)⟩

section
variable {H : Type} {enc : TypeId × Value → H} {W : World} {sp : Nat → Bool} {hd : Bool} {fuel : Nat}
end

end Go.Proofs.YtiggikjbknoohaaGreatDoor
