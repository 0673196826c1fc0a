/- The world in which a row's list is met. -/
import Derived.Test.YtiggikjbknoohaaGreatDoorFnL
import Derived.Test.YtiggikjbknoohaaGreatDoorAwake
import Derived.Test.YtiggikjbknoohaaGreatDoorTie
import Derived.Test.YtiggikjbknoohaaGreatDoorCards
noncomputable section
namespace Go.Proofs.YtiggikjbknoohaaGreatDoor
open Go Go.Den Go.ChangeShapes Go.WideShapes Go.ChangeAt Go.RowKit

theorem own0 : ownKnob Tryz.prog.godebug = none := by kernel_rfl
noncomputable def putCs (cs : List Value) : Obj → Obj
  | .cells _ t frozen => .cells ⟨cs⟩ t frozen
  | o => o
noncomputable def laidWorld (os : Os) : World :=
  { World.holding Tryz.prog os ⟨#[], #[], []⟩ with heap := ((((World.holding Tryz.prog os ⟨#[], #[], []⟩).heap.modify 0 (putCs cs0)).modify 3 (putCs cs3)).modify 5 (putCs cs5)).modify 6 (putCs cs6) }

end Go.Proofs.YtiggikjbknoohaaGreatDoor
