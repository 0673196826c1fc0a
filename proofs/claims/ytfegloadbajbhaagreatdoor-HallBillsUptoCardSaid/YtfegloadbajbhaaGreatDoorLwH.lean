/- The world in which a row's list is met. -/
import Derived.Test.YtfegloadbajbhaaGreatDoorFnL
import Derived.Test.YtfegloadbajbhaaGreatDoorAwake
import Derived.Test.YtfegloadbajbhaaGreatDoorTie
import Derived.Test.YtfegloadbajbhaaGreatDoorCards
noncomputable section
namespace Go.Proofs.YtfegloadbajbhaaGreatDoor
open Go Go.Den Go.ChangeShapes Go.WideShapes Go.ChangeAt Go.RowKit

theorem own0 : ownKnob Tryz.prog.godebug = none := by kernel_rfl
noncomputable def putCs (cs : List Value) : Obj → Obj
  | .cells _ t frozen => .cells ⟨cs⟩ t frozen
  | o => o
noncomputable def laidWorld (os : Os) : World :=
  { World.holding Tryz.prog os ⟨#[], #[], []⟩ with heap := (((World.holding Tryz.prog os ⟨#[], #[], []⟩).heap.modify 2 (putCs cs2)).modify 4 (putCs cs4)).modify 5 (putCs cs5) }

end Go.Proofs.YtfegloadbajbhaaGreatDoor
