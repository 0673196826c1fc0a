/- Contracts: the reference's search for days. -/
import Derived.Test.YtfegloadbajbhaaGreatDoorPnA
import Derived.Test.YtfegloadbajbhaaGreatDoorElA
import Derived.Test.YtfegloadbajbhaaGreatDoorPlL
import Derived.Test.YtfegloadbajbhaaGreatDoorSxT
noncomputable section
namespace Go.Proofs.YtfegloadbajbhaaGreatDoor
open Go Go.Den
set_option maxRecDepth 100000

theorem flat_i1_map : ∀ l : List Int, l.flatMap i1 = l.map I
  | [] => rfl
  | a :: r => by simp only [List.flatMap_cons, flat_i1_map r, List.map_cons]; rfl
end Go.Proofs.YtfegloadbajbhaaGreatDoor
