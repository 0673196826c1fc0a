/- Contracts: races, pairs, searches in lists of numbers, comparisons. -/
import Derived.Test.YtfegloadbajbhaaGreatDoorFnF
import Derived.Test.YtfegloadbajbhaaGreatDoorSxK
noncomputable section
namespace Go.Proofs.YtfegloadbajbhaaGreatDoor
open Go Go.Den
set_option maxRecDepth 10000

abbrev p2 (p : Int × Int) : List Value := [I p.1, I p.2]
end Go.Proofs.YtfegloadbajbhaaGreatDoor
