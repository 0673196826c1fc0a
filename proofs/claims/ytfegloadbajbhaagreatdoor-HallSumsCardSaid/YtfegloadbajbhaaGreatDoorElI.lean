/- LeagueEliminates: the law's own walk. -/
import Derived.Test.YtfegloadbajbhaaGreatDoorElA
import Derived.Test.YtfegloadbajbhaaGreatDoorFnF
noncomputable section
namespace Go.Proofs.YtfegloadbajbhaaGreatDoor
open Go Go.Den
set_option maxRecDepth 10000

structure LowS (q : Option Addr) (c n : Nat) : Prop where
  cap : n ≤ c
  nil : q = none → n = 0 ∧ c = 0
  spot : ∀ a, q = some a → a.spot = none

end Go.Proofs.YtfegloadbajbhaaGreatDoor
