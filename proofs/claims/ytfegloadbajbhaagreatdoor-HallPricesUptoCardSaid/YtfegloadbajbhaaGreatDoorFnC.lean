/- Contracts: fixtures, what is wrong with a list of them. -/
import Derived.Test.YtfegloadbajbhaaGreatDoorFnA
import Derived.Test.YtfegloadbajbhaaGreatDoorSxA
noncomputable section
namespace Go.Proofs.YtfegloadbajbhaaGreatDoor
open Go Go.Den
set_option maxRecDepth 10000

structure Fx where
  day : Int
  home : Int
  away : Int