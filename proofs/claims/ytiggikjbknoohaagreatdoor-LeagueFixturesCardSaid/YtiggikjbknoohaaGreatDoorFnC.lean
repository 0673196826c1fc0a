/- Contracts: fixtures, what is wrong with a list of them. -/
import Derived.Test.YtiggikjbknoohaaGreatDoorFnB
noncomputable section
namespace Go.Proofs.YtiggikjbknoohaaGreatDoor
open Go Go.Den
set_option maxRecDepth 10000

def prV (p : Int × Int) : Value := Pr p.1 p.2
structure Fx where
  day : Int
  home : Int
  away : Int
def fx (x : Fx) : List Value := [I x.day, I x.home, I x.away]
