/- Contracts: fixtures, what is wrong with a list of them. -/
import Derived.Test.YtppflopinmkpgaaDoorFnB
noncomputable section
namespace Go.Proofs.YtppflopinmkpgaaDoor
open Go Go.Den
set_option maxRecDepth 10000

structure Fx where
  day : Int
  home : Int
  away : Int