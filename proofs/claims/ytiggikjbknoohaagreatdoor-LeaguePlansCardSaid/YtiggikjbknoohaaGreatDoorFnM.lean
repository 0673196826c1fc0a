/- LeagueChecks: the contract over every input, the row's forms. -/
import Derived.Test.YtiggikjbknoohaaGreatDoorFnL
noncomputable section
namespace Go.Proofs.YtiggikjbknoohaaGreatDoor
open Go Go.Den Go.ChangeShapes Go.WideShapes Go.ChangeAt Go.RowKit
set_option maxRecDepth 10000
