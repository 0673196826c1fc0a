/-
  DERIVED. GIVEN WITH THE SEED: THE CARDS: each row of YtflbffhahoblfaaGreatDoorRows.lean that lists a variable, with what it lists TIED to the program's text (the seventh form; the later family's looks); each row that meets fmt, with fmt's text TOLD by the authors' own Lean function (tested against real Go, not proved from fmt's source: count such statements apart). THE CARD IS WHAT COUNTS. Prove the row's statement (the work); the ties are given (YtflbffhahoblfaaGreatDoorTie.lean); close each card by the builder's one call (the guide's Derived/Test/ToyasCard.lean, 'card_holds'). Laid BY PROGRAM, IN A SANDBOX (cutbox-door.mjs). By AI agents, Wed Nov 11 2026. No macro, syntax, notation, axiom, sorry.
-/
import Derived.Test.YtflbffhahoblfaaGreatDoorRows
import GoSem.ClaimSeven
namespace Go.Proofs.YtflbffhahoblfaaGreatDoor
namespace Rows

/-- THE TIED CARD OF 'baulklaw09.HallAssigns'. -/
def hallAssignsCard : Claim7 := { stood := { row := hallAssignsRow, standIns := [], harness := (true, "9b3c6be5e8cf578742d3cd2ccc204ee0c6f5757bb480914b45aaea0d9a092341"), looks := false }, kinds := [], alts := [], laidByText := true, laidKinds := [.data, .data, .data], laidTests := true, laidLooks := .later }
def HallAssignsCardSaid : Prop := Claim7.holds Tryz.pinned (.plain (OpenSpec.ofChange hallAssignsSpec)) hallAssignsCard

/-- THE SECOND FORM's CARD OF 'baulklaw09.HallAssigns'. -/
def hallAssignsUptoCard : Claim7 := { stood := { row := hallAssignsUptoRow, standIns := [], harness := (true, "9b3c6be5e8cf578742d3cd2ccc204ee0c6f5757bb480914b45aaea0d9a092341"), looks := false }, kinds := [], alts := [], laidByText := true, laidKinds := [.data, .data, .data], laidTests := true, laidLooks := .later }
def HallAssignsUptoCardSaid : Prop := Claim7.holds Tryz.pinned (.plain (OpenSpec.upto hallAssignsSpec)) hallAssignsUptoCard
end Rows
end Go.Proofs.YtflbffhahoblfaaGreatDoor
