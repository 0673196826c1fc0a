/-
  DERIVED. GIVEN WITH THE SEED: THE CARDS: each row of YtmcecjplgalcgaaGreatDoorRows.lean that lists a variable, with what it lists TIED to the program's text (the seventh form; the later family's looks); each row that meets fmt, with fmt's text TOLD by the authors' own Lean function (tested against real Go, not proved from fmt's source: count such statements apart). THE CARD IS WHAT COUNTS. Prove the row's statement (the work); the ties are given (YtmcecjplgalcgaaGreatDoorTie.lean); close each card by the builder's one call (the guide's Derived/Test/ToyasCard.lean, 'card_holds'). Laid BY PROGRAM, IN A SANDBOX (cutbox-door.mjs). By AI agents, Wed Nov 11 2026. No macro, syntax, notation, axiom, sorry.
-/
import Derived.Test.YtmcecjplgalcgaaGreatDoorRows
import GoSem.ClaimSeven
namespace Go.Proofs.YtmcecjplgalcgaaGreatDoor
namespace Rows

/-- THE TIED CARD OF 'baulklaw09.HallUses'. -/
def hallUsesCard : Claim7 := { stood := { row := hallUsesRow, standIns := [], harness := (true, "341064bdf44e6d80856ef6b14c3ac2af8afe770221aa8d0b797574163f0ccc8b"), looks := false }, kinds := [], alts := [], laidByText := true, laidKinds := [.data, .data, .data], laidTests := true, laidLooks := .later }
def HallUsesCardSaid : Prop := Claim7.holds Tryz.pinned (.plain (OpenSpec.ofChange hallUsesSpec)) hallUsesCard

/-- THE SECOND FORM's CARD OF 'baulklaw09.HallUses'. -/
def hallUsesUptoCard : Claim7 := { stood := { row := hallUsesUptoRow, standIns := [], harness := (true, "341064bdf44e6d80856ef6b14c3ac2af8afe770221aa8d0b797574163f0ccc8b"), looks := false }, kinds := [], alts := [], laidByText := true, laidKinds := [.data, .data, .data], laidTests := true, laidLooks := .later }
def HallUsesUptoCardSaid : Prop := Claim7.holds Tryz.pinned (.plain (OpenSpec.upto hallUsesSpec)) hallUsesUptoCard
end Rows
end Go.Proofs.YtmcecjplgalcgaaGreatDoor
