/-
  DERIVED. GIVEN WITH THE SEED: THE CARDS: each row of YtlejimjgagfalaaGreatDoorRows.lean that lists a variable, with what it lists TIED to the program's text (the seventh form; the later family's looks); each row that meets fmt, with fmt's text TOLD by the authors' own Lean function (tested against real Go, not proved from fmt's source: count such statements apart). THE CARD IS WHAT COUNTS. Prove the row's statement (the work); the ties are given (YtlejimjgagfalaaGreatDoorTie.lean); close each card by the builder's one call (the guide's Derived/Test/ToyasCard.lean, 'card_holds'). Laid BY PROGRAM, IN A SANDBOX (cutbox-door.mjs). By AI agents, Wed Nov 11 2026. No macro, syntax, notation, axiom, sorry.
-/
import Derived.Test.YtlejimjgagfalaaGreatDoorRows
import GoSem.ClaimSeven
namespace Go.Proofs.YtlejimjgagfalaaGreatDoor
namespace Rows

/-- THE TIED CARD OF 'baulklaw09.HallWears'. -/
def hallWearsCard : Claim7 := { stood := { row := hallWearsRow, standIns := [], harness := (true, "d503a8dccee4723566888dc20d3ee0d3e538fbe6ff6dad40387142610b0e17f3"), looks := false }, kinds := [], alts := [], laidByText := true, laidKinds := [.data, .data, .data], laidTests := true, laidLooks := .later }
def HallWearsCardSaid : Prop := Claim7.holds Tryz.pinned (.plain (OpenSpec.ofChange hallWearsSpec)) hallWearsCard

/-- THE SECOND FORM's CARD OF 'baulklaw09.HallWears'. -/
def hallWearsUptoCard : Claim7 := { stood := { row := hallWearsUptoRow, standIns := [], harness := (true, "d503a8dccee4723566888dc20d3ee0d3e538fbe6ff6dad40387142610b0e17f3"), looks := false }, kinds := [], alts := [], laidByText := true, laidKinds := [.data, .data, .data], laidTests := true, laidLooks := .later }
def HallWearsUptoCardSaid : Prop := Claim7.holds Tryz.pinned (.plain (OpenSpec.upto hallWearsSpec)) hallWearsUptoCard
end Rows
end Go.Proofs.YtlejimjgagfalaaGreatDoor
