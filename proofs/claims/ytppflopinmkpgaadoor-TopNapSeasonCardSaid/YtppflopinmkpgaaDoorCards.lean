/-
  DERIVED. GIVEN WITH THE SEED: THE CARDS: each row of YtppflopinmkpgaaDoorRows.lean that lists a variable, with what it lists TIED to the program's text (the seventh form; the later family's looks); each row that meets fmt, with fmt's text TOLD by the authors' own Lean function (tested against real Go, not proved from fmt's source: count such statements apart). THE CARD IS WHAT COUNTS. Prove the row's statement (the work); the ties are given (YtppflopinmkpgaaDoorTie.lean); close each card by the builder's one call (the guide's Derived/Test/ToyasCard.lean, 'card_holds'). Laid BY PROGRAM, IN A SANDBOX (cutbox-door.mjs). By AI agents, Wed Nov 11 2026. No macro, syntax, notation, axiom, sorry.
-/
import Derived.Test.YtppflopinmkpgaaDoorRows
import GoSem.ClaimSeven
namespace Go.Proofs.YtppflopinmkpgaaDoor
namespace Rows

/-- THE TIED CARD OF 'baulktop.TopNapSeason'. -/
def topNapSeasonCard : Claim7 := { stood := { row := topNapSeasonRow, standIns := [], harness := (true, "9c1d9185df4176a7ec9244687f24607fe3186a7238834f6552bcda71f20f2f53"), looks := false }, kinds := [], alts := [], laidByText := true, laidKinds := [.data], laidTests := true, laidLooks := .later }
def TopNapSeasonCardSaid : Prop := Claim7.holds Tryd.pinned (.plain (OpenSpec.ofChange topNapSeasonSpec)) topNapSeasonCard

/-- THE TIED CARD OF 'baulktop.TopNapEnds'. -/
def topNapEndsCard : Claim7 := { stood := { row := topNapEndsRow, standIns := [], harness := (true, "9c1d9185df4176a7ec9244687f24607fe3186a7238834f6552bcda71f20f2f53"), looks := false }, kinds := [], alts := [], laidByText := true, laidKinds := [.data], laidTests := true, laidLooks := .later }
def TopNapEndsCardSaid : Prop := Claim7.holds Tryd.pinned (.plain (OpenSpec.ofChange topNapEndsSpec)) topNapEndsCard

/-- THE SECOND FORM's CARD OF 'baulktop.TopNapSeason'. -/
def topNapSeasonUptoCard : Claim7 := { stood := { row := topNapSeasonUptoRow, standIns := [], harness := (true, "9c1d9185df4176a7ec9244687f24607fe3186a7238834f6552bcda71f20f2f53"), looks := false }, kinds := [], alts := [], laidByText := true, laidKinds := [.data], laidTests := true, laidLooks := .later }
def TopNapSeasonUptoCardSaid : Prop := Claim7.holds Tryd.pinned (.plain (OpenSpec.upto topNapSeasonSpec)) topNapSeasonUptoCard

/-- THE SECOND FORM's CARD OF 'baulktop.TopNapEnds'. -/
def topNapEndsUptoCard : Claim7 := { stood := { row := topNapEndsUptoRow, standIns := [], harness := (true, "9c1d9185df4176a7ec9244687f24607fe3186a7238834f6552bcda71f20f2f53"), looks := false }, kinds := [], alts := [], laidByText := true, laidKinds := [.data], laidTests := true, laidLooks := .later }
def TopNapEndsUptoCardSaid : Prop := Claim7.holds Tryd.pinned (.plain (OpenSpec.upto topNapEndsSpec)) topNapEndsUptoCard
end Rows
end Go.Proofs.YtppflopinmkpgaaDoor
