/-
  DERIVED. GIVEN WITH THE SEED: THE CARDS: each row of YtiggikjbknoohaaGreatDoorRows.lean that lists a variable, with what it lists TIED to the program's text (the seventh form; the later family's looks); each row that meets fmt, with fmt's text TOLD by the authors' own Lean function (tested against real Go, not proved from fmt's source: count such statements apart). THE CARD IS WHAT COUNTS. Prove the row's statement (the work); the ties are given (YtiggikjbknoohaaGreatDoorTie.lean); close each card by the builder's one call (the guide's Derived/Test/ToyasCard.lean, 'card_holds'). Laid BY PROGRAM, IN A SANDBOX (cutbox-door.mjs). By AI agents, Wed Nov 11 2026. No macro, syntax, notation, axiom, sorry.
-/
import Derived.Test.YtiggikjbknoohaaGreatDoorRows
import GoSem.ClaimSeven
namespace Go.Proofs.YtiggikjbknoohaaGreatDoor
namespace Rows

/-- THE TIED CARD OF 'baulklaw08.LeagueRatings'. -/
def leagueRatingsCard : Claim7 := { stood := { row := leagueRatingsRow, standIns := [], harness := (true, "dc89df56b37e7357525a4e62b37e8813e8bfead1ee239d7630762832a3afa78e"), looks := false }, kinds := [], alts := [], laidByText := true, laidKinds := [.data, .data, .data, .data], laidTests := true, laidLooks := .later }
def LeagueRatingsCardSaid : Prop := Claim7.holds Tryz.pinned (.plain (OpenSpec.ofChange leagueRatingsSpec)) leagueRatingsCard

/-- THE TIED CARD OF 'baulklaw08.LeaguePromotions'. -/
def leaguePromotionsCard : Claim7 := { stood := { row := leaguePromotionsRow, standIns := [], harness := (true, "dc89df56b37e7357525a4e62b37e8813e8bfead1ee239d7630762832a3afa78e"), looks := false }, kinds := [], alts := [], laidByText := true, laidKinds := [.data, .data, .data, .data], laidTests := true, laidLooks := .later }
def LeaguePromotionsCardSaid : Prop := Claim7.holds Tryz.pinned (.plain (OpenSpec.ofChange leaguePromotionsSpec)) leaguePromotionsCard

/-- THE TIED CARD OF 'baulklaw08.LeaguePlans'. -/
def leaguePlansCard : Claim7 := { stood := { row := leaguePlansRow, standIns := [], harness := (true, "dc89df56b37e7357525a4e62b37e8813e8bfead1ee239d7630762832a3afa78e"), looks := false }, kinds := [], alts := [], laidByText := true, laidKinds := [.data, .data, .data, .data], laidTests := true, laidLooks := .later }
def LeaguePlansCardSaid : Prop := Claim7.holds Tryz.pinned (.plain (OpenSpec.ofChange leaguePlansSpec)) leaguePlansCard

/-- THE TIED CARD OF 'baulklaw08.LeagueCounts'. -/
def leagueCountsCard : Claim7 := { stood := { row := leagueCountsRow, standIns := [], harness := (true, "dc89df56b37e7357525a4e62b37e8813e8bfead1ee239d7630762832a3afa78e"), looks := false }, kinds := [], alts := [], laidByText := true, laidKinds := [.data, .data, .data, .data], laidTests := true, laidLooks := .later }
def LeagueCountsCardSaid : Prop := Claim7.holds Tryz.pinned (.plain (OpenSpec.ofChange leagueCountsSpec)) leagueCountsCard

/-- THE TIED CARD OF 'baulklaw08.LeagueFits'. -/
def leagueFitsCard : Claim7 := { stood := { row := leagueFitsRow, standIns := [], harness := (true, "dc89df56b37e7357525a4e62b37e8813e8bfead1ee239d7630762832a3afa78e"), looks := false }, kinds := [], alts := [], laidByText := true, laidKinds := [.data, .data, .data, .data], laidTests := true, laidLooks := .later }
def LeagueFitsCardSaid : Prop := Claim7.holds Tryz.pinned (.plain (OpenSpec.ofChange leagueFitsSpec)) leagueFitsCard

/-- THE TIED CARD OF 'baulklaw08.LeagueMoves'. -/
def leagueMovesCard : Claim7 := { stood := { row := leagueMovesRow, standIns := [], harness := (true, "dc89df56b37e7357525a4e62b37e8813e8bfead1ee239d7630762832a3afa78e"), looks := false }, kinds := [], alts := [], laidByText := true, laidKinds := [.data, .data, .data, .data], laidTests := true, laidLooks := .later }
def LeagueMovesCardSaid : Prop := Claim7.holds Tryz.pinned (.plain (OpenSpec.ofChange leagueMovesSpec)) leagueMovesCard

/-- THE TIED CARD OF 'baulklaw08.LeagueDays'. -/
def leagueDaysCard : Claim7 := { stood := { row := leagueDaysRow, standIns := [], harness := (true, "dc89df56b37e7357525a4e62b37e8813e8bfead1ee239d7630762832a3afa78e"), looks := false }, kinds := [], alts := [], laidByText := true, laidKinds := [.data, .data, .data, .data], laidTests := true, laidLooks := .later }
def LeagueDaysCardSaid : Prop := Claim7.holds Tryz.pinned (.plain (OpenSpec.ofChange leagueDaysSpec)) leagueDaysCard

/-- THE TIED CARD OF 'baulklaw08.LeagueChecks'. -/
def leagueChecksCard : Claim7 := { stood := { row := leagueChecksRow, standIns := [], harness := (true, "dc89df56b37e7357525a4e62b37e8813e8bfead1ee239d7630762832a3afa78e"), looks := false }, kinds := [], alts := [], laidByText := true, laidKinds := [.data, .data, .data, .data], laidTests := true, laidLooks := .later }
def LeagueChecksCardSaid : Prop := Claim7.holds Tryz.pinned (.plain (OpenSpec.ofChange leagueChecksSpec)) leagueChecksCard

/-- THE TIED CARD OF 'baulklaw08.LeagueEliminates'. -/
def leagueEliminatesCard : Claim7 := { stood := { row := leagueEliminatesRow, standIns := [], harness := (true, "dc89df56b37e7357525a4e62b37e8813e8bfead1ee239d7630762832a3afa78e"), looks := false }, kinds := [], alts := [], laidByText := true, laidKinds := [.data, .data, .data, .data], laidTests := true, laidLooks := .later }
def LeagueEliminatesCardSaid : Prop := Claim7.holds Tryz.pinned (.plain (OpenSpec.ofChange leagueEliminatesSpec)) leagueEliminatesCard

/-- THE TIED CARD OF 'baulklaw08.LeagueTitles'. -/
def leagueTitlesCard : Claim7 := { stood := { row := leagueTitlesRow, standIns := [], harness := (true, "dc89df56b37e7357525a4e62b37e8813e8bfead1ee239d7630762832a3afa78e"), looks := false }, kinds := [], alts := [], laidByText := true, laidKinds := [.data, .data, .data, .data], laidTests := true, laidLooks := .later }
def LeagueTitlesCardSaid : Prop := Claim7.holds Tryz.pinned (.plain (OpenSpec.ofChange leagueTitlesSpec)) leagueTitlesCard

/-- THE TIED CARD OF 'baulklaw08.LeagueFixtures'. -/
def leagueFixturesCard : Claim7 := { stood := { row := leagueFixturesRow, standIns := [], harness := (true, "dc89df56b37e7357525a4e62b37e8813e8bfead1ee239d7630762832a3afa78e"), looks := false }, kinds := [], alts := [], laidByText := true, laidKinds := [.data, .data, .data, .data], laidTests := true, laidLooks := .later }
def LeagueFixturesCardSaid : Prop := Claim7.holds Tryz.pinned (.plain (OpenSpec.ofChange leagueFixturesSpec)) leagueFixturesCard

/-- THE TIED CARD OF 'baulklaw08.LeagueEither'. -/
def leagueEitherCard : Claim7 := { stood := { row := leagueEitherRow, standIns := [], harness := (true, "dc89df56b37e7357525a4e62b37e8813e8bfead1ee239d7630762832a3afa78e"), looks := false }, kinds := [], alts := [], laidByText := true, laidKinds := [.data, .data, .data, .data], laidTests := true, laidLooks := .later }
def LeagueEitherCardSaid : Prop := Claim7.holds Tryz.pinned (.plain (OpenSpec.ofChange leagueEitherSpec)) leagueEitherCard

/-- THE TIED CARD OF 'baulklaw08.LeagueMeets'. -/
def leagueMeetsCard : Claim7 := { stood := { row := leagueMeetsRow, standIns := [], harness := (true, "dc89df56b37e7357525a4e62b37e8813e8bfead1ee239d7630762832a3afa78e"), looks := false }, kinds := [], alts := [], laidByText := true, laidKinds := [.data, .data, .data, .data], laidTests := true, laidLooks := .later }
def LeagueMeetsCardSaid : Prop := Claim7.holds Tryz.pinned (.plain (OpenSpec.ofChange leagueMeetsSpec)) leagueMeetsCard

/-- THE SECOND FORM's CARD OF 'baulklaw08.LeagueRatings'. -/
def leagueRatingsUptoCard : Claim7 := { stood := { row := leagueRatingsUptoRow, standIns := [], harness := (true, "dc89df56b37e7357525a4e62b37e8813e8bfead1ee239d7630762832a3afa78e"), looks := false }, kinds := [], alts := [], laidByText := true, laidKinds := [.data, .data, .data, .data], laidTests := true, laidLooks := .later }
def LeagueRatingsUptoCardSaid : Prop := Claim7.holds Tryz.pinned (.plain (OpenSpec.upto leagueRatingsSpec)) leagueRatingsUptoCard

/-- THE SECOND FORM's CARD OF 'baulklaw08.LeaguePromotions'. -/
def leaguePromotionsUptoCard : Claim7 := { stood := { row := leaguePromotionsUptoRow, standIns := [], harness := (true, "dc89df56b37e7357525a4e62b37e8813e8bfead1ee239d7630762832a3afa78e"), looks := false }, kinds := [], alts := [], laidByText := true, laidKinds := [.data, .data, .data, .data], laidTests := true, laidLooks := .later }
def LeaguePromotionsUptoCardSaid : Prop := Claim7.holds Tryz.pinned (.plain (OpenSpec.upto leaguePromotionsSpec)) leaguePromotionsUptoCard

/-- THE SECOND FORM's CARD OF 'baulklaw08.LeaguePlans'. -/
def leaguePlansUptoCard : Claim7 := { stood := { row := leaguePlansUptoRow, standIns := [], harness := (true, "dc89df56b37e7357525a4e62b37e8813e8bfead1ee239d7630762832a3afa78e"), looks := false }, kinds := [], alts := [], laidByText := true, laidKinds := [.data, .data, .data, .data], laidTests := true, laidLooks := .later }
def LeaguePlansUptoCardSaid : Prop := Claim7.holds Tryz.pinned (.plain (OpenSpec.upto leaguePlansSpec)) leaguePlansUptoCard

/-- THE SECOND FORM's CARD OF 'baulklaw08.LeagueCounts'. -/
def leagueCountsUptoCard : Claim7 := { stood := { row := leagueCountsUptoRow, standIns := [], harness := (true, "dc89df56b37e7357525a4e62b37e8813e8bfead1ee239d7630762832a3afa78e"), looks := false }, kinds := [], alts := [], laidByText := true, laidKinds := [.data, .data, .data, .data], laidTests := true, laidLooks := .later }
def LeagueCountsUptoCardSaid : Prop := Claim7.holds Tryz.pinned (.plain (OpenSpec.upto leagueCountsSpec)) leagueCountsUptoCard

/-- THE SECOND FORM's CARD OF 'baulklaw08.LeagueFits'. -/
def leagueFitsUptoCard : Claim7 := { stood := { row := leagueFitsUptoRow, standIns := [], harness := (true, "dc89df56b37e7357525a4e62b37e8813e8bfead1ee239d7630762832a3afa78e"), looks := false }, kinds := [], alts := [], laidByText := true, laidKinds := [.data, .data, .data, .data], laidTests := true, laidLooks := .later }
def LeagueFitsUptoCardSaid : Prop := Claim7.holds Tryz.pinned (.plain (OpenSpec.upto leagueFitsSpec)) leagueFitsUptoCard

/-- THE SECOND FORM's CARD OF 'baulklaw08.LeagueMoves'. -/
def leagueMovesUptoCard : Claim7 := { stood := { row := leagueMovesUptoRow, standIns := [], harness := (true, "dc89df56b37e7357525a4e62b37e8813e8bfead1ee239d7630762832a3afa78e"), looks := false }, kinds := [], alts := [], laidByText := true, laidKinds := [.data, .data, .data, .data], laidTests := true, laidLooks := .later }
def LeagueMovesUptoCardSaid : Prop := Claim7.holds Tryz.pinned (.plain (OpenSpec.upto leagueMovesSpec)) leagueMovesUptoCard

/-- THE SECOND FORM's CARD OF 'baulklaw08.LeagueDays'. -/
def leagueDaysUptoCard : Claim7 := { stood := { row := leagueDaysUptoRow, standIns := [], harness := (true, "dc89df56b37e7357525a4e62b37e8813e8bfead1ee239d7630762832a3afa78e"), looks := false }, kinds := [], alts := [], laidByText := true, laidKinds := [.data, .data, .data, .data], laidTests := true, laidLooks := .later }
def LeagueDaysUptoCardSaid : Prop := Claim7.holds Tryz.pinned (.plain (OpenSpec.upto leagueDaysSpec)) leagueDaysUptoCard

/-- THE SECOND FORM's CARD OF 'baulklaw08.LeagueChecks'. -/
def leagueChecksUptoCard : Claim7 := { stood := { row := leagueChecksUptoRow, standIns := [], harness := (true, "dc89df56b37e7357525a4e62b37e8813e8bfead1ee239d7630762832a3afa78e"), looks := false }, kinds := [], alts := [], laidByText := true, laidKinds := [.data, .data, .data, .data], laidTests := true, laidLooks := .later }
def LeagueChecksUptoCardSaid : Prop := Claim7.holds Tryz.pinned (.plain (OpenSpec.upto leagueChecksSpec)) leagueChecksUptoCard

/-- THE SECOND FORM's CARD OF 'baulklaw08.LeagueEliminates'. -/
def leagueEliminatesUptoCard : Claim7 := { stood := { row := leagueEliminatesUptoRow, standIns := [], harness := (true, "dc89df56b37e7357525a4e62b37e8813e8bfead1ee239d7630762832a3afa78e"), looks := false }, kinds := [], alts := [], laidByText := true, laidKinds := [.data, .data, .data, .data], laidTests := true, laidLooks := .later }
def LeagueEliminatesUptoCardSaid : Prop := Claim7.holds Tryz.pinned (.plain (OpenSpec.upto leagueEliminatesSpec)) leagueEliminatesUptoCard

/-- THE SECOND FORM's CARD OF 'baulklaw08.LeagueTitles'. -/
def leagueTitlesUptoCard : Claim7 := { stood := { row := leagueTitlesUptoRow, standIns := [], harness := (true, "dc89df56b37e7357525a4e62b37e8813e8bfead1ee239d7630762832a3afa78e"), looks := false }, kinds := [], alts := [], laidByText := true, laidKinds := [.data, .data, .data, .data], laidTests := true, laidLooks := .later }
def LeagueTitlesUptoCardSaid : Prop := Claim7.holds Tryz.pinned (.plain (OpenSpec.upto leagueTitlesSpec)) leagueTitlesUptoCard

/-- THE SECOND FORM's CARD OF 'baulklaw08.LeagueFixtures'. -/
def leagueFixturesUptoCard : Claim7 := { stood := { row := leagueFixturesUptoRow, standIns := [], harness := (true, "dc89df56b37e7357525a4e62b37e8813e8bfead1ee239d7630762832a3afa78e"), looks := false }, kinds := [], alts := [], laidByText := true, laidKinds := [.data, .data, .data, .data], laidTests := true, laidLooks := .later }
def LeagueFixturesUptoCardSaid : Prop := Claim7.holds Tryz.pinned (.plain (OpenSpec.upto leagueFixturesSpec)) leagueFixturesUptoCard

/-- THE SECOND FORM's CARD OF 'baulklaw08.LeagueEither'. -/
def leagueEitherUptoCard : Claim7 := { stood := { row := leagueEitherUptoRow, standIns := [], harness := (true, "dc89df56b37e7357525a4e62b37e8813e8bfead1ee239d7630762832a3afa78e"), looks := false }, kinds := [], alts := [], laidByText := true, laidKinds := [.data, .data, .data, .data], laidTests := true, laidLooks := .later }
def LeagueEitherUptoCardSaid : Prop := Claim7.holds Tryz.pinned (.plain (OpenSpec.upto leagueEitherSpec)) leagueEitherUptoCard

/-- THE SECOND FORM's CARD OF 'baulklaw08.LeagueMeets'. -/
def leagueMeetsUptoCard : Claim7 := { stood := { row := leagueMeetsUptoRow, standIns := [], harness := (true, "dc89df56b37e7357525a4e62b37e8813e8bfead1ee239d7630762832a3afa78e"), looks := false }, kinds := [], alts := [], laidByText := true, laidKinds := [.data, .data, .data, .data], laidTests := true, laidLooks := .later }
def LeagueMeetsUptoCardSaid : Prop := Claim7.holds Tryz.pinned (.plain (OpenSpec.upto leagueMeetsSpec)) leagueMeetsUptoCard
end Rows
end Go.Proofs.YtiggikjbknoohaaGreatDoor
