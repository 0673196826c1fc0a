/-
  DERIVED. GIVEN WITH THE SEED: THE CARDS: each row of YtfegloadbajbhaaGreatDoorRows.lean that lists a variable, with what it lists TIED to the program's text (the seventh form; the later family's looks); each row that meets fmt, with fmt's text TOLD by the authors' own Lean function (tested against real Go, not proved from fmt's source: count such statements apart). THE CARD IS WHAT COUNTS. Prove the row's statement (the work); the ties are given (YtfegloadbajbhaaGreatDoorTie.lean); close each card by the builder's one call (the guide's Derived/Test/ToyasCard.lean, 'card_holds'). Laid BY PROGRAM, IN A SANDBOX (cutbox-door.mjs). By AI agents, Wed Nov 11 2026. No macro, syntax, notation, axiom, sorry.
-/
import Derived.Test.YtfegloadbajbhaaGreatDoorRows
import GoSem.ClaimSeven
namespace Go.Proofs.YtfegloadbajbhaaGreatDoor
namespace Rows

/-- THE TIED CARD OF 'baulklaw09.HallDepths'. -/
def hallDepthsCard : Claim7 := { stood := { row := hallDepthsRow, standIns := [], harness := (true, "47f8d7d05d972242664aeee6e1c327b56e6638765b626dca0abb647fa9108689"), looks := false }, kinds := [], alts := [], laidByText := true, laidKinds := [.data, .data, .data], laidTests := true, laidLooks := .later }
def HallDepthsCardSaid : Prop := Claim7.holds Tryz.pinned (.plain (OpenSpec.ofChange hallDepthsSpec)) hallDepthsCard

/-- THE TIED CARD OF 'baulklaw09.HallAssigns'. -/
def hallAssignsCard : Claim7 := { stood := { row := hallAssignsRow, standIns := [], harness := (true, "47f8d7d05d972242664aeee6e1c327b56e6638765b626dca0abb647fa9108689"), looks := false }, kinds := [], alts := [], laidByText := true, laidKinds := [.data, .data, .data], laidTests := true, laidLooks := .later }
def HallAssignsCardSaid : Prop := Claim7.holds Tryz.pinned (.plain (OpenSpec.ofChange hallAssignsSpec)) hallAssignsCard

/-- THE TIED CARD OF 'baulklaw09.HallFits'. -/
def hallFitsCard : Claim7 := { stood := { row := hallFitsRow, standIns := [], harness := (true, "47f8d7d05d972242664aeee6e1c327b56e6638765b626dca0abb647fa9108689"), looks := false }, kinds := [], alts := [], laidByText := true, laidKinds := [.data, .data, .data], laidTests := true, laidLooks := .later }
def HallFitsCardSaid : Prop := Claim7.holds Tryz.pinned (.plain (OpenSpec.ofChange hallFitsSpec)) hallFitsCard

/-- THE TIED CARD OF 'baulklaw09.HallQueues'. -/
def hallQueuesCard : Claim7 := { stood := { row := hallQueuesRow, standIns := [], harness := (true, "47f8d7d05d972242664aeee6e1c327b56e6638765b626dca0abb647fa9108689"), looks := false }, kinds := [], alts := [], laidByText := true, laidKinds := [.data, .data, .data], laidTests := true, laidLooks := .later }
def HallQueuesCardSaid : Prop := Claim7.holds Tryz.pinned (.plain (OpenSpec.ofChange hallQueuesSpec)) hallQueuesCard

/-- THE TIED CARD OF 'baulklaw09.HallPrices'. -/
def hallPricesCard : Claim7 := { stood := { row := hallPricesRow, standIns := [], harness := (true, "47f8d7d05d972242664aeee6e1c327b56e6638765b626dca0abb647fa9108689"), looks := false }, kinds := [], alts := [], laidByText := true, laidKinds := [.data, .data, .data], laidTests := true, laidLooks := .later }
def HallPricesCardSaid : Prop := Claim7.holds Tryz.pinned (.plain (OpenSpec.ofChange hallPricesSpec)) hallPricesCard

/-- THE TIED CARD OF 'baulklaw09.HallBills'. -/
def hallBillsCard : Claim7 := { stood := { row := hallBillsRow, standIns := [], harness := (true, "47f8d7d05d972242664aeee6e1c327b56e6638765b626dca0abb647fa9108689"), looks := false }, kinds := [], alts := [], laidByText := true, laidKinds := [.data, .data, .data], laidTests := true, laidLooks := .later }
def HallBillsCardSaid : Prop := Claim7.holds Tryz.pinned (.plain (OpenSpec.ofChange hallBillsSpec)) hallBillsCard

/-- THE TIED CARD OF 'baulklaw09.HallWears'. -/
def hallWearsCard : Claim7 := { stood := { row := hallWearsRow, standIns := [], harness := (true, "47f8d7d05d972242664aeee6e1c327b56e6638765b626dca0abb647fa9108689"), looks := false }, kinds := [], alts := [], laidByText := true, laidKinds := [.data, .data, .data], laidTests := true, laidLooks := .later }
def HallWearsCardSaid : Prop := Claim7.holds Tryz.pinned (.plain (OpenSpec.ofChange hallWearsSpec)) hallWearsCard

/-- THE TIED CARD OF 'baulklaw09.HallEither'. -/
def hallEitherCard : Claim7 := { stood := { row := hallEitherRow, standIns := [], harness := (true, "47f8d7d05d972242664aeee6e1c327b56e6638765b626dca0abb647fa9108689"), looks := false }, kinds := [], alts := [], laidByText := true, laidKinds := [.data, .data, .data], laidTests := true, laidLooks := .later }
def HallEitherCardSaid : Prop := Claim7.holds Tryz.pinned (.plain (OpenSpec.ofChange hallEitherSpec)) hallEitherCard

/-- THE TIED CARD OF 'baulklaw09.HallOpens'. -/
def hallOpensCard : Claim7 := { stood := { row := hallOpensRow, standIns := [], harness := (true, "47f8d7d05d972242664aeee6e1c327b56e6638765b626dca0abb647fa9108689"), looks := false }, kinds := [], alts := [], laidByText := true, laidKinds := [.data, .data, .data], laidTests := true, laidLooks := .later }
def HallOpensCardSaid : Prop := Claim7.holds Tryz.pinned (.plain (OpenSpec.ofChange hallOpensSpec)) hallOpensCard

/-- THE TIED CARD OF 'baulklaw09.HallTurns'. -/
def hallTurnsCard : Claim7 := { stood := { row := hallTurnsRow, standIns := [], harness := (true, "47f8d7d05d972242664aeee6e1c327b56e6638765b626dca0abb647fa9108689"), looks := false }, kinds := [], alts := [], laidByText := true, laidKinds := [.data, .data, .data], laidTests := true, laidLooks := .later }
def HallTurnsCardSaid : Prop := Claim7.holds Tryz.pinned (.plain (OpenSpec.ofChange hallTurnsSpec)) hallTurnsCard

/-- THE TIED CARD OF 'baulklaw09.HallSums'. -/
def hallSumsCard : Claim7 := { stood := { row := hallSumsRow, standIns := [], harness := (true, "47f8d7d05d972242664aeee6e1c327b56e6638765b626dca0abb647fa9108689"), looks := false }, kinds := [], alts := [], laidByText := true, laidKinds := [.data, .data, .data], laidTests := true, laidLooks := .later }
def HallSumsCardSaid : Prop := Claim7.holds Tryz.pinned (.plain (OpenSpec.ofChange hallSumsSpec)) hallSumsCard

/-- THE TIED CARD OF 'baulklaw09.HallBalances'. -/
def hallBalancesCard : Claim7 := { stood := { row := hallBalancesRow, standIns := [], harness := (true, "47f8d7d05d972242664aeee6e1c327b56e6638765b626dca0abb647fa9108689"), looks := false }, kinds := [], alts := [], laidByText := true, laidKinds := [.data, .data, .data], laidTests := true, laidLooks := .later }
def HallBalancesCardSaid : Prop := Claim7.holds Tryz.pinned (.plain (OpenSpec.ofChange hallBalancesSpec)) hallBalancesCard

/-- THE TIED CARD OF 'baulklaw09.HallUses'. -/
def hallUsesCard : Claim7 := { stood := { row := hallUsesRow, standIns := [], harness := (true, "47f8d7d05d972242664aeee6e1c327b56e6638765b626dca0abb647fa9108689"), looks := false }, kinds := [], alts := [], laidByText := true, laidKinds := [.data, .data, .data], laidTests := true, laidLooks := .later }
def HallUsesCardSaid : Prop := Claim7.holds Tryz.pinned (.plain (OpenSpec.ofChange hallUsesSpec)) hallUsesCard

/-- THE SECOND FORM's CARD OF 'baulklaw09.HallDepths'. -/
def hallDepthsUptoCard : Claim7 := { stood := { row := hallDepthsUptoRow, standIns := [], harness := (true, "47f8d7d05d972242664aeee6e1c327b56e6638765b626dca0abb647fa9108689"), looks := false }, kinds := [], alts := [], laidByText := true, laidKinds := [.data, .data, .data], laidTests := true, laidLooks := .later }
def HallDepthsUptoCardSaid : Prop := Claim7.holds Tryz.pinned (.plain (OpenSpec.upto hallDepthsSpec)) hallDepthsUptoCard

/-- THE SECOND FORM's CARD OF 'baulklaw09.HallAssigns'. -/
def hallAssignsUptoCard : Claim7 := { stood := { row := hallAssignsUptoRow, standIns := [], harness := (true, "47f8d7d05d972242664aeee6e1c327b56e6638765b626dca0abb647fa9108689"), looks := false }, kinds := [], alts := [], laidByText := true, laidKinds := [.data, .data, .data], laidTests := true, laidLooks := .later }
def HallAssignsUptoCardSaid : Prop := Claim7.holds Tryz.pinned (.plain (OpenSpec.upto hallAssignsSpec)) hallAssignsUptoCard

/-- THE SECOND FORM's CARD OF 'baulklaw09.HallFits'. -/
def hallFitsUptoCard : Claim7 := { stood := { row := hallFitsUptoRow, standIns := [], harness := (true, "47f8d7d05d972242664aeee6e1c327b56e6638765b626dca0abb647fa9108689"), looks := false }, kinds := [], alts := [], laidByText := true, laidKinds := [.data, .data, .data], laidTests := true, laidLooks := .later }
def HallFitsUptoCardSaid : Prop := Claim7.holds Tryz.pinned (.plain (OpenSpec.upto hallFitsSpec)) hallFitsUptoCard

/-- THE SECOND FORM's CARD OF 'baulklaw09.HallQueues'. -/
def hallQueuesUptoCard : Claim7 := { stood := { row := hallQueuesUptoRow, standIns := [], harness := (true, "47f8d7d05d972242664aeee6e1c327b56e6638765b626dca0abb647fa9108689"), looks := false }, kinds := [], alts := [], laidByText := true, laidKinds := [.data, .data, .data], laidTests := true, laidLooks := .later }
def HallQueuesUptoCardSaid : Prop := Claim7.holds Tryz.pinned (.plain (OpenSpec.upto hallQueuesSpec)) hallQueuesUptoCard

/-- THE SECOND FORM's CARD OF 'baulklaw09.HallPrices'. -/
def hallPricesUptoCard : Claim7 := { stood := { row := hallPricesUptoRow, standIns := [], harness := (true, "47f8d7d05d972242664aeee6e1c327b56e6638765b626dca0abb647fa9108689"), looks := false }, kinds := [], alts := [], laidByText := true, laidKinds := [.data, .data, .data], laidTests := true, laidLooks := .later }
def HallPricesUptoCardSaid : Prop := Claim7.holds Tryz.pinned (.plain (OpenSpec.upto hallPricesSpec)) hallPricesUptoCard

/-- THE SECOND FORM's CARD OF 'baulklaw09.HallBills'. -/
def hallBillsUptoCard : Claim7 := { stood := { row := hallBillsUptoRow, standIns := [], harness := (true, "47f8d7d05d972242664aeee6e1c327b56e6638765b626dca0abb647fa9108689"), looks := false }, kinds := [], alts := [], laidByText := true, laidKinds := [.data, .data, .data], laidTests := true, laidLooks := .later }
def HallBillsUptoCardSaid : Prop := Claim7.holds Tryz.pinned (.plain (OpenSpec.upto hallBillsSpec)) hallBillsUptoCard

/-- THE SECOND FORM's CARD OF 'baulklaw09.HallWears'. -/
def hallWearsUptoCard : Claim7 := { stood := { row := hallWearsUptoRow, standIns := [], harness := (true, "47f8d7d05d972242664aeee6e1c327b56e6638765b626dca0abb647fa9108689"), looks := false }, kinds := [], alts := [], laidByText := true, laidKinds := [.data, .data, .data], laidTests := true, laidLooks := .later }
def HallWearsUptoCardSaid : Prop := Claim7.holds Tryz.pinned (.plain (OpenSpec.upto hallWearsSpec)) hallWearsUptoCard

/-- THE SECOND FORM's CARD OF 'baulklaw09.HallEither'. -/
def hallEitherUptoCard : Claim7 := { stood := { row := hallEitherUptoRow, standIns := [], harness := (true, "47f8d7d05d972242664aeee6e1c327b56e6638765b626dca0abb647fa9108689"), looks := false }, kinds := [], alts := [], laidByText := true, laidKinds := [.data, .data, .data], laidTests := true, laidLooks := .later }
def HallEitherUptoCardSaid : Prop := Claim7.holds Tryz.pinned (.plain (OpenSpec.upto hallEitherSpec)) hallEitherUptoCard

/-- THE SECOND FORM's CARD OF 'baulklaw09.HallOpens'. -/
def hallOpensUptoCard : Claim7 := { stood := { row := hallOpensUptoRow, standIns := [], harness := (true, "47f8d7d05d972242664aeee6e1c327b56e6638765b626dca0abb647fa9108689"), looks := false }, kinds := [], alts := [], laidByText := true, laidKinds := [.data, .data, .data], laidTests := true, laidLooks := .later }
def HallOpensUptoCardSaid : Prop := Claim7.holds Tryz.pinned (.plain (OpenSpec.upto hallOpensSpec)) hallOpensUptoCard

/-- THE SECOND FORM's CARD OF 'baulklaw09.HallTurns'. -/
def hallTurnsUptoCard : Claim7 := { stood := { row := hallTurnsUptoRow, standIns := [], harness := (true, "47f8d7d05d972242664aeee6e1c327b56e6638765b626dca0abb647fa9108689"), looks := false }, kinds := [], alts := [], laidByText := true, laidKinds := [.data, .data, .data], laidTests := true, laidLooks := .later }
def HallTurnsUptoCardSaid : Prop := Claim7.holds Tryz.pinned (.plain (OpenSpec.upto hallTurnsSpec)) hallTurnsUptoCard

/-- THE SECOND FORM's CARD OF 'baulklaw09.HallSums'. -/
def hallSumsUptoCard : Claim7 := { stood := { row := hallSumsUptoRow, standIns := [], harness := (true, "47f8d7d05d972242664aeee6e1c327b56e6638765b626dca0abb647fa9108689"), looks := false }, kinds := [], alts := [], laidByText := true, laidKinds := [.data, .data, .data], laidTests := true, laidLooks := .later }
def HallSumsUptoCardSaid : Prop := Claim7.holds Tryz.pinned (.plain (OpenSpec.upto hallSumsSpec)) hallSumsUptoCard

/-- THE SECOND FORM's CARD OF 'baulklaw09.HallBalances'. -/
def hallBalancesUptoCard : Claim7 := { stood := { row := hallBalancesUptoRow, standIns := [], harness := (true, "47f8d7d05d972242664aeee6e1c327b56e6638765b626dca0abb647fa9108689"), looks := false }, kinds := [], alts := [], laidByText := true, laidKinds := [.data, .data, .data], laidTests := true, laidLooks := .later }
def HallBalancesUptoCardSaid : Prop := Claim7.holds Tryz.pinned (.plain (OpenSpec.upto hallBalancesSpec)) hallBalancesUptoCard

/-- THE SECOND FORM's CARD OF 'baulklaw09.HallUses'. -/
def hallUsesUptoCard : Claim7 := { stood := { row := hallUsesUptoRow, standIns := [], harness := (true, "47f8d7d05d972242664aeee6e1c327b56e6638765b626dca0abb647fa9108689"), looks := false }, kinds := [], alts := [], laidByText := true, laidKinds := [.data, .data, .data], laidTests := true, laidLooks := .later }
def HallUsesUptoCardSaid : Prop := Claim7.holds Tryz.pinned (.plain (OpenSpec.upto hallUsesSpec)) hallUsesUptoCard
end Rows
end Go.Proofs.YtfegloadbajbhaaGreatDoor
