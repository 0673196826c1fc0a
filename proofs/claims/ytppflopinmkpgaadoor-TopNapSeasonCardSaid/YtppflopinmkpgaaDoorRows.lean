/-
  NARROWER THAN 'FOR EVERY INPUT', by the rows' own cells (each row's printed sentence says how): TopNapSeason: laid · TopNapEnds: laid.
  DERIVED. THE GIVEN ROWS OF THIS SEAT. 2 by the template 'for every input the law returns true; each argument reads behind the call as it read before'; 0 by the template 'total and deterministic' (their statements: YtppflopinmkpgaaDoorTotals.lean).
  GIVEN WITH THE SEED: the statements are not yours to turn. If you find one false, say at which input.
  Laid BY PROGRAM, IN A SANDBOX (cutbox-rows.mjs): the forced cells as the released guide's own fill.sh prints them over the translation c8a68d2561db37d3… (all of the seat's roots in one cut). By AI agents, Wed Nov 11 2026. No macro, syntax, notation, axiom, sorry.
-/
import Derived.Test.YtppflopinmkpgaaDoorChecked
import GoSem.Claim
import GoSem.ClaimJoined
import GoSem.ClaimMapViews
import Derived.JoinedTies
import Derived.KernelRfl
namespace Go.Proofs.YtppflopinmkpgaaDoor
/- THE CELL 'sum', in the pinned program and in every row, IS THE sha256 OF THE DUMP (.gsa) THAT YtppflopinmkpgaaDoorProg.lean LOADS. Nothing in Lean hashes anything: it is a label: what it is worth is what the hold of that sum in a sandbox is worth. -/
noncomputable def Tryd.pinned : Pinned := { name := "ytppflopinmkpgaadoor", sum := "c8a68d2561db37d3a2ab7605ad027a7f38bedb09d345dabcbb1b4c8071738c4f", checked := Tryd.checked }
namespace Rows
def none {H : Type} : Left H := { results := [], args := [] }

/- WHAT THE LISTED PACKAGE-LEVEL VARIABLES READ AS WHEN THE CALL BEGINS. Each datum BY PROGRAM (the guide's laid-datum.mjs) off the statement by which the dump's own 'gosem.cut.vars' lays the variable. In a bare row this is a premise. The card (YtppflopinmkpgaaDoorCards.lean) ties it to the program's text. -/
def laid_baulk_league_kinds {H : Type} : DataW H := .agg [.agg [.lit (.string [112, 108, 97, 121, 101, 100]), .lit (.int .i64 0)], .agg [.lit (.string [104, 111, 109, 101]), .lit (.int .i64 1)], .agg [.lit (.string [97, 119, 97, 121]), .lit (.int .i64 (-1))]]

/-- 'baulktop.TopNapSeason': WHATEVER THE INPUT: true; the input reads as it did. -/
def topNapSeasonSpec : ChangeSpec := { name := "topNapSeason", fn := fun _ => fun
  | [d1, d2, d3] => { results := [.lit (.bool true)], args := [d1, d2, d3] }
  | _ => none }
def topNapSeasonRow : OpenClaim := { program := "ytppflopinmkpgaadoor", sum := "c8a68d2561db37d3a2ab7605ad027a7f38bedb09d345dabcbb1b4c8071738c4f", func := "baulk/baulktop.TopNapSeason", spec := "topNapSeason", unfollowed := true, recurses := true, named := ["baulk/league.kinds"], plainKeys := false, apart := false, laid := [("baulk/league.kinds", laid_baulk_league_kinds)] }
def TopNapSeasonSaid : Prop := topNapSeasonRow.holds Tryd.pinned (OpenSpec.ofChange topNapSeasonSpec)

/-- ITS FALSE NEIGHBOUR: 'it returns false'. Refute it at one input. -/
def topNapSeasonWrong : ChangeSpec := { name := "topNapSeason", fn := fun _ => fun
  | [d1, d2, d3] => { results := [.lit (.bool false)], args := [d1, d2, d3] }
  | _ => none }
def TopNapSeasonWrongFalsely : Prop := topNapSeasonRow.holds Tryd.pinned (OpenSpec.ofChange topNapSeasonWrong)

/-- 'baulktop.TopNapEnds': WHATEVER THE INPUT: true; the input reads as it did. -/
def topNapEndsSpec : ChangeSpec := { name := "topNapEnds", fn := fun _ => fun
  | [d] => { results := [.lit (.bool true)], args := [d] }
  | _ => none }
def topNapEndsRow : OpenClaim := { program := "ytppflopinmkpgaadoor", sum := "c8a68d2561db37d3a2ab7605ad027a7f38bedb09d345dabcbb1b4c8071738c4f", func := "baulk/baulktop.TopNapEnds", spec := "topNapEnds", unfollowed := true, recurses := true, named := ["baulk/league.kinds"], plainKeys := false, apart := false, laid := [("baulk/league.kinds", laid_baulk_league_kinds)] }
def TopNapEndsSaid : Prop := topNapEndsRow.holds Tryd.pinned (OpenSpec.ofChange topNapEndsSpec)

/-- ITS FALSE NEIGHBOUR: 'it returns false'. Refute it at one input. -/
def topNapEndsWrong : ChangeSpec := { name := "topNapEnds", fn := fun _ => fun
  | [d] => { results := [.lit (.bool false)], args := [d] }
  | _ => none }
def TopNapEndsWrongFalsely : Prop := topNapEndsRow.holds Tryd.pinned (OpenSpec.ofChange topNapEndsWrong)

/- THE SECOND FORM. 'bulk': how many values and letters a reading holds, each counted each time it is reached (what is shared counts as often as it is met; a slice's spare places count too). A statement '..UptoSaid' is the law's where the arguments, and the package variables that the reading takes, are together of bulk at most 1048576: NARROWER than '..Said'. Prove '..Said' where nothing that the law and all that it calls make is longer than what came in: it says more and counts as full. Else prove '..UptoSaid'. A law counts once. -/
mutual
def uptoBulk {H : Type} : DataW H → Nat
  | .lit (.string bytes) => bytes.length + 1
  | .lit _ => 1
  | .nil => 1
  | .ptr d => uptoBulk d + 1
  | .slice elems spare => uptoBulkAll elems + uptoBulkAll spare + 1
  | .agg parts => uptoBulkAll parts + 1
  | .iface _ d => uptoBulk d + 1
  | .map entries => uptoBulkEntries entries + 1
  | .held _ => 1
def uptoBulkAll {H : Type} : List (DataW H) → Nat
  | [] => 0
  | d :: r => uptoBulk d + uptoBulkAll r
def uptoBulkEntries {H : Type} : List (Lit × DataW H) → Nat
  | [] => 0
  | x :: r => uptoBulkEntry x + uptoBulkEntries r
def uptoBulkEntry {H : Type} : Lit × DataW H → Nat
  | (.string bytes, d) => bytes.length + uptoBulk d + 1
  | (_, d) => uptoBulk d + 1
 end
def uptoSmall : (H : Type) → List (DataW H) → Bool := fun _ ds => decide (uptoBulkAll ds ≤ 1048576)
def OpenSpec.upto (s : _root_.Go.ChangeSpec) : _root_.Go.OpenSpec := { _root_.Go.OpenSpec.ofChange s with cond := some uptoSmall }

/-- 'baulktop.TopNapSeason', WHERE WHAT IT READS IS OF BULK AT MOST 1048576: true; the input reads as it did. -/
def topNapSeasonUptoRow : OpenClaim := { program := "ytppflopinmkpgaadoor", sum := "c8a68d2561db37d3a2ab7605ad027a7f38bedb09d345dabcbb1b4c8071738c4f", func := "baulk/baulktop.TopNapSeason", spec := "topNapSeason", unfollowed := true, recurses := true, named := ["baulk/league.kinds"], plainKeys := false, apart := false, laid := [("baulk/league.kinds", laid_baulk_league_kinds)], narrowed := true }
def TopNapSeasonUptoSaid : Prop := topNapSeasonUptoRow.holds Tryd.pinned (OpenSpec.upto topNapSeasonSpec)

/-- 'baulktop.TopNapEnds', WHERE WHAT IT READS IS OF BULK AT MOST 1048576: true; the input reads as it did. -/
def topNapEndsUptoRow : OpenClaim := { program := "ytppflopinmkpgaadoor", sum := "c8a68d2561db37d3a2ab7605ad027a7f38bedb09d345dabcbb1b4c8071738c4f", func := "baulk/baulktop.TopNapEnds", spec := "topNapEnds", unfollowed := true, recurses := true, named := ["baulk/league.kinds"], plainKeys := false, apart := false, laid := [("baulk/league.kinds", laid_baulk_league_kinds)], narrowed := true }
def TopNapEndsUptoSaid : Prop := topNapEndsUptoRow.holds Tryd.pinned (OpenSpec.upto topNapEndsSpec)

end Rows
end Go.Proofs.YtppflopinmkpgaaDoor
