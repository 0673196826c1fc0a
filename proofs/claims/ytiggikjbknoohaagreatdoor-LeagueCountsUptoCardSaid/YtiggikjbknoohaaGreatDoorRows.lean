/-
  NARROWER THAN 'FOR EVERY INPUT', by the rows' own cells (each row's printed sentence says how): LeagueRatings: laid · LeaguePromotions: laid · LeaguePlans: laid · LeagueCounts: laid · LeagueFits: laid · LeagueMoves: laid · LeagueDays: laid · LeagueChecks: laid · LeagueEliminates: laid · LeagueTitles: laid · LeagueFixtures: laid · LeagueEither: laid · LeagueMeets: laid.
  DERIVED. THE GIVEN ROWS OF THIS SEAT. 13 by the template 'for every input the law returns true; each argument reads behind the call as it read before'; 0 by the template 'total and deterministic' (their statements: YtiggikjbknoohaaGreatDoorTotals.lean).
  GIVEN WITH THE SEED: the statements are not yours to turn. If you find one false, say at which input.
  Laid BY PROGRAM, IN A SANDBOX (cutbox-rows.mjs): the forced cells as the released guide's own fill.sh prints them over the translation c5e83da2a87ed9d5… (all of the seat's roots in one cut). By AI agents, Wed Nov 11 2026. No macro, syntax, notation, axiom, sorry.
-/
import Derived.Test.YtiggikjbknoohaaGreatDoorChecked
import GoSem.Claim
import GoSem.ClaimJoined
import GoSem.ClaimMapViews
import Derived.JoinedTies
import Derived.KernelRfl
namespace Go.Proofs.YtiggikjbknoohaaGreatDoor
/- THE CELL 'sum', in the pinned program and in every row, IS THE sha256 OF THE DUMP (.gsa) THAT YtiggikjbknoohaaGreatDoorProg.lean LOADS. Nothing in Lean hashes anything: it is a label: what it is worth is what the hold of that sum in a sandbox is worth. -/
noncomputable def Tryz.pinned : Pinned := { name := "ytiggikjbknoohaagreatdoor", sum := "c5e83da2a87ed9d5dcb3c8ea07ccaa3108eaea2bc3e6c287546871a96cdbf5ff", checked := Tryz.checked }
namespace Rows
def none {H : Type} : Left H := { results := [], args := [] }

/- WHAT THE LISTED PACKAGE-LEVEL VARIABLES READ AS WHEN THE CALL BEGINS. Each datum BY PROGRAM (the guide's laid-datum.mjs) off the statement by which the dump's own 'gosem.cut.vars' lays the variable. In a bare row this is a premise. The card (YtiggikjbknoohaaGreatDoorCards.lean) ties it to the program's text. -/
def laid_math_bits_deBruijn32tab {H : Type} : DataW H := .agg [.lit (.int .u8 0), .lit (.int .u8 1), .lit (.int .u8 28), .lit (.int .u8 2), .lit (.int .u8 29), .lit (.int .u8 14), .lit (.int .u8 24), .lit (.int .u8 3), .lit (.int .u8 30), .lit (.int .u8 22), .lit (.int .u8 20), .lit (.int .u8 15), .lit (.int .u8 25), .lit (.int .u8 17), .lit (.int .u8 4), .lit (.int .u8 8), .lit (.int .u8 31), .lit (.int .u8 27), .lit (.int .u8 13), .lit (.int .u8 23), .lit (.int .u8 21), .lit (.int .u8 19), .lit (.int .u8 16), .lit (.int .u8 7), .lit (.int .u8 26), .lit (.int .u8 12), .lit (.int .u8 18), .lit (.int .u8 6), .lit (.int .u8 11), .lit (.int .u8 5), .lit (.int .u8 10), .lit (.int .u8 9)]
def laid_math_bits_deBruijn64tab {H : Type} : DataW H := .agg [.lit (.int .u8 0), .lit (.int .u8 1), .lit (.int .u8 56), .lit (.int .u8 2), .lit (.int .u8 57), .lit (.int .u8 49), .lit (.int .u8 28), .lit (.int .u8 3), .lit (.int .u8 61), .lit (.int .u8 58), .lit (.int .u8 42), .lit (.int .u8 50), .lit (.int .u8 38), .lit (.int .u8 29), .lit (.int .u8 17), .lit (.int .u8 4), .lit (.int .u8 62), .lit (.int .u8 47), .lit (.int .u8 59), .lit (.int .u8 36), .lit (.int .u8 45), .lit (.int .u8 43), .lit (.int .u8 51), .lit (.int .u8 22), .lit (.int .u8 53), .lit (.int .u8 39), .lit (.int .u8 33), .lit (.int .u8 30), .lit (.int .u8 24), .lit (.int .u8 18), .lit (.int .u8 12), .lit (.int .u8 5), .lit (.int .u8 63), .lit (.int .u8 55), .lit (.int .u8 48), .lit (.int .u8 27), .lit (.int .u8 60), .lit (.int .u8 41), .lit (.int .u8 37), .lit (.int .u8 16), .lit (.int .u8 46), .lit (.int .u8 35), .lit (.int .u8 44), .lit (.int .u8 21), .lit (.int .u8 52), .lit (.int .u8 32), .lit (.int .u8 23), .lit (.int .u8 11), .lit (.int .u8 54), .lit (.int .u8 26), .lit (.int .u8 40), .lit (.int .u8 15), .lit (.int .u8 34), .lit (.int .u8 20), .lit (.int .u8 31), .lit (.int .u8 10), .lit (.int .u8 25), .lit (.int .u8 14), .lit (.int .u8 19), .lit (.int .u8 9), .lit (.int .u8 13), .lit (.int .u8 8), .lit (.int .u8 7), .lit (.int .u8 6)]
def laid_internal_strconv_uint64pow10 {H : Type} : DataW H := .agg [.lit (.int .u64 1), .lit (.int .u64 10), .lit (.int .u64 100), .lit (.int .u64 1000), .lit (.int .u64 10000), .lit (.int .u64 100000), .lit (.int .u64 1000000), .lit (.int .u64 10000000), .lit (.int .u64 100000000), .lit (.int .u64 1000000000), .lit (.int .u64 10000000000), .lit (.int .u64 100000000000), .lit (.int .u64 1000000000000), .lit (.int .u64 10000000000000), .lit (.int .u64 100000000000000), .lit (.int .u64 1000000000000000), .lit (.int .u64 10000000000000000), .lit (.int .u64 100000000000000000), .lit (.int .u64 1000000000000000000), .lit (.int .u64 10000000000000000000)]
def laid_baulk_league_kinds {H : Type} : DataW H := .agg [.agg [.lit (.string [112, 108, 97, 121, 101, 100]), .lit (.int .i64 0)], .agg [.lit (.string [104, 111, 109, 101]), .lit (.int .i64 1)], .agg [.lit (.string [97, 119, 97, 121]), .lit (.int .i64 (-1))]]

/-- 'baulklaw08.LeagueRatings': WHATEVER THE INPUT: true; the input reads as it did. -/
def leagueRatingsSpec : ChangeSpec := { name := "leagueRatings", fn := fun _ => fun
  | [d1, d2, d3] => { results := [.lit (.bool true)], args := [d1, d2, d3] }
  | _ => none }
def leagueRatingsRow : OpenClaim := { program := "ytiggikjbknoohaagreatdoor", sum := "c5e83da2a87ed9d5dcb3c8ea07ccaa3108eaea2bc3e6c287546871a96cdbf5ff", func := "baulk/baulklaw08.LeagueRatings", spec := "leagueRatings", inPlace := ["math/bits.Add64", "math/bits.Sub64", "internal/abi.NoEscape", "internal/bytealg.MakeNoZero"], unfollowed := true, recurses := true, named := ["baulk/league.kinds", "math/bits.divideError", "math/bits.overflowError", "internal/strconv.uint64pow10", "math/bits.deBruijn32tab", "math/bits.deBruijn64tab"], plainKeys := false, apart := false, laid := [("math/bits.deBruijn32tab", laid_math_bits_deBruijn32tab), ("math/bits.deBruijn64tab", laid_math_bits_deBruijn64tab), ("internal/strconv.uint64pow10", laid_internal_strconv_uint64pow10), ("baulk/league.kinds", laid_baulk_league_kinds)] }
def LeagueRatingsSaid : Prop := leagueRatingsRow.holds Tryz.pinned (OpenSpec.ofChange leagueRatingsSpec)

/-- ITS FALSE NEIGHBOUR: 'it returns false'. Refute it at one input. -/
def leagueRatingsWrong : ChangeSpec := { name := "leagueRatings", fn := fun _ => fun
  | [d1, d2, d3] => { results := [.lit (.bool false)], args := [d1, d2, d3] }
  | _ => none }
def LeagueRatingsWrongFalsely : Prop := leagueRatingsRow.holds Tryz.pinned (OpenSpec.ofChange leagueRatingsWrong)

/-- 'baulklaw08.LeaguePromotions': WHATEVER THE INPUT: true; the input reads as it did. -/
def leaguePromotionsSpec : ChangeSpec := { name := "leaguePromotions", fn := fun _ => fun
  | [d1, d2] => { results := [.lit (.bool true)], args := [d1, d2] }
  | _ => none }
def leaguePromotionsRow : OpenClaim := { program := "ytiggikjbknoohaagreatdoor", sum := "c5e83da2a87ed9d5dcb3c8ea07ccaa3108eaea2bc3e6c287546871a96cdbf5ff", func := "baulk/baulklaw08.LeaguePromotions", spec := "leaguePromotions", inPlace := ["math/bits.Add64", "math/bits.Sub64", "internal/abi.NoEscape", "internal/bytealg.MakeNoZero"], unfollowed := true, recurses := true, named := ["baulk/league.kinds", "math/bits.divideError", "math/bits.overflowError", "internal/strconv.uint64pow10", "math/bits.deBruijn32tab", "math/bits.deBruijn64tab"], plainKeys := false, apart := false, laid := [("math/bits.deBruijn32tab", laid_math_bits_deBruijn32tab), ("math/bits.deBruijn64tab", laid_math_bits_deBruijn64tab), ("internal/strconv.uint64pow10", laid_internal_strconv_uint64pow10), ("baulk/league.kinds", laid_baulk_league_kinds)] }
def LeaguePromotionsSaid : Prop := leaguePromotionsRow.holds Tryz.pinned (OpenSpec.ofChange leaguePromotionsSpec)

/-- ITS FALSE NEIGHBOUR: 'it returns false'. Refute it at one input. -/
def leaguePromotionsWrong : ChangeSpec := { name := "leaguePromotions", fn := fun _ => fun
  | [d1, d2] => { results := [.lit (.bool false)], args := [d1, d2] }
  | _ => none }
def LeaguePromotionsWrongFalsely : Prop := leaguePromotionsRow.holds Tryz.pinned (OpenSpec.ofChange leaguePromotionsWrong)

/-- 'baulklaw08.LeaguePlans': WHATEVER THE INPUT: true; the input reads as it did. -/
def leaguePlansSpec : ChangeSpec := { name := "leaguePlans", fn := fun _ => fun
  | [d1, d2] => { results := [.lit (.bool true)], args := [d1, d2] }
  | _ => none }
def leaguePlansRow : OpenClaim := { program := "ytiggikjbknoohaagreatdoor", sum := "c5e83da2a87ed9d5dcb3c8ea07ccaa3108eaea2bc3e6c287546871a96cdbf5ff", func := "baulk/baulklaw08.LeaguePlans", spec := "leaguePlans", inPlace := ["math/bits.Add64", "math/bits.Sub64", "internal/abi.NoEscape", "internal/bytealg.MakeNoZero"], unfollowed := true, recurses := true, named := ["baulk/league.kinds", "math/bits.divideError", "math/bits.overflowError", "internal/strconv.uint64pow10", "math/bits.deBruijn32tab", "math/bits.deBruijn64tab"], plainKeys := false, apart := false, laid := [("math/bits.deBruijn32tab", laid_math_bits_deBruijn32tab), ("math/bits.deBruijn64tab", laid_math_bits_deBruijn64tab), ("internal/strconv.uint64pow10", laid_internal_strconv_uint64pow10), ("baulk/league.kinds", laid_baulk_league_kinds)] }
def LeaguePlansSaid : Prop := leaguePlansRow.holds Tryz.pinned (OpenSpec.ofChange leaguePlansSpec)

/-- ITS FALSE NEIGHBOUR: 'it returns false'. Refute it at one input. -/
def leaguePlansWrong : ChangeSpec := { name := "leaguePlans", fn := fun _ => fun
  | [d1, d2] => { results := [.lit (.bool false)], args := [d1, d2] }
  | _ => none }
def LeaguePlansWrongFalsely : Prop := leaguePlansRow.holds Tryz.pinned (OpenSpec.ofChange leaguePlansWrong)

/-- 'baulklaw08.LeagueCounts': WHATEVER THE INPUT: true; the input reads as it did. -/
def leagueCountsSpec : ChangeSpec := { name := "leagueCounts", fn := fun _ => fun
  | [d1, d2] => { results := [.lit (.bool true)], args := [d1, d2] }
  | _ => none }
def leagueCountsRow : OpenClaim := { program := "ytiggikjbknoohaagreatdoor", sum := "c5e83da2a87ed9d5dcb3c8ea07ccaa3108eaea2bc3e6c287546871a96cdbf5ff", func := "baulk/baulklaw08.LeagueCounts", spec := "leagueCounts", inPlace := ["math/bits.Add64", "math/bits.Sub64", "internal/abi.NoEscape", "internal/bytealg.MakeNoZero"], unfollowed := true, recurses := true, named := ["baulk/league.kinds", "math/bits.divideError", "math/bits.overflowError", "internal/strconv.uint64pow10", "math/bits.deBruijn32tab", "math/bits.deBruijn64tab"], plainKeys := false, apart := false, laid := [("math/bits.deBruijn32tab", laid_math_bits_deBruijn32tab), ("math/bits.deBruijn64tab", laid_math_bits_deBruijn64tab), ("internal/strconv.uint64pow10", laid_internal_strconv_uint64pow10), ("baulk/league.kinds", laid_baulk_league_kinds)] }
def LeagueCountsSaid : Prop := leagueCountsRow.holds Tryz.pinned (OpenSpec.ofChange leagueCountsSpec)

/-- ITS FALSE NEIGHBOUR: 'it returns false'. Refute it at one input. -/
def leagueCountsWrong : ChangeSpec := { name := "leagueCounts", fn := fun _ => fun
  | [d1, d2] => { results := [.lit (.bool false)], args := [d1, d2] }
  | _ => none }
def LeagueCountsWrongFalsely : Prop := leagueCountsRow.holds Tryz.pinned (OpenSpec.ofChange leagueCountsWrong)

/-- 'baulklaw08.LeagueFits': WHATEVER THE INPUT: true; the input reads as it did. -/
def leagueFitsSpec : ChangeSpec := { name := "leagueFits", fn := fun _ => fun
  | [d1, d2, d3] => { results := [.lit (.bool true)], args := [d1, d2, d3] }
  | _ => none }
def leagueFitsRow : OpenClaim := { program := "ytiggikjbknoohaagreatdoor", sum := "c5e83da2a87ed9d5dcb3c8ea07ccaa3108eaea2bc3e6c287546871a96cdbf5ff", func := "baulk/baulklaw08.LeagueFits", spec := "leagueFits", inPlace := ["math/bits.Add64", "math/bits.Sub64", "internal/abi.NoEscape", "internal/bytealg.MakeNoZero"], unfollowed := true, recurses := true, named := ["baulk/league.kinds", "math/bits.divideError", "math/bits.overflowError", "internal/strconv.uint64pow10", "math/bits.deBruijn32tab", "math/bits.deBruijn64tab"], plainKeys := false, apart := false, laid := [("math/bits.deBruijn32tab", laid_math_bits_deBruijn32tab), ("math/bits.deBruijn64tab", laid_math_bits_deBruijn64tab), ("internal/strconv.uint64pow10", laid_internal_strconv_uint64pow10), ("baulk/league.kinds", laid_baulk_league_kinds)] }
def LeagueFitsSaid : Prop := leagueFitsRow.holds Tryz.pinned (OpenSpec.ofChange leagueFitsSpec)

/-- ITS FALSE NEIGHBOUR: 'it returns false'. Refute it at one input. -/
def leagueFitsWrong : ChangeSpec := { name := "leagueFits", fn := fun _ => fun
  | [d1, d2, d3] => { results := [.lit (.bool false)], args := [d1, d2, d3] }
  | _ => none }
def LeagueFitsWrongFalsely : Prop := leagueFitsRow.holds Tryz.pinned (OpenSpec.ofChange leagueFitsWrong)

/-- 'baulklaw08.LeagueMoves': WHATEVER THE INPUT: true; the input reads as it did. -/
def leagueMovesSpec : ChangeSpec := { name := "leagueMoves", fn := fun _ => fun
  | [d1, d2] => { results := [.lit (.bool true)], args := [d1, d2] }
  | _ => none }
def leagueMovesRow : OpenClaim := { program := "ytiggikjbknoohaagreatdoor", sum := "c5e83da2a87ed9d5dcb3c8ea07ccaa3108eaea2bc3e6c287546871a96cdbf5ff", func := "baulk/baulklaw08.LeagueMoves", spec := "leagueMoves", inPlace := ["math/bits.Add64", "math/bits.Sub64", "internal/abi.NoEscape", "internal/bytealg.MakeNoZero"], unfollowed := true, recurses := true, named := ["baulk/league.kinds", "math/bits.divideError", "math/bits.overflowError", "internal/strconv.uint64pow10", "math/bits.deBruijn32tab", "math/bits.deBruijn64tab"], plainKeys := false, apart := false, laid := [("math/bits.deBruijn32tab", laid_math_bits_deBruijn32tab), ("math/bits.deBruijn64tab", laid_math_bits_deBruijn64tab), ("internal/strconv.uint64pow10", laid_internal_strconv_uint64pow10), ("baulk/league.kinds", laid_baulk_league_kinds)] }
def LeagueMovesSaid : Prop := leagueMovesRow.holds Tryz.pinned (OpenSpec.ofChange leagueMovesSpec)

/-- ITS FALSE NEIGHBOUR: 'it returns false'. Refute it at one input. -/
def leagueMovesWrong : ChangeSpec := { name := "leagueMoves", fn := fun _ => fun
  | [d1, d2] => { results := [.lit (.bool false)], args := [d1, d2] }
  | _ => none }
def LeagueMovesWrongFalsely : Prop := leagueMovesRow.holds Tryz.pinned (OpenSpec.ofChange leagueMovesWrong)

/-- 'baulklaw08.LeagueDays': WHATEVER THE INPUT: true; the input reads as it did. -/
def leagueDaysSpec : ChangeSpec := { name := "leagueDays", fn := fun _ => fun
  | [d] => { results := [.lit (.bool true)], args := [d] }
  | _ => none }
def leagueDaysRow : OpenClaim := { program := "ytiggikjbknoohaagreatdoor", sum := "c5e83da2a87ed9d5dcb3c8ea07ccaa3108eaea2bc3e6c287546871a96cdbf5ff", func := "baulk/baulklaw08.LeagueDays", spec := "leagueDays", inPlace := ["math/bits.Add64", "math/bits.Sub64", "internal/abi.NoEscape", "internal/bytealg.MakeNoZero"], unfollowed := true, recurses := true, named := ["baulk/league.kinds", "math/bits.divideError", "math/bits.overflowError", "internal/strconv.uint64pow10", "math/bits.deBruijn32tab", "math/bits.deBruijn64tab"], plainKeys := false, apart := false, laid := [("math/bits.deBruijn32tab", laid_math_bits_deBruijn32tab), ("math/bits.deBruijn64tab", laid_math_bits_deBruijn64tab), ("internal/strconv.uint64pow10", laid_internal_strconv_uint64pow10), ("baulk/league.kinds", laid_baulk_league_kinds)] }
def LeagueDaysSaid : Prop := leagueDaysRow.holds Tryz.pinned (OpenSpec.ofChange leagueDaysSpec)

/-- ITS FALSE NEIGHBOUR: 'it returns false'. Refute it at one input. -/
def leagueDaysWrong : ChangeSpec := { name := "leagueDays", fn := fun _ => fun
  | [d] => { results := [.lit (.bool false)], args := [d] }
  | _ => none }
def LeagueDaysWrongFalsely : Prop := leagueDaysRow.holds Tryz.pinned (OpenSpec.ofChange leagueDaysWrong)

/-- 'baulklaw08.LeagueChecks': WHATEVER THE INPUT: true; the input reads as it did. -/
def leagueChecksSpec : ChangeSpec := { name := "leagueChecks", fn := fun _ => fun
  | [d1, d2] => { results := [.lit (.bool true)], args := [d1, d2] }
  | _ => none }
def leagueChecksRow : OpenClaim := { program := "ytiggikjbknoohaagreatdoor", sum := "c5e83da2a87ed9d5dcb3c8ea07ccaa3108eaea2bc3e6c287546871a96cdbf5ff", func := "baulk/baulklaw08.LeagueChecks", spec := "leagueChecks", inPlace := ["math/bits.Add64", "math/bits.Sub64", "internal/abi.NoEscape", "internal/bytealg.MakeNoZero"], unfollowed := true, recurses := true, named := ["baulk/league.kinds", "math/bits.divideError", "math/bits.overflowError", "internal/strconv.uint64pow10", "math/bits.deBruijn32tab", "math/bits.deBruijn64tab"], plainKeys := false, apart := false, laid := [("math/bits.deBruijn32tab", laid_math_bits_deBruijn32tab), ("math/bits.deBruijn64tab", laid_math_bits_deBruijn64tab), ("internal/strconv.uint64pow10", laid_internal_strconv_uint64pow10), ("baulk/league.kinds", laid_baulk_league_kinds)] }
def LeagueChecksSaid : Prop := leagueChecksRow.holds Tryz.pinned (OpenSpec.ofChange leagueChecksSpec)

/-- ITS FALSE NEIGHBOUR: 'it returns false'. Refute it at one input. -/
def leagueChecksWrong : ChangeSpec := { name := "leagueChecks", fn := fun _ => fun
  | [d1, d2] => { results := [.lit (.bool false)], args := [d1, d2] }
  | _ => none }
def LeagueChecksWrongFalsely : Prop := leagueChecksRow.holds Tryz.pinned (OpenSpec.ofChange leagueChecksWrong)

/-- 'baulklaw08.LeagueEliminates': WHATEVER THE INPUT: true; the input reads as it did. -/
def leagueEliminatesSpec : ChangeSpec := { name := "leagueEliminates", fn := fun _ => fun
  | [d1, d2, d3] => { results := [.lit (.bool true)], args := [d1, d2, d3] }
  | _ => none }
def leagueEliminatesRow : OpenClaim := { program := "ytiggikjbknoohaagreatdoor", sum := "c5e83da2a87ed9d5dcb3c8ea07ccaa3108eaea2bc3e6c287546871a96cdbf5ff", func := "baulk/baulklaw08.LeagueEliminates", spec := "leagueEliminates", inPlace := ["math/bits.Add64", "math/bits.Sub64", "internal/abi.NoEscape", "internal/bytealg.MakeNoZero"], unfollowed := true, recurses := true, named := ["baulk/league.kinds", "math/bits.divideError", "math/bits.overflowError", "internal/strconv.uint64pow10", "math/bits.deBruijn32tab", "math/bits.deBruijn64tab"], plainKeys := false, apart := false, laid := [("math/bits.deBruijn32tab", laid_math_bits_deBruijn32tab), ("math/bits.deBruijn64tab", laid_math_bits_deBruijn64tab), ("internal/strconv.uint64pow10", laid_internal_strconv_uint64pow10), ("baulk/league.kinds", laid_baulk_league_kinds)] }
def LeagueEliminatesSaid : Prop := leagueEliminatesRow.holds Tryz.pinned (OpenSpec.ofChange leagueEliminatesSpec)

/-- ITS FALSE NEIGHBOUR: 'it returns false'. Refute it at one input. -/
def leagueEliminatesWrong : ChangeSpec := { name := "leagueEliminates", fn := fun _ => fun
  | [d1, d2, d3] => { results := [.lit (.bool false)], args := [d1, d2, d3] }
  | _ => none }
def LeagueEliminatesWrongFalsely : Prop := leagueEliminatesRow.holds Tryz.pinned (OpenSpec.ofChange leagueEliminatesWrong)

/-- 'baulklaw08.LeagueTitles': WHATEVER THE INPUT: true; the input reads as it did. -/
def leagueTitlesSpec : ChangeSpec := { name := "leagueTitles", fn := fun _ => fun
  | [d1, d2, d3] => { results := [.lit (.bool true)], args := [d1, d2, d3] }
  | _ => none }
def leagueTitlesRow : OpenClaim := { program := "ytiggikjbknoohaagreatdoor", sum := "c5e83da2a87ed9d5dcb3c8ea07ccaa3108eaea2bc3e6c287546871a96cdbf5ff", func := "baulk/baulklaw08.LeagueTitles", spec := "leagueTitles", inPlace := ["math/bits.Add64", "math/bits.Sub64", "internal/abi.NoEscape", "internal/bytealg.MakeNoZero"], unfollowed := true, recurses := true, named := ["baulk/league.kinds", "math/bits.divideError", "math/bits.overflowError", "internal/strconv.uint64pow10", "math/bits.deBruijn32tab", "math/bits.deBruijn64tab"], plainKeys := false, apart := false, laid := [("math/bits.deBruijn32tab", laid_math_bits_deBruijn32tab), ("math/bits.deBruijn64tab", laid_math_bits_deBruijn64tab), ("internal/strconv.uint64pow10", laid_internal_strconv_uint64pow10), ("baulk/league.kinds", laid_baulk_league_kinds)] }
def LeagueTitlesSaid : Prop := leagueTitlesRow.holds Tryz.pinned (OpenSpec.ofChange leagueTitlesSpec)

/-- ITS FALSE NEIGHBOUR: 'it returns false'. Refute it at one input. -/
def leagueTitlesWrong : ChangeSpec := { name := "leagueTitles", fn := fun _ => fun
  | [d1, d2, d3] => { results := [.lit (.bool false)], args := [d1, d2, d3] }
  | _ => none }
def LeagueTitlesWrongFalsely : Prop := leagueTitlesRow.holds Tryz.pinned (OpenSpec.ofChange leagueTitlesWrong)

/-- 'baulklaw08.LeagueFixtures': WHATEVER THE INPUT: true; the input reads as it did. -/
def leagueFixturesSpec : ChangeSpec := { name := "leagueFixtures", fn := fun _ => fun
  | [d] => { results := [.lit (.bool true)], args := [d] }
  | _ => none }
def leagueFixturesRow : OpenClaim := { program := "ytiggikjbknoohaagreatdoor", sum := "c5e83da2a87ed9d5dcb3c8ea07ccaa3108eaea2bc3e6c287546871a96cdbf5ff", func := "baulk/baulklaw08.LeagueFixtures", spec := "leagueFixtures", inPlace := ["math/bits.Add64", "math/bits.Sub64", "internal/abi.NoEscape", "internal/bytealg.MakeNoZero"], unfollowed := true, recurses := true, named := ["baulk/league.kinds", "math/bits.divideError", "math/bits.overflowError", "internal/strconv.uint64pow10", "math/bits.deBruijn32tab", "math/bits.deBruijn64tab"], plainKeys := false, apart := false, laid := [("math/bits.deBruijn32tab", laid_math_bits_deBruijn32tab), ("math/bits.deBruijn64tab", laid_math_bits_deBruijn64tab), ("internal/strconv.uint64pow10", laid_internal_strconv_uint64pow10), ("baulk/league.kinds", laid_baulk_league_kinds)] }
def LeagueFixturesSaid : Prop := leagueFixturesRow.holds Tryz.pinned (OpenSpec.ofChange leagueFixturesSpec)

/-- ITS FALSE NEIGHBOUR: 'it returns false'. Refute it at one input. -/
def leagueFixturesWrong : ChangeSpec := { name := "leagueFixtures", fn := fun _ => fun
  | [d] => { results := [.lit (.bool false)], args := [d] }
  | _ => none }
def LeagueFixturesWrongFalsely : Prop := leagueFixturesRow.holds Tryz.pinned (OpenSpec.ofChange leagueFixturesWrong)

/-- 'baulklaw08.LeagueEither': WHATEVER THE INPUT: true; the input reads as it did. -/
def leagueEitherSpec : ChangeSpec := { name := "leagueEither", fn := fun _ => fun
  | [d] => { results := [.lit (.bool true)], args := [d] }
  | _ => none }
def leagueEitherRow : OpenClaim := { program := "ytiggikjbknoohaagreatdoor", sum := "c5e83da2a87ed9d5dcb3c8ea07ccaa3108eaea2bc3e6c287546871a96cdbf5ff", func := "baulk/baulklaw08.LeagueEither", spec := "leagueEither", inPlace := ["math/bits.Add64", "math/bits.Sub64", "internal/abi.NoEscape", "internal/bytealg.MakeNoZero"], unfollowed := true, recurses := true, named := ["baulk/league.kinds", "math/bits.divideError", "math/bits.overflowError", "internal/strconv.uint64pow10", "math/bits.deBruijn32tab", "math/bits.deBruijn64tab"], plainKeys := false, apart := false, laid := [("math/bits.deBruijn32tab", laid_math_bits_deBruijn32tab), ("math/bits.deBruijn64tab", laid_math_bits_deBruijn64tab), ("internal/strconv.uint64pow10", laid_internal_strconv_uint64pow10), ("baulk/league.kinds", laid_baulk_league_kinds)] }
def LeagueEitherSaid : Prop := leagueEitherRow.holds Tryz.pinned (OpenSpec.ofChange leagueEitherSpec)

/-- ITS FALSE NEIGHBOUR: 'it returns false'. Refute it at one input. -/
def leagueEitherWrong : ChangeSpec := { name := "leagueEither", fn := fun _ => fun
  | [d] => { results := [.lit (.bool false)], args := [d] }
  | _ => none }
def LeagueEitherWrongFalsely : Prop := leagueEitherRow.holds Tryz.pinned (OpenSpec.ofChange leagueEitherWrong)

/-- 'baulklaw08.LeagueMeets': WHATEVER THE INPUT: true; the input reads as it did. -/
def leagueMeetsSpec : ChangeSpec := { name := "leagueMeets", fn := fun _ => fun
  | [d1, d2] => { results := [.lit (.bool true)], args := [d1, d2] }
  | _ => none }
def leagueMeetsRow : OpenClaim := { program := "ytiggikjbknoohaagreatdoor", sum := "c5e83da2a87ed9d5dcb3c8ea07ccaa3108eaea2bc3e6c287546871a96cdbf5ff", func := "baulk/baulklaw08.LeagueMeets", spec := "leagueMeets", inPlace := ["math/bits.Add64", "math/bits.Sub64", "internal/abi.NoEscape", "internal/bytealg.MakeNoZero"], unfollowed := true, recurses := true, named := ["baulk/league.kinds", "math/bits.divideError", "math/bits.overflowError", "internal/strconv.uint64pow10", "math/bits.deBruijn32tab", "math/bits.deBruijn64tab"], plainKeys := false, apart := false, laid := [("math/bits.deBruijn32tab", laid_math_bits_deBruijn32tab), ("math/bits.deBruijn64tab", laid_math_bits_deBruijn64tab), ("internal/strconv.uint64pow10", laid_internal_strconv_uint64pow10), ("baulk/league.kinds", laid_baulk_league_kinds)] }
def LeagueMeetsSaid : Prop := leagueMeetsRow.holds Tryz.pinned (OpenSpec.ofChange leagueMeetsSpec)

/-- ITS FALSE NEIGHBOUR: 'it returns false'. Refute it at one input. -/
def leagueMeetsWrong : ChangeSpec := { name := "leagueMeets", fn := fun _ => fun
  | [d1, d2] => { results := [.lit (.bool false)], args := [d1, d2] }
  | _ => none }
def LeagueMeetsWrongFalsely : Prop := leagueMeetsRow.holds Tryz.pinned (OpenSpec.ofChange leagueMeetsWrong)

/- THE SECOND FORM. 'bulk': how many values and letters a reading holds, each counted each time it is reached (what is shared counts as often as it is met; a slice's spare places count too). A statement '..UptoSaid' is the law's where the arguments, and the package variables that the reading takes, are together of bulk at most 1048576: NARROWER than '..Said'. Prove '..Said' where nothing that the law and all that it calls make is longer than what came in: it says more and counts as full. Else prove '..UptoSaid'. A law counts once. -/
mutual
def uptoBulk {H : Type} : DataW H → Nat
  | .lit (.string bytes) => bytes.length + 1
  | .lit _ => 1
  | .nil => 1
  | .ptr d => uptoBulk d + 1
  | .slice elems spare => uptoBulkAll elems + uptoBulkAll spare + 1
  | .agg parts => uptoBulkAll parts + 1
  | .iface _ d => uptoBulk d + 1
  | .map entries => uptoBulkEntries entries + 1
  | .held _ => 1
def uptoBulkAll {H : Type} : List (DataW H) → Nat
  | [] => 0
  | d :: r => uptoBulk d + uptoBulkAll r
def uptoBulkEntries {H : Type} : List (Lit × DataW H) → Nat
  | [] => 0
  | x :: r => uptoBulkEntry x + uptoBulkEntries r
def uptoBulkEntry {H : Type} : Lit × DataW H → Nat
  | (.string bytes, d) => bytes.length + uptoBulk d + 1
  | (_, d) => uptoBulk d + 1
 end
def uptoSmall : (H : Type) → List (DataW H) → Bool := fun _ ds => decide (uptoBulkAll ds ≤ 1048576)
def OpenSpec.upto (s : _root_.Go.ChangeSpec) : _root_.Go.OpenSpec := { _root_.Go.OpenSpec.ofChange s with cond := some uptoSmall }

/-- 'baulklaw08.LeagueRatings', WHERE WHAT IT READS IS OF BULK AT MOST 1048576: true; the input reads as it did. -/
def leagueRatingsUptoRow : OpenClaim := { program := "ytiggikjbknoohaagreatdoor", sum := "c5e83da2a87ed9d5dcb3c8ea07ccaa3108eaea2bc3e6c287546871a96cdbf5ff", func := "baulk/baulklaw08.LeagueRatings", spec := "leagueRatings", inPlace := ["math/bits.Add64", "math/bits.Sub64", "internal/abi.NoEscape", "internal/bytealg.MakeNoZero"], unfollowed := true, recurses := true, named := ["baulk/league.kinds", "math/bits.divideError", "math/bits.overflowError", "internal/strconv.uint64pow10", "math/bits.deBruijn32tab", "math/bits.deBruijn64tab"], plainKeys := false, apart := false, laid := [("math/bits.deBruijn32tab", laid_math_bits_deBruijn32tab), ("math/bits.deBruijn64tab", laid_math_bits_deBruijn64tab), ("internal/strconv.uint64pow10", laid_internal_strconv_uint64pow10), ("baulk/league.kinds", laid_baulk_league_kinds)], narrowed := true }
def LeagueRatingsUptoSaid : Prop := leagueRatingsUptoRow.holds Tryz.pinned (OpenSpec.upto leagueRatingsSpec)

/-- 'baulklaw08.LeaguePromotions', WHERE WHAT IT READS IS OF BULK AT MOST 1048576: true; the input reads as it did. -/
def leaguePromotionsUptoRow : OpenClaim := { program := "ytiggikjbknoohaagreatdoor", sum := "c5e83da2a87ed9d5dcb3c8ea07ccaa3108eaea2bc3e6c287546871a96cdbf5ff", func := "baulk/baulklaw08.LeaguePromotions", spec := "leaguePromotions", inPlace := ["math/bits.Add64", "math/bits.Sub64", "internal/abi.NoEscape", "internal/bytealg.MakeNoZero"], unfollowed := true, recurses := true, named := ["baulk/league.kinds", "math/bits.divideError", "math/bits.overflowError", "internal/strconv.uint64pow10", "math/bits.deBruijn32tab", "math/bits.deBruijn64tab"], plainKeys := false, apart := false, laid := [("math/bits.deBruijn32tab", laid_math_bits_deBruijn32tab), ("math/bits.deBruijn64tab", laid_math_bits_deBruijn64tab), ("internal/strconv.uint64pow10", laid_internal_strconv_uint64pow10), ("baulk/league.kinds", laid_baulk_league_kinds)], narrowed := true }
def LeaguePromotionsUptoSaid : Prop := leaguePromotionsUptoRow.holds Tryz.pinned (OpenSpec.upto leaguePromotionsSpec)

/-- 'baulklaw08.LeaguePlans', WHERE WHAT IT READS IS OF BULK AT MOST 1048576: true; the input reads as it did. -/
def leaguePlansUptoRow : OpenClaim := { program := "ytiggikjbknoohaagreatdoor", sum := "c5e83da2a87ed9d5dcb3c8ea07ccaa3108eaea2bc3e6c287546871a96cdbf5ff", func := "baulk/baulklaw08.LeaguePlans", spec := "leaguePlans", inPlace := ["math/bits.Add64", "math/bits.Sub64", "internal/abi.NoEscape", "internal/bytealg.MakeNoZero"], unfollowed := true, recurses := true, named := ["baulk/league.kinds", "math/bits.divideError", "math/bits.overflowError", "internal/strconv.uint64pow10", "math/bits.deBruijn32tab", "math/bits.deBruijn64tab"], plainKeys := false, apart := false, laid := [("math/bits.deBruijn32tab", laid_math_bits_deBruijn32tab), ("math/bits.deBruijn64tab", laid_math_bits_deBruijn64tab), ("internal/strconv.uint64pow10", laid_internal_strconv_uint64pow10), ("baulk/league.kinds", laid_baulk_league_kinds)], narrowed := true }
def LeaguePlansUptoSaid : Prop := leaguePlansUptoRow.holds Tryz.pinned (OpenSpec.upto leaguePlansSpec)

/-- 'baulklaw08.LeagueCounts', WHERE WHAT IT READS IS OF BULK AT MOST 1048576: true; the input reads as it did. -/
def leagueCountsUptoRow : OpenClaim := { program := "ytiggikjbknoohaagreatdoor", sum := "c5e83da2a87ed9d5dcb3c8ea07ccaa3108eaea2bc3e6c287546871a96cdbf5ff", func := "baulk/baulklaw08.LeagueCounts", spec := "leagueCounts", inPlace := ["math/bits.Add64", "math/bits.Sub64", "internal/abi.NoEscape", "internal/bytealg.MakeNoZero"], unfollowed := true, recurses := true, named := ["baulk/league.kinds", "math/bits.divideError", "math/bits.overflowError", "internal/strconv.uint64pow10", "math/bits.deBruijn32tab", "math/bits.deBruijn64tab"], plainKeys := false, apart := false, laid := [("math/bits.deBruijn32tab", laid_math_bits_deBruijn32tab), ("math/bits.deBruijn64tab", laid_math_bits_deBruijn64tab), ("internal/strconv.uint64pow10", laid_internal_strconv_uint64pow10), ("baulk/league.kinds", laid_baulk_league_kinds)], narrowed := true }
def LeagueCountsUptoSaid : Prop := leagueCountsUptoRow.holds Tryz.pinned (OpenSpec.upto leagueCountsSpec)

/-- 'baulklaw08.LeagueFits', WHERE WHAT IT READS IS OF BULK AT MOST 1048576: true; the input reads as it did. -/
def leagueFitsUptoRow : OpenClaim := { program := "ytiggikjbknoohaagreatdoor", sum := "c5e83da2a87ed9d5dcb3c8ea07ccaa3108eaea2bc3e6c287546871a96cdbf5ff", func := "baulk/baulklaw08.LeagueFits", spec := "leagueFits", inPlace := ["math/bits.Add64", "math/bits.Sub64", "internal/abi.NoEscape", "internal/bytealg.MakeNoZero"], unfollowed := true, recurses := true, named := ["baulk/league.kinds", "math/bits.divideError", "math/bits.overflowError", "internal/strconv.uint64pow10", "math/bits.deBruijn32tab", "math/bits.deBruijn64tab"], plainKeys := false, apart := false, laid := [("math/bits.deBruijn32tab", laid_math_bits_deBruijn32tab), ("math/bits.deBruijn64tab", laid_math_bits_deBruijn64tab), ("internal/strconv.uint64pow10", laid_internal_strconv_uint64pow10), ("baulk/league.kinds", laid_baulk_league_kinds)], narrowed := true }
def LeagueFitsUptoSaid : Prop := leagueFitsUptoRow.holds Tryz.pinned (OpenSpec.upto leagueFitsSpec)

/-- 'baulklaw08.LeagueMoves', WHERE WHAT IT READS IS OF BULK AT MOST 1048576: true; the input reads as it did. -/
def leagueMovesUptoRow : OpenClaim := { program := "ytiggikjbknoohaagreatdoor", sum := "c5e83da2a87ed9d5dcb3c8ea07ccaa3108eaea2bc3e6c287546871a96cdbf5ff", func := "baulk/baulklaw08.LeagueMoves", spec := "leagueMoves", inPlace := ["math/bits.Add64", "math/bits.Sub64", "internal/abi.NoEscape", "internal/bytealg.MakeNoZero"], unfollowed := true, recurses := true, named := ["baulk/league.kinds", "math/bits.divideError", "math/bits.overflowError", "internal/strconv.uint64pow10", "math/bits.deBruijn32tab", "math/bits.deBruijn64tab"], plainKeys := false, apart := false, laid := [("math/bits.deBruijn32tab", laid_math_bits_deBruijn32tab), ("math/bits.deBruijn64tab", laid_math_bits_deBruijn64tab), ("internal/strconv.uint64pow10", laid_internal_strconv_uint64pow10), ("baulk/league.kinds", laid_baulk_league_kinds)], narrowed := true }
def LeagueMovesUptoSaid : Prop := leagueMovesUptoRow.holds Tryz.pinned (OpenSpec.upto leagueMovesSpec)

/-- 'baulklaw08.LeagueDays', WHERE WHAT IT READS IS OF BULK AT MOST 1048576: true; the input reads as it did. -/
def leagueDaysUptoRow : OpenClaim := { program := "ytiggikjbknoohaagreatdoor", sum := "c5e83da2a87ed9d5dcb3c8ea07ccaa3108eaea2bc3e6c287546871a96cdbf5ff", func := "baulk/baulklaw08.LeagueDays", spec := "leagueDays", inPlace := ["math/bits.Add64", "math/bits.Sub64", "internal/abi.NoEscape", "internal/bytealg.MakeNoZero"], unfollowed := true, recurses := true, named := ["baulk/league.kinds", "math/bits.divideError", "math/bits.overflowError", "internal/strconv.uint64pow10", "math/bits.deBruijn32tab", "math/bits.deBruijn64tab"], plainKeys := false, apart := false, laid := [("math/bits.deBruijn32tab", laid_math_bits_deBruijn32tab), ("math/bits.deBruijn64tab", laid_math_bits_deBruijn64tab), ("internal/strconv.uint64pow10", laid_internal_strconv_uint64pow10), ("baulk/league.kinds", laid_baulk_league_kinds)], narrowed := true }
def LeagueDaysUptoSaid : Prop := leagueDaysUptoRow.holds Tryz.pinned (OpenSpec.upto leagueDaysSpec)

/-- 'baulklaw08.LeagueChecks', WHERE WHAT IT READS IS OF BULK AT MOST 1048576: true; the input reads as it did. -/
def leagueChecksUptoRow : OpenClaim := { program := "ytiggikjbknoohaagreatdoor", sum := "c5e83da2a87ed9d5dcb3c8ea07ccaa3108eaea2bc3e6c287546871a96cdbf5ff", func := "baulk/baulklaw08.LeagueChecks", spec := "leagueChecks", inPlace := ["math/bits.Add64", "math/bits.Sub64", "internal/abi.NoEscape", "internal/bytealg.MakeNoZero"], unfollowed := true, recurses := true, named := ["baulk/league.kinds", "math/bits.divideError", "math/bits.overflowError", "internal/strconv.uint64pow10", "math/bits.deBruijn32tab", "math/bits.deBruijn64tab"], plainKeys := false, apart := false, laid := [("math/bits.deBruijn32tab", laid_math_bits_deBruijn32tab), ("math/bits.deBruijn64tab", laid_math_bits_deBruijn64tab), ("internal/strconv.uint64pow10", laid_internal_strconv_uint64pow10), ("baulk/league.kinds", laid_baulk_league_kinds)], narrowed := true }
def LeagueChecksUptoSaid : Prop := leagueChecksUptoRow.holds Tryz.pinned (OpenSpec.upto leagueChecksSpec)

/-- 'baulklaw08.LeagueEliminates', WHERE WHAT IT READS IS OF BULK AT MOST 1048576: true; the input reads as it did. -/
def leagueEliminatesUptoRow : OpenClaim := { program := "ytiggikjbknoohaagreatdoor", sum := "c5e83da2a87ed9d5dcb3c8ea07ccaa3108eaea2bc3e6c287546871a96cdbf5ff", func := "baulk/baulklaw08.LeagueEliminates", spec := "leagueEliminates", inPlace := ["math/bits.Add64", "math/bits.Sub64", "internal/abi.NoEscape", "internal/bytealg.MakeNoZero"], unfollowed := true, recurses := true, named := ["baulk/league.kinds", "math/bits.divideError", "math/bits.overflowError", "internal/strconv.uint64pow10", "math/bits.deBruijn32tab", "math/bits.deBruijn64tab"], plainKeys := false, apart := false, laid := [("math/bits.deBruijn32tab", laid_math_bits_deBruijn32tab), ("math/bits.deBruijn64tab", laid_math_bits_deBruijn64tab), ("internal/strconv.uint64pow10", laid_internal_strconv_uint64pow10), ("baulk/league.kinds", laid_baulk_league_kinds)], narrowed := true }
def LeagueEliminatesUptoSaid : Prop := leagueEliminatesUptoRow.holds Tryz.pinned (OpenSpec.upto leagueEliminatesSpec)

/-- 'baulklaw08.LeagueTitles', WHERE WHAT IT READS IS OF BULK AT MOST 1048576: true; the input reads as it did. -/
def leagueTitlesUptoRow : OpenClaim := { program := "ytiggikjbknoohaagreatdoor", sum := "c5e83da2a87ed9d5dcb3c8ea07ccaa3108eaea2bc3e6c287546871a96cdbf5ff", func := "baulk/baulklaw08.LeagueTitles", spec := "leagueTitles", inPlace := ["math/bits.Add64", "math/bits.Sub64", "internal/abi.NoEscape", "internal/bytealg.MakeNoZero"], unfollowed := true, recurses := true, named := ["baulk/league.kinds", "math/bits.divideError", "math/bits.overflowError", "internal/strconv.uint64pow10", "math/bits.deBruijn32tab", "math/bits.deBruijn64tab"], plainKeys := false, apart := false, laid := [("math/bits.deBruijn32tab", laid_math_bits_deBruijn32tab), ("math/bits.deBruijn64tab", laid_math_bits_deBruijn64tab), ("internal/strconv.uint64pow10", laid_internal_strconv_uint64pow10), ("baulk/league.kinds", laid_baulk_league_kinds)], narrowed := true }
def LeagueTitlesUptoSaid : Prop := leagueTitlesUptoRow.holds Tryz.pinned (OpenSpec.upto leagueTitlesSpec)

/-- 'baulklaw08.LeagueFixtures', WHERE WHAT IT READS IS OF BULK AT MOST 1048576: true; the input reads as it did. -/
def leagueFixturesUptoRow : OpenClaim := { program := "ytiggikjbknoohaagreatdoor", sum := "c5e83da2a87ed9d5dcb3c8ea07ccaa3108eaea2bc3e6c287546871a96cdbf5ff", func := "baulk/baulklaw08.LeagueFixtures", spec := "leagueFixtures", inPlace := ["math/bits.Add64", "math/bits.Sub64", "internal/abi.NoEscape", "internal/bytealg.MakeNoZero"], unfollowed := true, recurses := true, named := ["baulk/league.kinds", "math/bits.divideError", "math/bits.overflowError", "internal/strconv.uint64pow10", "math/bits.deBruijn32tab", "math/bits.deBruijn64tab"], plainKeys := false, apart := false, laid := [("math/bits.deBruijn32tab", laid_math_bits_deBruijn32tab), ("math/bits.deBruijn64tab", laid_math_bits_deBruijn64tab), ("internal/strconv.uint64pow10", laid_internal_strconv_uint64pow10), ("baulk/league.kinds", laid_baulk_league_kinds)], narrowed := true }
def LeagueFixturesUptoSaid : Prop := leagueFixturesUptoRow.holds Tryz.pinned (OpenSpec.upto leagueFixturesSpec)

/-- 'baulklaw08.LeagueEither', WHERE WHAT IT READS IS OF BULK AT MOST 1048576: true; the input reads as it did. -/
def leagueEitherUptoRow : OpenClaim := { program := "ytiggikjbknoohaagreatdoor", sum := "c5e83da2a87ed9d5dcb3c8ea07ccaa3108eaea2bc3e6c287546871a96cdbf5ff", func := "baulk/baulklaw08.LeagueEither", spec := "leagueEither", inPlace := ["math/bits.Add64", "math/bits.Sub64", "internal/abi.NoEscape", "internal/bytealg.MakeNoZero"], unfollowed := true, recurses := true, named := ["baulk/league.kinds", "math/bits.divideError", "math/bits.overflowError", "internal/strconv.uint64pow10", "math/bits.deBruijn32tab", "math/bits.deBruijn64tab"], plainKeys := false, apart := false, laid := [("math/bits.deBruijn32tab", laid_math_bits_deBruijn32tab), ("math/bits.deBruijn64tab", laid_math_bits_deBruijn64tab), ("internal/strconv.uint64pow10", laid_internal_strconv_uint64pow10), ("baulk/league.kinds", laid_baulk_league_kinds)], narrowed := true }
def LeagueEitherUptoSaid : Prop := leagueEitherUptoRow.holds Tryz.pinned (OpenSpec.upto leagueEitherSpec)

/-- 'baulklaw08.LeagueMeets', WHERE WHAT IT READS IS OF BULK AT MOST 1048576: true; the input reads as it did. -/
def leagueMeetsUptoRow : OpenClaim := { program := "ytiggikjbknoohaagreatdoor", sum := "c5e83da2a87ed9d5dcb3c8ea07ccaa3108eaea2bc3e6c287546871a96cdbf5ff", func := "baulk/baulklaw08.LeagueMeets", spec := "leagueMeets", inPlace := ["math/bits.Add64", "math/bits.Sub64", "internal/abi.NoEscape", "internal/bytealg.MakeNoZero"], unfollowed := true, recurses := true, named := ["baulk/league.kinds", "math/bits.divideError", "math/bits.overflowError", "internal/strconv.uint64pow10", "math/bits.deBruijn32tab", "math/bits.deBruijn64tab"], plainKeys := false, apart := false, laid := [("math/bits.deBruijn32tab", laid_math_bits_deBruijn32tab), ("math/bits.deBruijn64tab", laid_math_bits_deBruijn64tab), ("internal/strconv.uint64pow10", laid_internal_strconv_uint64pow10), ("baulk/league.kinds", laid_baulk_league_kinds)], narrowed := true }
def LeagueMeetsUptoSaid : Prop := leagueMeetsUptoRow.holds Tryz.pinned (OpenSpec.upto leagueMeetsSpec)

end Rows
end Go.Proofs.YtiggikjbknoohaaGreatDoor
