/- LeagueChecks: the law's own walk. -/
import Derived.Test.YtiggikjbknoohaaGreatDoorFnI
noncomputable section
namespace Go.Proofs.YtiggikjbknoohaaGreatDoor
open Go Go.Den
set_option maxRecDepth 10000

theorem ext_snoc {H : AHeap} (hc : Closed H) {lo : Nat} {L : List (Option ABlk)} {x : ABlk} : Ext (ext H lo L) (ext H lo (L ++ [some x])) := by
  intro b y hb
  rw [ext_get hc] at hb ⊢
  split
  · rename_i h
    rw [if_pos h] at hb
    cases hL : L[b / 2 - H.next]? with
    | none => rw [hL] at hb; cases hb
    | some o => rw [getApp hL]; rw [hL] at hb; exact hb
  · rename_i h
    rw [if_neg h] at hb
    exact hb
