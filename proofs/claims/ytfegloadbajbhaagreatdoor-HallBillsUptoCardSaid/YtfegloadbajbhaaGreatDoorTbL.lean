/- LeagueEliminates: the contract over every input, the row's forms, the card. -/
import Derived.Test.YtfegloadbajbhaaGreatDoorOpA
import Derived.Test.YtfegloadbajbhaaGreatDoorElI
import Derived.Test.YtfegloadbajbhaaGreatDoorAwake
import Derived.Test.YtfegloadbajbhaaGreatDoorFnK
noncomputable section
namespace Go.Proofs.YtfegloadbajbhaaGreatDoor
open Go Go.Den Go.ChangeShapes Go.WideShapes Go.ChangeAt Go.RowKit Go.Deep
set_option maxRecDepth 10000
noncomputable instance : Inhabited (Int × Int) := ⟨(0, 0)⟩

theorem cellsInt : Tryz.prog.cellsOf 3 = 1 := by decide +kernel
section
variable {H : Type} {enc : TypeId × Value → H} {W : World} {sp : Nat → Bool} {hd : Bool} {fuel : Nat}
end

end Go.Proofs.YtfegloadbajbhaaGreatDoor
/- Plain law: tables. -/
noncomputable section
namespace Go.Proofs.YtfegloadbajbhaaGreatDoor
open Go Go.Den
set_option maxRecDepth 100000

structure Ma where
  home : Int
  away : Int
  fr : Int
  ag : Int
  kind : ByteArray
structure Ru where
  win : Int
  draw : Int
  loss : Int
  frames : Int
structure Rw where
  team : Int
  played : Int
  won : Int
  drawn : Int
  lost : Int
  fr : Int
  ag : Int
  pts : Int
  rank : Int
/-! ### what holds of each row -/
/-- bounds -/
structure RowBd (k : Int) (x : Rw) : Prop where
  played : 0 ≤ x.played ∧ x.played ≤ k
  won : 0 ≤ x.won ∧ x.won ≤ k
  drawn : 0 ≤ x.drawn ∧ x.drawn ≤ k
  lost : 0 ≤ x.lost ∧ x.lost ≤ k
  fr : 0 ≤ x.fr ∧ x.fr ≤ 99 * k
  ag : 0 ≤ x.ag ∧ x.ag ≤ 99 * k
  pts : 0 ≤ x.pts ∧ x.pts ≤ 99 * k
  team : 0 ≤ x.team ∧ x.team ≤ 24
  rank : x.rank = 0
theorem RowBd.le {k j : Int} {x : Rw} (h : RowBd k x) (hk : k ≤ j) : RowBd j x := by
  obtain ⟨h1, h2, h3, h4, h5, h6, h7, h8, h9⟩ := h
  exact ⟨by omega, by omega, by omega, by omega, by omega, by omega, by omega, h8, h9⟩
/-! ### sums over all rows -/
/-! ### how teams are compared -/
abbrev Fg := Int × Int × Int
def figL (x : Rw) : Fg := (x.pts, x.fr - x.ag, x.fr)
/-! ### the table -/
end Go.Proofs.YtfegloadbajbhaaGreatDoor
