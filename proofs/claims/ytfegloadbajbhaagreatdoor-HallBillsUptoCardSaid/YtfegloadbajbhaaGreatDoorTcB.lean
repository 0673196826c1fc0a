/- Contracts: the reference's check of matches. -/
import Derived.Test.YtfegloadbajbhaaGreatDoorTbL
import Derived.Test.YtfegloadbajbhaaGreatDoorStB
import Derived.Test.YtfegloadbajbhaaGreatDoorStA
import Derived.Test.YtfegloadbajbhaaGreatDoorFnK
import Derived.Test.YtfegloadbajbhaaGreatDoorSxA
noncomputable section
namespace Go.Proofs.YtfegloadbajbhaaGreatDoor
open Go Go.Den
set_option maxRecDepth 100000

/-- the first error of elements that are told those before them -/
def errG {α : Type} (err : List α → α → Int) (l : List α) (i : Nat) : Int := match l[i]? with
  | some x => err (l.take i) x
  | none => 0
def restG {α : Type} (err : List α → α → Int) (l : List α) : Int := firstL ((List.range l.length).map (errG err l))
section
variable {α : Type} {err : List α → α → Int} {l : List α}
theorem errG_at {i : Nat} (h : i < l.length) : errG err l i = err (l.take i) l[i] := by simp [errG, h]
theorem restG_at {i : Nat} (hi : i < l.length) (h : ∀ j, j < i → errG err l j = 0) (hne : errG err l i ≠ 0) : restG err l = errG err l i := by
  have := firstL_at (l := (List.range l.length).map (errG err l)) (i := i) (by simpa using hi) (fun j hj hji => by simpa using h j hji) (by simpa using hne)
  simpa [restG] using this
theorem restG_none (h : ∀ j, j < l.length → errG err l j = 0) : restG err l = 0 :=
  firstL_none fun j hj => by
    have hj' : j < l.length := by simpa using hj
    simpa using h j hj'
end
section
variable {n : Int} {pre : List Ma} {m : Ma}
end
end Go.Proofs.YtfegloadbajbhaaGreatDoor
