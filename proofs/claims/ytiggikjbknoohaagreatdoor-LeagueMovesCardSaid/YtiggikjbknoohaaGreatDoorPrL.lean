/- LeaguePromotions: the plain functions. -/
import Derived.Test.YtiggikjbknoohaaGreatDoorStA
import Derived.Test.YtiggikjbknoohaaGreatDoorFnF
noncomputable section
namespace Go.Proofs.YtiggikjbknoohaaGreatDoor
open Go Go.Den
set_option maxRecDepth 100000

def alphaI (c : Int) : Bool := (decide (c ≥ 97) && decide (c ≤ 122)) || (decide (c ≥ 65) && decide (c ≤ 90))
def nameC (i : Nat) (c : Int) : Bool := alphaI c || (decide (i ≠ 0) && ((decide (c ≥ 48) && decide (c ≤ 57)) || c == 95))
def nameB (s : ByteArray) : Bool := (decide (1 ≤ s.size) && decide (s.size ≤ 24)) && (List.range s.size).all fun i => nameC i (byteI s i)
theorem nameB_bad {s : ByteArray} {i : Nat} (hi : i < s.size) (h : nameC i (byteI s i) = false) : nameB s = false := by
  unfold nameB
  have : ((List.range s.size).all fun i => nameC i (byteI s i)) = false := by
    rw [List.all_eq_false]
    exact ⟨i, List.mem_range.2 hi, by rw [h]; simp⟩
  rw [this, Bool.and_false]
theorem nameB_all {s : ByteArray} (h : ∀ i, i < s.size → nameC i (byteI s i) = true) : nameB s = (decide (1 ≤ s.size) && decide (s.size ≤ 24)) := by
  unfold nameB
  have : ((List.range s.size).all fun i => nameC i (byteI s i)) = true := by
    rw [List.all_eq_true]
    exact fun i hi => h i (List.mem_range.1 hi)
  rw [this, Bool.and_true]
theorem nameC_high {i : Nat} {c : Int} (h : 128 ≤ c) : nameC i c = false := by
  have h1 : decide (c ≤ 122) = false := by simp; omega
  have h2 : decide (c ≤ 90) = false := by simp; omega
  have h3 : decide (c ≤ 57) = false := by simp; omega
  have h4 : (c == 95) = false := by simp; omega
  simp [nameC, alphaI, h1, h2, h3, h4]

/-- what is wrong with the names of a division, behind names that were seen -/
def rowE (seen : List ByteArray) : List ByteArray → Int
  | [] => 0
  | s :: r => if nameB s = false then 8 else if memK seen s = true then 9 else rowE (seen ++ [s]) r
def divE (seen : List ByteArray) : List (List ByteArray) → Int
  | [] => 0
  | l :: r => if decide ((l.length : Int) > 24) = true then 5 else if rowE seen l ≠ 0 then rowE seen l else divE (seen ++ l) r
def divsE (d : List (List ByteArray)) : Int := if d.length = 0 then 12 else if decide ((d.length : Int) > 24) = true then 5 else divE [] d
def moveE (d : List (List ByteArray)) (k : Int) : Int := firstL [whenL (outL k 0 24) 3, whenL (d.any fun l => decide ((l.length : Int) < 2 * k)) 2]

/-- the teams of a division in the next season -/
def proL (d : List (List ByteArray)) (k i : Nat) : List ByteArray :=
  (if 0 < i then (d[i - 1]?.getD []).drop ((d[i - 1]?.getD []).length - k) else []) ++
  (((d[i]?.getD []).take ((d[i]?.getD []).length - if i + 1 < d.length then k else 0)).drop (if 0 < i then k else 0) ++
  (if i + 1 < d.length then (d[i + 1]?.getD []).take k else []))
end Go.Proofs.YtiggikjbknoohaaGreatDoor
