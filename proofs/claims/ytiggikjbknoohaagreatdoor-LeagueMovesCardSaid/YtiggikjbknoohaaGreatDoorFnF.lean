/- Contracts: counts of home matches; same lists; copies. -/
import Derived.Test.YtiggikjbknoohaaGreatDoorFnE
noncomputable section
namespace Go.Proofs.YtiggikjbknoohaaGreatDoor
open Go Go.Den
set_option maxRecDepth 10000

theorem take_snoc {α : Type} {l : List α} {i : Nat} (h : i < l.length) : l.take (i + 1) = l.take i ++ [l[i]] := by
  rw [List.take_add_one, List.getElem?_eq_getElem h]; rfl

theorem firstL_zero {l : List Int} (h : firstL l = 0) : ∀ x ∈ l, x = 0 := by
  intro x hx
  by_cases hx0 : x = 0
  · exact hx0
  · exfalso
    cases hf : l.find? (fun e => decide (e ≠ 0)) with
    | none =>
      rw [List.find?_eq_none] at hf
      exact hf x hx (by simpa using hx0)
    | some y =>
      have := List.find?_some hf
      simp only [firstL, hf, Option.getD_some] at h
      simp [h] at this