/- Contracts: the reference's word on a list of fixtures. -/
import Derived.Test.YtiggikjbknoohaaGreatDoorFnD
import Derived.Test.YtiggikjbknoohaaGreatDoorSxA
noncomputable section
namespace Go.Proofs.YtiggikjbknoohaaGreatDoor
open Go Go.Den
set_option maxRecDepth 10000

theorem outL_f {n a b : Int} (h : outL n a b = false) : a ≤ n ∧ n ≤ b := by simp [outL] at h; omega
theorem errAt_ok {n : Int} {pre : List Fx} {x : Fx} (h : outL x.day 0 48 = false) (h1 : [x.home, x.away].any (unknownL n) = false) (h2 : (x.home == x.away) = false) (h3 : pre.any (clashL x) = false) (h4 : pre.any (twiceL x) = false) : errAt n pre x = 0 := by simp [errAt, pairL, firstL, whenL, h, h1, h2, h3, h4]
theorem take_any_f {l : List Fx} {i : Nat} {p : Fx → Bool} (h : ∀ j (hj : j < l.length), j < i → p l[j] = false) : (l.take i).any p = false := by
  rw [List.any_eq_false]
  intro x hx
  obtain ⟨j, hj, rfl⟩ := List.mem_take_iff_getElem.1 hx
  rw [h j (by omega) (by omega)]
  simp
