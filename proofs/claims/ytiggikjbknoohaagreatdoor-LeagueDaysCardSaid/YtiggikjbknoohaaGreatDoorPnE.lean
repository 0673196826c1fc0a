/- Contracts: what solves a plan (the reference's word). -/
import Derived.Test.YtiggikjbknoohaaGreatDoorPnD
noncomputable section
namespace Go.Proofs.YtiggikjbknoohaaGreatDoor
open Go Go.Den
set_option maxRecDepth 100000

def Mt (m : List (Int × Int)) (i k : Nat) : Bool := meetsL (m[i]?.getD (0, 0)).1 (m[i]?.getD (0, 0)).2 (m[k]?.getD (0, 0)).1 (m[k]?.getD (0, 0)).2
theorem Mt_eq {m : List (Int × Int)} {i k : Nat} (hi : i < m.length) (hk : k < m.length) : Mt m i k = meetsL m[i].1 m[i].2 m[k].1 m[k].2 := by simp [Mt, hi, hk]
def okAt (D : Nat → List Int) (m : List (Int × Int)) (days : List Int) (i : Nat) : Bool := dayIn (D i) (nth days i) && (List.range i).all fun k => !((nth days k == nth days i) && Mt m i k)
def solvesB (D : Nat → List Int) (m : List (Int × Int)) (days : List Int) : Bool := (List.range days.length).all (okAt D m days)
theorem dayIn_iff {l : List Int} {d : Int} : dayIn l d = true ↔ d ∈ l := by
  unfold dayIn
  rw [List.any_eq_true]
  constructor
  · rintro ⟨x, hx, h⟩
    simp only [beq_iff_eq] at h
    rw [h]; exact hx
  · intro h
    exact ⟨d, h, by simp⟩
theorem nth_get {l : List Int} {i : Nat} {d : Int} (h : l[i]? = some d) : nth l i = d := by simp [nth, h]
theorem solvesB_iff {D : Nat → List Int} {m : List (Int × Int)} {days : List Int} : solvesB D m days = true ↔ Plan.Valid D (Mt m) days := by
  unfold solvesB
  rw [List.all_eq_true]
  constructor
  · intro h
    refine ⟨fun i d hd => ?_, fun i k d hk hd hd2 => ?_⟩
    · have := h i (List.mem_range.2 (List.getElem?_eq_some_iff.1 hd).1)
      unfold okAt at this
      rw [Bool.and_eq_true, nth_get hd] at this
      exact dayIn_iff.1 this.1
    · have := h i (List.mem_range.2 (List.getElem?_eq_some_iff.1 hd).1)
      unfold okAt at this
      rw [Bool.and_eq_true, List.all_eq_true] at this
      have := this.2 k (List.mem_range.2 hk)
      rw [nth_get hd, nth_get hd2] at this
      simpa using this
  · intro h i hi
    have hi := List.mem_range.1 hi
    have hd : days[i]? = some days[i] := List.getElem?_eq_getElem hi
    unfold okAt
    rw [Bool.and_eq_true, List.all_eq_true]
    refine ⟨by rw [nth_get hd]; exact dayIn_iff.2 (h.day i _ hd), fun k hk => ?_⟩
    have hk := List.mem_range.1 hk
    have hd2 : days[k]? = some days[k] := List.getElem?_eq_getElem (by omega)
    rw [nth_get hd, nth_get hd2]
    by_cases e : days[k] = days[i]
    · have := h.apart i k days[i] hk hd (by rw [hd2, e])
      rw [this]; simp
    · have : (days[k] == days[i]) = false := by simpa using e
      rw [this]; rfl
end Go.Proofs.YtiggikjbknoohaaGreatDoor
