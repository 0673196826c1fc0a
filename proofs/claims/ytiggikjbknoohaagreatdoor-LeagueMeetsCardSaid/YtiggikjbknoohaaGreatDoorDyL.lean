/- LeagueDays: the plain law. -/
import Derived.Test.YtiggikjbknoohaaGreatDoorPnH
import Derived.Test.YtiggikjbknoohaaGreatDoorFnI
noncomputable section
namespace Go.Den.Plan
section
variable {D D' : Nat → List Int} {M M' : Nat → Nat → Bool}
theorem Valid.into {sol : List Int} (h : Valid D M sol) (hD : ∀ i, i < sol.length → ∀ d ∈ D i, d ∈ D' i) (hM : ∀ i k, i < sol.length → k < i → M' i k = M i k) : Valid D' M' sol :=
  ⟨fun i d hd => hD i (List.getElem?_eq_some_iff.1 hd).1 d (h.day i d hd), fun i k d hk h1 h2 => by rw [hM i k (List.getElem?_eq_some_iff.1 h1).1 hk]; exact h.apart i k d hk h1 h2⟩
end
end Go.Den.Plan
namespace Go.Proofs.YtiggikjbknoohaaGreatDoor
open Go Go.Den
set_option maxRecDepth 100000

section
variable {m : List (Int × Int)} {busy : List Bz} {frm to : Int} {sol : List Int} {D : Nat → List Int}
end
end Go.Proofs.YtiggikjbknoohaaGreatDoor
