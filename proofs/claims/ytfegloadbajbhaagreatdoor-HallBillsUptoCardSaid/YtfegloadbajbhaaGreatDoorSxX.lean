/- The symbolic layer: lists in maps that grow; ranges over maps whose iterator lies anywhere. -/
import Derived.Test.YtfegloadbajbhaaGreatDoorTbN
import Derived.Test.YtfegloadbajbhaaGreatDoorSxM
noncomputable section
namespace Go.Den
section
variable {P : Program} {rd : Option Nat} {nt : Nat} {ops : Array Oper} {l : EL} {ds : List Nat} {K : St → Prop} {i : Nat} {r : List Oper} {o : Oper} {ty : TypeId} {pos : String} {af : Array Edge} {H : AHeap} {lo : Nat} {L : List (Option ABlk)} {L0 : List (Option ABlk)} {ow : List Nat} {N : List ABlk}
theorem Lst.move {α : Type} {m k0 : Nat} {f : α → List Value} {lst : List α} {v : Value} {L' : List (Option ABlk)} (h : Lst H L m f k0 v lst) (hs : lst ≠ [] → ∀ j : Nat, L[j]? = some (some (ABlk.cells (lst.flatMap f) m true false)) → L'[j]? = some (some (ABlk.cells (lst.flatMap f) m true false))) : Lst H L' m f k0 v lst := by
  rcases h.out with ⟨e1, e2⟩ | ⟨hne, k, h1, e, h2⟩
  · exact ⟨.inl ⟨e1, e2⟩⟩
  · exact ⟨.inr ⟨hne, k, h1, e, hs hne k h2⟩⟩
end
end Go.Den
