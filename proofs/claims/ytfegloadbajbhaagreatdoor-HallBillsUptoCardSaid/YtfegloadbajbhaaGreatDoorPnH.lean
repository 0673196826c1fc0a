/- Contracts: the program's Postpone. -/
import Derived.Test.YtfegloadbajbhaaGreatDoorPnG
noncomputable section
namespace Go.Den
section
variable {P : Program} {rd : Option Nat} {nt : Nat} {ops : Array Oper} {l : EL} {ds : List Nat} {K : St → Prop} {i : Nat} {r : List Oper} {ty : TypeId} {pos : String} {af : Array Edge} {H : AHeap} {lo : Nat}
end
namespace Plan
end Plan
end Go.Den
namespace Go.Proofs.YtfegloadbajbhaaGreatDoor
open Go Go.Den
set_option maxRecDepth 100000

def InB (H : AHeap) (L : List (Option ABlk)) (x : Bz) : Prop := (x.p = none ∧ x.l = []) ∨ ∃ (k : Nat) (dl : List Int) (n : Nat), L[k]? = some (some (.cells (dl.map I) 1 true false)) ∧ dl ≠ [] ∧ x.p = some ⟨nb H k, 0, none⟩ ∧ x.l = dl.take n
theorem InB.keep {H : AHeap} {L L' : List (Option ABlk)} {x : Bz} (h : InB H L x) (hk : ∀ (k : Nat) (dl : List Int), dl ≠ [] → L[k]? = some (some (.cells (dl.map I) 1 true false)) → L'[k]? = some (some (.cells (dl.map I) 1 true false))) : InB H L' x := by
  rcases h with h | ⟨k, dl, n, h1, h2, h3, h4⟩
  · exact .inl h
  · exact .inr ⟨k, dl, n, hk k dl h2 h1, h2, h3, h4⟩
end Go.Proofs.YtfegloadbajbhaaGreatDoor
