/- The symbolic layer: appends of nothing, ends of functions. -/
import Derived.Test.YtiggikjbknoohaaGreatDoorSxT
noncomputable section
namespace Go.Den

section
variable {P : Program} {l : EL} {h : AHeap}
end

section
variable {P : Program} {l : EL} {H : AHeap} {lo : Nat} {L : List (Option ABlk)}
end
theorem getR {α : Type} {l m : List α} {k : Nat} {x : α} (h : m[k]? = some x) : (l ++ m)[l.length + k]? = some x := by
  rw [List.getElem?_append_right (by omega), Nat.add_sub_cancel_left]; exact h
section
end
end Go.Den
