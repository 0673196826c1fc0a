/- The symbolic layer: appends of nothing, ends of functions. -/
import Derived.Test.YtiggikjbknoohaaGreatDoorSxT
noncomputable section
namespace Go.Den

section
variable {P : Program} {l : EL} {h : AHeap}
end

section
variable {P : Program} {l : EL} {H : AHeap} {lo : Nat} {L : List (Option ABlk)}
end
theorem getR {α : Type} {l m : List α} {k : Nat} {x : α} (h : m[k]? = some x) : (l ++ m)[l.length + k]? = some x := by
  rw [List.getElem?_append_right (by omega), Nat.add_sub_cancel_left]; exact h
section
theorem findSome_at {α β : Type} {g : α → Option β} : ∀ {l : List α} {j : Nat} {s : β} (h : j < l.length), (l.take j).findSome? g = none → g l[j] = some s → l.findSome? g = some s
  | [], j, s, h, _, _ => by simp at h
  | a :: r, 0, s, _, _, hg => by
    simp only [List.getElem_cons_zero] at hg
    simp [hg]
  | a :: r, j + 1, s, h, hn, hg => by
    simp only [List.take_succ_cons, List.findSome?_cons] at hn
    simp only [List.getElem_cons_succ] at hg
    rw [List.findSome?_cons]
    cases ha : g a with
    | some x => rw [ha] at hn; cases hn
    | none => rw [ha] at hn; exact findSome_at (by simpa using h) hn hg
theorem findSome_next {α β : Type} {g : α → Option β} {l : List α} {j : Nat} (h : j < l.length) (hn : (l.take j).findSome? g = none) (hg : g l[j] = none) : (l.take (j + 1)).findSome? g = none := by
  rw [List.take_add_one, List.getElem?_eq_getElem h, List.findSome?_append, hn]
  simp [hg]
end
end Go.Den
