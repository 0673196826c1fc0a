/- Contracts: the program's Postpone. -/
import Derived.Test.YtiggikjbknoohaaGreatDoorPnG
noncomputable section
namespace Go.Den
section
variable {P : Program} {rd : Option Nat} {nt : Nat} {ops : Array Oper} {l : EL} {ds : List Nat} {K : St → Prop} {i : Nat} {r : List Oper} {ty : TypeId} {pos : String} {af : Array Edge} {H : AHeap} {lo : Nat}
/-- a new block takes the place of one that was there before the drawn region -/
theorem sd_pushS [PC P] {L0 : List (Option ABlk)} {ow : List Nat} {N : List ABlk} {d n c k : Nat} {op : Op} {y : ABlk} (hc : Closed H) (hfree : isFree op = false) (hser : seriesS ops i = true) (hlt : k < (L0 ++ N.map some).length)
    (hop : Does P l op (ext H lo (L0 ++ N.map some)) (.slice (some ⟨(ext H lo (L0 ++ N.map some)).fresh, 0, none⟩) n c) (((ext H lo (L0 ++ N.map some)).kill (nb H k)).add y)) (hd : Nat.blt d nt = true)
    (hk : SeqD P rd nt ops r (i + 1) ds ((d, .slice (some ⟨nb H (L0.length + N.length), 0, none⟩) n c) :: l) H lo ((L0 ++ N.map some).set k none ++ [some y]) [] [] K) : SeqD P rd nt ops (⟨some d, op, ty, pos, af, none⟩ :: r) i ds l H lo L0 ow N K := by
  have e : (ext H lo (L0 ++ N.map some)).fresh = nb H (L0.length + N.length) := by rw [ext_fresh]; simp
  rw [e] at hop
  exact sd_ho fun ho => sd_seriesC (o := ⟨some d, op, ty, pos, af, none⟩) (v := .slice (some ⟨nb H (L0.length + N.length), 0, none⟩) n c) hfree hser (fun ad ha => opT_of ho rfl hop hd ha) (ext_push hc hlt y) rfl hc (Nat.le_refl _) (by rw [ext_fresh, ext_fresh]; simp only [nb, List.length_append, List.length_set]; omega) hk
end
namespace Plan
end Plan
end Go.Den
namespace Go.Proofs.YtiggikjbknoohaaGreatDoor
open Go Go.Den
set_option maxRecDepth 100000

def InB (H : AHeap) (L : List (Option ABlk)) (x : Bz) : Prop := (x.p = none ∧ x.l = []) ∨ ∃ (k : Nat) (dl : List Int) (n : Nat), L[k]? = some (some (.cells (dl.map I) 1 true false)) ∧ dl ≠ [] ∧ x.p = some ⟨nb H k, 0, none⟩ ∧ x.l = dl.take n
theorem InB.keep {H : AHeap} {L L' : List (Option ABlk)} {x : Bz} (h : InB H L x) (hk : ∀ (k : Nat) (dl : List Int), dl ≠ [] → L[k]? = some (some (.cells (dl.map I) 1 true false)) → L'[k]? = some (some (.cells (dl.map I) 1 true false))) : InB H L' x := by
  rcases h with h | ⟨k, dl, n, h1, h2, h3, h4⟩
  · exact .inl h
  · exact .inr ⟨k, dl, n, hk k dl h2 h1, h2, h3, h4⟩
end Go.Proofs.YtiggikjbknoohaaGreatDoor
