/- The symbolic layer: several lists that grow beside each other. -/
import Derived.Test.YtfegloadbajbhaaGreatDoorSxX
import Derived.Test.YtfegloadbajbhaaGreatDoorStB
import Derived.Test.YtfegloadbajbhaaGreatDoorSxT
noncomputable section
namespace Go.Den

/-- blocks stay where they are -/
def Keeps (L L' : List (Option ABlk)) : Prop := ∀ (k : Nat) y, L[k]? = some (some y) → L'[k]? = some (some y)
theorem Keeps.refl (L : List (Option ABlk)) : Keeps L L := fun _ _ h => h
theorem Keeps.trans {L L1 L2 : List (Option ABlk)} (h : Keeps L L1) (k : Keeps L1 L2) : Keeps L L2 := fun j y hy => k j y (h j y hy)
theorem Keeps.app {L : List (Option ABlk)} (M : List (Option ABlk)) : Keeps L (L ++ M) := fun _ _ h => getApp h
/-- a list that was made by appending, wherever its block stays -/
theorem Lst.slAll {α : Type} {H : AHeap} {L : List (Option ABlk)} {m k0 : Nat} {f : α → List Value} {v : Value} {l : List α} (h : Lst H L m f k0 v l) (hf : ∀ x, (f x).length = m) :
    ∃ p, v = .slice p l.length l.length ∧ ∀ (L' : List (Option ABlk)) (lo : Nat), Keeps L L' → SlAt (ext H lo L') m f p l := by
  rcases h.out with ⟨rfl, rfl⟩ | ⟨hne, k, h1, rfl, h2⟩
  · exact ⟨none, rfl, fun _ _ _ => .nil⟩
  · exact ⟨_, rfl, fun L' lo hk => slAt_flat hf (ext_get_new (hk _ _ h2))⟩
theorem lst_ofL {α : Type} {H : AHeap} {L : List (Option ABlk)} {m k0 : Nat} {f : α → List Value} {l : List α} (hL : k0 ≤ L.length) : Lst H (L ++ lstL m f l) m f k0 (lstV (nb H L.length) l) l := by
  cases l with
  | nil => exact .nil
  | cons a l => exact ⟨.inr ⟨by simp, L.length, hL, rfl, by simp [lstL]⟩⟩
/-- v is a list that was made by appending; its block is K -/
structure LstI {α : Type} (H : AHeap) (L : List (Option ABlk)) (m : Nat) (f : α → List Value) (K : Nat) (v : Value) (l : List α) : Prop where
  out : (l = [] ∧ v = .slice none 0 0) ∨ (l ≠ [] ∧ v = .slice (some ⟨nb H K, 0, none⟩) l.length l.length ∧ L[K]? = some (some (.cells (l.flatMap f) m true false)))
section
variable {α : Type} {H : AHeap} {lo K k0 m : Nat} {L L' : List (Option ABlk)} {f : α → List Value} {l : List α} {v : Value}
theorem LstI.nil : LstI H L m f K (.slice none 0 0) ([] : List α) := ⟨.inl ⟨rfl, rfl⟩⟩
theorem LstI.lst (h : LstI H L m f K v l) (hk : k0 ≤ K) : Lst H L m f k0 v l := by
  rcases h.out with ⟨e1, e2⟩ | ⟨h1, h2, h3⟩
  · exact ⟨.inl ⟨e1, e2⟩⟩
  · exact ⟨.inr ⟨h1, K, hk, h2, h3⟩⟩
theorem LstI.keep (h : LstI H L m f K v l) (hk : l ≠ [] → L'[K]? = L[K]?) : LstI H L' m f K v l := by
  rcases h.out with ⟨e1, e2⟩ | ⟨h1, h2, h3⟩
  · exact ⟨.inl ⟨e1, e2⟩⟩
  · exact ⟨.inr ⟨h1, h2, by rw [hk h1]; exact h3⟩⟩
theorem LstI.lt (h : LstI H L m f K v l) (hne : l ≠ []) : K < L.length := by
  rcases h.out with ⟨e1, _⟩ | ⟨_, _, h3⟩
  · exact absurd e1 hne
  · exact (List.getElem?_eq_some_iff.1 h3).1
theorem LstI.at_ (h : LstI H L m f K v l) (hne : l ≠ []) : v = .slice (some ⟨nb H K, 0, none⟩) l.length l.length ∧ L[K]? = some (some (.cells (l.flatMap f) m true false)) := by
  rcases h.out with ⟨e1, _⟩ | ⟨_, h2, h3⟩
  · exact absurd e1 hne
  · exact ⟨h2, h3⟩
theorem LstI.slice (h : LstI H L m f K v l) (hf : ∀ x, (f x).length = m) : ∃ p, v = .slice p l.length l.length ∧ SlAt (ext H lo L) m f p l ∧ (p = none ↔ l = []) := (h.lst (Nat.zero_le _)).slice hf
end
section
variable {P : Program} {rd : Option Nat} {nt : Nat} {ops : Array Oper} {l : EL} {ds : List Nat} {K : St → Prop} {i : Nat} {r : List Oper} {o : Oper} {ty : TypeId} {pos : String} {af : Array Edge} {H : AHeap} {lo : Nat} {L : List (Option ABlk)} {α : Type} {f : α → List Value}
end
end Go.Den
