/- Contracts: openings, as the reference has them. -/
import Derived.Test.YtfegloadbajbhaaGreatDoorOpnL
import Derived.Test.YtfegloadbajbhaaGreatDoorHkC
import Derived.Test.YtfegloadbajbhaaGreatDoorSxW
import Derived.Test.YtfegloadbajbhaaGreatDoorStA
noncomputable section
namespace Go.Den
section
variable {P : Program} {rd : Option Nat} {nt : Nat} {ops : Array Oper} {l : EL} {ds : List Nat} {i : Nat} {ty : TypeId} {pos : String} {af : Array Edge} {H : AHeap} {lo : Nat} {L : List (Option ABlk)} {α : Type} {E : α → EL} {hh : α → AHeap} {J : α → Prop}
end
end Go.Den
namespace Go.Proofs.YtfegloadbajbhaaGreatDoor
open Go Go.Den
set_option maxRecDepth 100000
theorem asc_len {a : Int} : ∀ {o : List Spn} {lo : Int}, OpAsc o → (∀ s ∈ o, lo ≤ s.1 ∧ s.2 ≤ a) → lo ≤ a → (o.length : Int) ≤ a - lo
  | [], _, _, _, h => by simp; omega
  | s :: o, lo, h, hs, hl => by
    obtain ⟨h', ht⟩ := h.tail
    have h1 := hs s (by simp)
    have h2 := h.pos s (by simp)
    have := asc_len (lo := s.2) h' (fun u hu => ⟨by have := ht u hu; omega, (hs u (List.mem_cons_of_mem _ hu)).2⟩) h1.2
    rw [List.length_cons]
    omega
theorem OpI.len {f : Int → Bool} {a : Int} {o : List Spn} (h : OpI f a o) (h0 : 0 ≤ a) : (o.length : Int) ≤ a := by
  have := asc_len (lo := 0) h.asc (fun s hs => h.lo s hs) h0
  omega
theorem snoc_last {o p p' : List Spn} {s s' : Spn} (h : o = p ++ [s]) (h' : o = p' ++ [s']) : s = s' := by
  rw [h] at h'
  have := List.append_inj' h' rfl
  simpa using this.2
theorem set_last {o p : List Spn} {s x : Spn} {i : Nat} (h : o = p ++ [s]) (hi : i = p.length) : o.set i x = p ++ [x] := by
  subst h; subst hi; simp
end Go.Proofs.YtfegloadbajbhaaGreatDoor
