/- The symbolic layer: appends in place, blocks of the caller that are dropped or turned. -/
import Derived.Test.YtfegloadbajbhaaGreatDoorSxU
import Derived.Test.YtfegloadbajbhaaGreatDoorSxR
import Derived.Test.YtfegloadbajbhaaGreatDoorElI
noncomputable section
namespace Go.Den

section
variable {P : Program} {l : EL} {h : AHeap}
end

section
variable {H : AHeap} {lo : Nat} {L : List (Option ABlk)}
theorem kill_get {b c : Nat} (hb : own b = true) : (H.kill b).get c = if c = b then none else H.get c := AHeap.get_kill _ _ _ hb
end

section
variable {P : Program} {rd : Option Nat} {nt : Nat} {ops : Array Oper} {l : EL} {ds : List Nat} {K : St → Prop} {i : Nat} {r : List Oper} {o : Oper} {ty : TypeId} {pos : String} {af : Array Edge} {H : AHeap} {lo : Nat} {L : List (Option ABlk)}
end
end Go.Den
/- Contracts: plans, what is wrong with them. -/
noncomputable section
namespace Go.Proofs.YtfegloadbajbhaaGreatDoor
open Go Go.Den
set_option maxRecDepth 100000

/-- the days on which a team is busy -/
structure Bz where
  p : Option Addr
  c : Nat
  l : List Int
def bz (x : Bz) : List Value := [.slice x.p x.l.length x.c]
structure BzAt (H : AHeap) (q : Option Addr) (busy : List Bz) : Prop where
  at_ : SlAt H 1 bz q busy
  each : ∀ x ∈ busy, SlAt H 1 i1 x.p x.l
theorem BzAt.ext {H H' : AHeap} {q : Option Addr} {busy : List Bz} (h : BzAt H q busy) (hE : Ext H H') : BzAt H' q busy := ⟨h.at_.ext hE, fun x hx => (h.each x hx).ext hE⟩
end Go.Proofs.YtfegloadbajbhaaGreatDoor
/- Plans: the plain law.  A search for days in lexicographic order; of more dates than there are matches the later ones are never needed. -/
noncomputable section
namespace Go.Den.Plan

/-- the search: f matches are left; C out d tells that the day d clashes with the days so far -/
def ext (D : Nat → List Int) (C : List Int → Int → Bool) : Nat → List Int → Option (List Int)
  | 0, out => some out
  | f + 1, out => (D out.length).findSome? fun d => if C out d = true then none else ext D C f (out ++ [d])

structure Valid (D : Nat → List Int) (M : Nat → Nat → Bool) (sol : List Int) : Prop where
  day : ∀ (i : Nat) d, sol[i]? = some d → d ∈ D i
  apart : ∀ (i k : Nat) d, k < i → sol[i]? = some d → sol[k]? = some d → M i k = false

section
variable {D D' : Nat → List Int} {M : Nat → Nat → Bool}

theorem Valid.nil : Valid D M [] := ⟨fun i d h => by simp at h, fun i k d _ h => by simp at h⟩
theorem Valid.take {sol : List Int} (h : Valid D M sol) (n : Nat) : Valid D M (sol.take n) := by
  have key : ∀ (i : Nat) d, (sol.take n)[i]? = some d → sol[i]? = some d := fun i d hi => by
    rw [List.getElem?_take] at hi
    split at hi
    · exact hi
    · cases hi
  exact ⟨fun i d hi => h.day i d (key i d hi), fun i k d hk h1 h2 => h.apart i k d hk (key i d h1) (key k d h2)⟩
theorem Valid.other {sol : List Int} {i : Nat} {x : Int} (h : Valid D M sol) (hx : x ∈ D i) (hn : ∀ k, k ≠ i → sol[k]? ≠ some x) : Valid D M (sol.set i x) := by
  have look : ∀ (j : Nat) d, (sol.set i x)[j]? = some d → (j = i ∧ d = x) ∨ (j ≠ i ∧ sol[j]? = some d) := fun j d hj => by
    by_cases e : j = i
    · subst e
      have hl := (List.getElem?_eq_some_iff.1 hj).1
      rw [List.length_set] at hl
      rw [List.getElem?_set_self hl] at hj
      cases hj; exact .inl ⟨rfl, rfl⟩
    · rw [List.getElem?_set_ne (fun e' => e e'.symm)] at hj
      exact .inr ⟨e, hj⟩
  refine ⟨fun j d hj => ?_, fun j k d hk h1 h2 => ?_⟩
  · rcases look j d hj with ⟨rfl, rfl⟩ | ⟨_, hj⟩
    · exact hx
    · exact h.day j d hj
  · rcases look j d h1 with ⟨rfl, rfl⟩ | ⟨n1, g1⟩
    · rcases look k d h2 with ⟨rfl, _⟩ | ⟨n2, h2⟩
      · omega
      · exact absurd h2 (hn k n2)
    · rcases look k d h2 with ⟨rfl, rfl⟩ | ⟨n2, h2⟩
      · exact absurd g1 (hn j n1)
      · exact h.apart j k d hk g1 h2
end
end Go.Den.Plan
/- Contracts: the reference's search for days. -/
noncomputable section
namespace Go.Proofs.YtfegloadbajbhaaGreatDoor
open Go Go.Den
set_option maxRecDepth 100000

theorem flat_i1_map : ∀ l : List Int, l.flatMap i1 = l.map I
  | [] => rfl
  | a :: r => by simp only [List.flatMap_cons, flat_i1_map r, List.map_cons]; rfl
end Go.Proofs.YtfegloadbajbhaaGreatDoor
