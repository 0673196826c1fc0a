/- Contracts: the program's fixtures and the double ones; the reference's double ones. -/
import Derived.Test.YtfjihdlpohljbaaGreatBgE
import Derived.Test.YtfjihdlpohljbaaGreatPnH
import Derived.Test.YtfjihdlpohljbaaGreatSxK
noncomputable section
namespace Go.Proofs.YtfjihdlpohljbaaGreat
open Go Go.Den
set_option maxRecDepth 100000

/-! ### the double ones, run for each number of teams on top of it -/
theorem lies_nil {H : AHeap} : Lies H [] [] := ⟨rfl, by simp, .nil, fun k x h => by simp at h⟩
end Go.Proofs.YtfjihdlpohljbaaGreat
/- LeagueDays: the plain law. -/
noncomputable section
namespace Go.Den.Plan
section
variable {D D' : Nat → List Int} {M M' : Nat → Nat → Bool}
theorem Valid.swap {sol : List Int} {i : Nat} {x : Int} (h : Valid D M sol) (hx : x ∈ D i) (hn : ∀ k, k ≠ i → sol[k]? = some x → M i k = false ∧ M k i = false) : Valid D M (sol.set i x) := by
  have look : ∀ (j : Nat) d, (sol.set i x)[j]? = some d → (j = i ∧ d = x) ∨ (j ≠ i ∧ sol[j]? = some d) := fun j d hj => by
    by_cases e : j = i
    · subst e
      have hl := (List.getElem?_eq_some_iff.1 hj).1
      rw [List.length_set] at hl
      rw [List.getElem?_set_self hl] at hj
      cases hj; exact .inl ⟨rfl, rfl⟩
    · rw [List.getElem?_set_ne (fun e' => e e'.symm)] at hj
      exact .inr ⟨e, hj⟩
  refine ⟨fun j d hj => ?_, fun j k d hk h1 h2 => ?_⟩
  · rcases look j d hj with ⟨rfl, rfl⟩ | ⟨_, hj⟩
    · exact hx
    · exact h.day j d hj
  · rcases look j d h1 with ⟨rfl, rfl⟩ | ⟨n1, g1⟩
    · rcases look k d h2 with ⟨rfl, _⟩ | ⟨n2, h2⟩
      · omega
      · exact (hn k n2 h2).1
    · rcases look k d h2 with ⟨rfl, rfl⟩ | ⟨n2, h2⟩
      · exact (hn j n1 g1).2
      · exact h.apart j k d hk g1 h2
theorem Valid.into {sol : List Int} (h : Valid D M sol) (hD : ∀ i, i < sol.length → ∀ d ∈ D i, d ∈ D' i) (hM : ∀ i k, i < sol.length → k < i → M' i k = M i k) : Valid D' M' sol :=
  ⟨fun i d hd => hD i (List.getElem?_eq_some_iff.1 hd).1 d (h.day i d hd), fun i k d hk h1 h2 => by rw [hM i k (List.getElem?_eq_some_iff.1 h1).1 hk]; exact h.apart i k d hk h1 h2⟩
end
end Go.Den.Plan
namespace Go.Proofs.YtfjihdlpohljbaaGreat
open Go Go.Den
set_option maxRecDepth 100000

section
variable {m : List (Int × Int)} {busy : List Bz} {frm to : Int} {sol : List Int} {D : Nat → List Int}
end
end Go.Proofs.YtfjihdlpohljbaaGreat
