/- Plain law: all pairs met are counted. -/
import Derived.Test.YtiggikjbknoohaaGreatDoorFnH
noncomputable section
namespace Go.Proofs.YtiggikjbknoohaaGreatDoor
open Go Go.Den

theorem nodup_len {α : Type} [DecidableEq α] : ∀ {k m : List α}, k.Nodup → (∀ x ∈ k, x ∈ m) → k.length ≤ m.length
  | [], _, _, _ => by simp
  | a :: r, m, hn, hs => by
    rw [List.nodup_cons] at hn
    have ha := hs a (List.mem_cons_self ..)
    have := nodup_len (k := r) (m := m.erase a) hn.2 (fun x hx => (List.mem_erase_of_ne (fun e => hn.1 (by rw [← e]; exact hx))).2 (hs x (List.mem_cons_of_mem _ hx)))
    rw [List.length_erase_of_mem ha] at this
    have := List.length_pos_of_mem ha
    simp only [List.length_cons]
    omega
theorem mem_addK {α : Type} [DecidableEq α] {k : List α} {a x : α} : x ∈ addK k a ↔ x ∈ k ∨ x = a := by
  unfold addK
  split
  · rename_i h
    constructor
    · exact .inl
    · rintro (h' | rfl)
      · exact h'
      · exact h
  · simp
theorem nodup_addK {α : Type} [DecidableEq α] {k : List α} {a : α} (h : k.Nodup) : (addK k a).Nodup := by
  unfold addK
  split
  · exact h
  · rename_i hn
    rw [List.nodup_append]
    refine ⟨h, by simp, fun x hx y hy => ?_⟩
    rw [List.mem_singleton] at hy
    subst hy
    intro e; subst e; exact hn hx

theorem metK_fold (l : List Fx) : ∀ (k : List (Int × Int)), k.Nodup → (l.foldl (fun k x => addK (addK k (x.home, x.away)) (x.away, x.home)) k).Nodup ∧ ∀ p, p ∈ l.foldl (fun k x => addK (addK k (x.home, x.away)) (x.away, x.home)) k ↔ p ∈ k ∨ ∃ x ∈ l, p = (x.home, x.away) ∨ p = (x.away, x.home) := by
  induction l with
  | nil => intro k hk; simp [hk]
  | cons a r ih =>
    intro k hk
    obtain ⟨h1, h2⟩ := ih _ (nodup_addK (a := (a.away, a.home)) (nodup_addK (a := (a.home, a.away)) hk))
    refine ⟨h1, fun p => ?_⟩
    rw [List.foldl_cons, h2 p, mem_addK, mem_addK]
    constructor
    · rintro (((h | h) | h) | ⟨x, hx, h⟩)
      · exact .inl h
      · exact .inr ⟨a, List.mem_cons_self .., .inl h⟩
      · exact .inr ⟨a, List.mem_cons_self .., .inr h⟩
      · exact .inr ⟨x, List.mem_cons_of_mem _ hx, h⟩
    · rintro (h | ⟨x, hx, h⟩)
      · exact .inl (.inl (.inl h))
      · rcases List.mem_cons.1 hx with rfl | hx
        · rcases h with h | h
          · exact .inl (.inl (.inr h))
          · exact .inl (.inr h)
        · exact .inr ⟨x, hx, h⟩
theorem metK_nodup (l : List Fx) : (metK l).Nodup := (metK_fold l [] .nil).1
theorem metK_mem (l : List Fx) (p : Int × Int) : p ∈ metK l ↔ ∃ x ∈ l, p = (x.home, x.away) ∨ p = (x.away, x.home) := by
  have := (metK_fold l [] .nil).2 p
  simpa [metK] using this
