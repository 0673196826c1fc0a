/- HallOpens: the plain law. -/
import Derived.Test.YtfjihdlpohljbaaGreatNqO
noncomputable section
namespace Go.Proofs.YtfjihdlpohljbaaGreat
open Go Go.Den
structure OpsIn (t : List Tb) (l : List Bk) (b : Bk) : Prop where
  tl : t.length ≤ 4
  ll : l.length ≤ 8
  both : bothE t l = 0
  book : booksE [b] = 0
  to_ : b.to ≤ 60
  kind : cntK t b.kind ≠ 0
section
variable {t : List Tb} {l : List Bk} {b : Bk}
theorem OpsIn.bk (h : OpsIn t l b) : BkOk b := bookE_ok (by have := h.book; rwa [books_one] at this)
theorem firstL_z {l : List Int} (h : ∀ x ∈ l, x = 0) : firstL l = 0 := firstL_none fun j hj => h _ (List.getElem_mem hj)
end
structure FrI (F : List Bool) (o : List Spn) : Prop where
  len : F.length = 61
  iff : ∀ n (h : n < F.length), F[n] = true ↔ OpCov o (n : Int)
theorem FrI.zero : FrI (List.replicate 61 false) [] := ⟨by simp, fun n h => by
  rw [List.getElem_replicate]
  exact ⟨fun e => (by cases e), fun ⟨s, hs, _⟩ => (by cases hs)⟩⟩
structure FrJ (F : List Bool) (o : List Spn) (s : Spn) (n : Nat) : Prop where
  len : F.length = 61
  lo : s.1 ≤ n
  hi : (n : Int) ≤ s.2
  iff : ∀ m (h : m < F.length), F[m] = true ↔ OpCov o (m : Int) ∨ (s.1 ≤ m ∧ m < n)
theorem FrI.start {F : List Bool} {o : List Spn} {s : Spn} {n : Nat} (h : FrI F o) (e : s.1 = n) (hlt : s.1 < s.2) : FrJ F o s n :=
  ⟨h.len, by omega, by omega, fun m hm => by
    rw [h.iff m hm]
    exact ⟨.inl, fun h => h.elim id fun h => by omega⟩⟩
theorem FrJ.step {F : List Bool} {o : List Spn} {s : Spn} {n : Nat} (h : FrJ F o s n) (hn : n ≤ 60) (hlt : (n : Int) < s.2) : FrJ (F.set n true) o s (n + 1) := by
  refine ⟨by rw [List.length_set]; exact h.len, by have := h.lo; omega, by omega, fun m hm => ?_⟩
  rw [List.length_set] at hm
  rw [List.getElem_set]
  by_cases e : n = m
  · subst e
    rw [if_pos rfl]
    exact ⟨fun _ => .inr ⟨h.lo, by omega⟩, fun _ => rfl⟩
  · rw [if_neg e, h.iff m hm]
    constructor
    · rintro (h1 | ⟨h1, h2⟩)
      · exact .inl h1
      · exact .inr ⟨h1, by omega⟩
    · rintro (h1 | ⟨h1, h2⟩)
      · exact .inl h1
      · exact .inr ⟨h1, by omega⟩
theorem FrJ.done {F : List Bool} {o : List Spn} {s : Spn} {n : Nat} (h : FrJ F o s n) (hx : ¬ ((n : Int) < s.2 ∧ n ≤ 60)) : FrI F (o ++ [s]) :=
  ⟨h.len, fun m hm => by
    rw [h.iff m hm, cov_app, cov_one]
    have h1 := h.hi
    have h2 := h.len
    constructor
    · rintro (h3 | ⟨h3, h4⟩)
      · exact .inl h3
      · exact .inr ⟨h3, by omega⟩
    · rintro (h3 | ⟨h3, h4⟩)
      · exact .inl h3
      · exact .inr ⟨h3, by omega⟩⟩
theorem FrI.opF {F : List Bool} {o : List Spn} {f : Int → Bool} (h : FrI F o) (ho : OpI f 99999 o) {n : Nat} (hn : n < F.length) : F[n] = f n := by
  have h1 := h.len
  have h2 := (h.iff n hn).trans (ho.cov n)
  cases e : f n
  · rw [e] at h2
    cases e2 : F[n]
    · rfl
    · exact absurd (h2.1 e2).2.2 (by simp)
  · exact h2.2 ⟨by omega, by omega, e⟩
end Go.Proofs.YtfjihdlpohljbaaGreat
