/- Plain law: all pairs met are counted. -/
import Derived.Test.YtiggikjbknoohaaGreatDoorFnH
noncomputable section
namespace Go.Proofs.YtiggikjbknoohaaGreatDoor
open Go Go.Den

theorem nodup_len {α : Type} [DecidableEq α] : ∀ {k m : List α}, k.Nodup → (∀ x ∈ k, x ∈ m) → k.length ≤ m.length
  | [], _, _, _ => by simp
  | a :: r, m, hn, hs => by
    rw [List.nodup_cons] at hn
    have ha := hs a (List.mem_cons_self ..)
    have := nodup_len (k := r) (m := m.erase a) hn.2 (fun x hx => (List.mem_erase_of_ne (fun e => hn.1 (by rw [← e]; exact hx))).2 (hs x (List.mem_cons_of_mem _ hx)))
    rw [List.length_erase_of_mem ha] at this
    have := List.length_pos_of_mem ha
    simp only [List.length_cons]
    omega
theorem nodup_full {α : Type} [DecidableEq α] {k m : List α} (hn : k.Nodup) (hm : m.Nodup) (hs : ∀ x ∈ k, x ∈ m) : k.length < m.length ↔ ∃ x ∈ m, x ∉ k := by
  constructor
  · intro h
    by_cases hh : ∃ x ∈ m, x ∉ k
    · exact hh
    · have : ∀ x ∈ m, x ∈ k := fun x hx => by
        by_cases hk : x ∈ k
        · exact hk
        · exact absurd ⟨x, hx, hk⟩ hh
      have := nodup_len hm this
      omega
  · rintro ⟨x, hx, hk⟩
    have := nodup_len (k := x :: k) (m := m) (List.nodup_cons.2 ⟨hk, hn⟩) (fun y hy => by
      rcases List.mem_cons.1 hy with rfl | h
      · exact hx
      · exact hs y h)
    simp only [List.length_cons] at this
    omega

theorem mem_addK {α : Type} [DecidableEq α] {k : List α} {a x : α} : x ∈ addK k a ↔ x ∈ k ∨ x = a := by
  unfold addK
  split
  · rename_i h
    constructor
    · exact .inl
    · rintro (h' | rfl)
      · exact h'
      · exact h
  · simp
theorem nodup_addK {α : Type} [DecidableEq α] {k : List α} {a : α} (h : k.Nodup) : (addK k a).Nodup := by
  unfold addK
  split
  · exact h
  · rename_i hn
    rw [List.nodup_append]
    refine ⟨h, by simp, fun x hx y hy => ?_⟩
    rw [List.mem_singleton] at hy
    subst hy
    intro e; subst e; exact hn hx

theorem metK_fold (l : List Fx) : ∀ (k : List (Int × Int)), k.Nodup → (l.foldl (fun k x => addK (addK k (x.home, x.away)) (x.away, x.home)) k).Nodup ∧ ∀ p, p ∈ l.foldl (fun k x => addK (addK k (x.home, x.away)) (x.away, x.home)) k ↔ p ∈ k ∨ ∃ x ∈ l, p = (x.home, x.away) ∨ p = (x.away, x.home) := by
  induction l with
  | nil => intro k hk; simp [hk]
  | cons a r ih =>
    intro k hk
    obtain ⟨h1, h2⟩ := ih _ (nodup_addK (a := (a.away, a.home)) (nodup_addK (a := (a.home, a.away)) hk))
    refine ⟨h1, fun p => ?_⟩
    rw [List.foldl_cons, h2 p, mem_addK, mem_addK]
    constructor
    · rintro (((h | h) | h) | ⟨x, hx, h⟩)
      · exact .inl h
      · exact .inr ⟨a, List.mem_cons_self .., .inl h⟩
      · exact .inr ⟨a, List.mem_cons_self .., .inr h⟩
      · exact .inr ⟨x, List.mem_cons_of_mem _ hx, h⟩
    · rintro (h | ⟨x, hx, h⟩)
      · exact .inl (.inl (.inl h))
      · rcases List.mem_cons.1 hx with rfl | hx
        · rcases h with h | h
          · exact .inl (.inl (.inr h))
          · exact .inl (.inr h)
        · exact .inr ⟨x, hx, h⟩
theorem metK_nodup (l : List Fx) : (metK l).Nodup := (metK_fold l [] .nil).1
theorem metK_mem (l : List Fx) (p : Int × Int) : p ∈ metK l ↔ ∃ x ∈ l, p = (x.home, x.away) ∨ p = (x.away, x.home) := by
  have := (metK_fold l [] .nil).2 p
  simpa [metK] using this

/-- all pairs of different teams -/
def allP (n : Nat) : List (Int × Int) := (List.range n).flatMap fun (i : Nat) => ((List.range n).filter (fun j => decide (j ≠ i))).map fun (j : Nat) => ((i : Int), (j : Int))
theorem allP_mem {n : Nat} {p : Int × Int} : p ∈ allP n ↔ (0 ≤ p.1 ∧ p.1 < n) ∧ (0 ≤ p.2 ∧ p.2 < n) ∧ p.1 ≠ p.2 := by
  simp only [allP, List.mem_flatMap, List.mem_map, List.mem_filter, List.mem_range, decide_eq_true_eq]
  constructor
  · rintro ⟨i, hi, j, ⟨hj, hne⟩, rfl⟩
    simp only
    omega
  · rintro ⟨h1, h2, h3⟩
    refine ⟨p.1.toNat, by omega, p.2.toNat, ⟨by omega, by omega⟩, ?_⟩
    rw [Int.toNat_of_nonneg h1.1, Int.toNat_of_nonneg h2.1]
theorem allP_nodup (n : Nat) : (allP n).Nodup := by
  unfold allP List.Nodup
  rw [List.pairwise_flatMap]
  refine ⟨fun i _ => ?_, ?_⟩
  · rw [List.pairwise_map]
    refine (List.Pairwise.filter _ List.nodup_range).imp fun h e => h ?_
    simp only [Prod.mk.injEq, true_and] at e
    omega
  · refine List.nodup_range.imp fun h x hx y hy e => h ?_
    obtain ⟨_, _, rfl⟩ := List.mem_map.1 hx
    obtain ⟨_, _, rfl⟩ := List.mem_map.1 hy
    simp only [Prod.mk.injEq] at e
    omega
theorem allP_len : ∀ n : Fin 25, (allP n.val).length = n.val * (n.val - 1) := by decide +kernel

theorem met_law {n : Nat} {l : List Fx} (hn : n ≤ 24) (hl : ∀ x ∈ l, (0 ≤ x.home ∧ x.home < n) ∧ (0 ≤ x.away ∧ x.away < n) ∧ x.home ≠ x.away) :
    decide (((metK l).length : Int) < (n : Int) * ((n : Int) - 1)) = decide (¬ ∀ i, i < n → ∀ j, j < i → metB l (i : Nat) (j : Nat) = true) := by
  have ha := allP_nodup n
  have hc := allP_len ⟨n, by omega⟩
  simp only at hc
  have hsub : ∀ p ∈ metK l, p ∈ allP n := by
    intro p hp
    obtain ⟨x, hx, h⟩ := (metK_mem l p).1 hp
    obtain ⟨h1, h2, h3⟩ := hl x hx
    rcases h with rfl | rfl
    · exact allP_mem.2 ⟨h1, h2, h3⟩
    · exact allP_mem.2 ⟨h2, h1, fun e => h3 e.symm⟩
  have hf := nodup_full (metK_nodup l) ha hsub
  have e : (n : Int) * ((n : Int) - 1) = ((n * (n - 1) : Nat) : Int) := by
    cases n with
    | zero => rfl
    | succ m => push_cast; simp
  rw [e, decide_eq_decide, Int.ofNat_lt, ← hc, hf]
  have hmet : ∀ a b : Int, metB l a b = true ↔ (a, b) ∈ metK l := by
    intro a b
    rw [metK_mem]
    simp only [metB, List.any_eq_true, Bool.or_eq_true, Bool.and_eq_true, beq_iff_eq, Prod.mk.injEq]
    constructor
    · rintro ⟨x, hx, h | h⟩
      · exact ⟨x, hx, .inl ⟨h.1.symm, h.2.symm⟩⟩
      · exact ⟨x, hx, .inr ⟨h.2.symm, h.1.symm⟩⟩
    · rintro ⟨x, hx, h | h⟩
      · exact ⟨x, hx, .inl ⟨h.1.symm, h.2.symm⟩⟩
      · exact ⟨x, hx, .inr ⟨h.2.symm, h.1.symm⟩⟩
  have hsym : ∀ a b : Int, (a, b) ∈ metK l → (b, a) ∈ metK l := by
    intro a b h
    obtain ⟨x, hx, h⟩ := (metK_mem l _).1 h
    refine (metK_mem l _).2 ⟨x, hx, ?_⟩
    simp only [Prod.mk.injEq] at h ⊢
    rcases h with h | h
    · exact .inr ⟨h.2, h.1⟩
    · exact .inl ⟨h.2, h.1⟩
  constructor
  · rintro ⟨p, hp, hk⟩ hall
    obtain ⟨a, b⟩ := p
    obtain ⟨h1, h2, h3⟩ := allP_mem.1 hp
    simp only at h1 h2 h3
    rcases Int.lt_or_gt_of_ne h3 with h | h
    · have := (hmet _ _).1 (hall b.toNat (by omega) a.toNat (by omega))
      rw [Int.toNat_of_nonneg h1.1, Int.toNat_of_nonneg h2.1] at this
      exact hk (hsym _ _ this)
    · have := (hmet _ _).1 (hall a.toNat (by omega) b.toNat (by omega))
      rw [Int.toNat_of_nonneg h1.1, Int.toNat_of_nonneg h2.1] at this
      exact hk this
  · intro h
    by_cases hh : ∃ x ∈ allP n, x ∉ metK l
    · exact hh
    · exfalso
      apply h
      intro i hi j hj
      rw [hmet]
      by_cases hk : (((i : Nat) : Int), ((j : Nat) : Int)) ∈ metK l
      · exact hk
      · exact absurd ⟨_, allP_mem.2 ⟨by simp only; omega, by simp only; omega, by simp only; omega⟩, hk⟩ hh
