/- Plain law: a list without neighbours that are alike. -/
import Derived.Test.YtfegloadbajbhaaGreatDoorShC
import Derived.Test.YtfegloadbajbhaaGreatDoorFnL
import Derived.Test.YtfegloadbajbhaaGreatDoorSxK
import Derived.Test.YtfegloadbajbhaaGreatDoorStB
import Derived.Test.YtfegloadbajbhaaGreatDoorSxY
noncomputable section
namespace Go.Proofs.YtfegloadbajbhaaGreatDoor
open Go Go.Den Go.Sort

theorem compact_get {α : Type} [Inhabited α] [DecidableEq α] {l : List α} {i : Nat} (h : i < l.length) : l.toArray[i]! = l[i] := by
  simp [getElem!_pos, h]
theorem compact_mem {α : Type} [Inhabited α] [DecidableEq α] {l : List α} {x : α} : x ∈ Lib.compact l ↔ x ∈ l := by
  unfold Lib.compact Lib.compactUpTo
  rw [List.mem_map]
  constructor
  · rintro ⟨i, hi, rfl⟩
    have hi := List.mem_range.1 (List.mem_filter.1 hi).1
    rw [compact_get hi]; exact List.getElem_mem hi
  · intro hx
    obtain ⟨j, hj, e⟩ := List.getElem_of_mem hx
    have key : ∀ n j (hj : j < l.length), j ≤ n → l[j] = x → ∃ a, a ∈ (List.range l.length).filter (Lib.keeps l.toArray) ∧ l.toArray[a]! = x := by
      intro n
      induction n with
      | zero =>
        intro j hj hn e
        refine ⟨j, List.mem_filter.2 ⟨List.mem_range.2 hj, Lib.keeps_lt_one _ _ (by omega)⟩, by rw [compact_get hj]; exact e⟩
      | succ n ih =>
        intro j hj hn e
        by_cases h0 : j = 0
        · exact ih j hj (by omega) e
        by_cases h1 : l[j - 1]'(by omega) = x
        · exact ih (j - 1) (by omega) (by omega) h1
        · refine ⟨j, List.mem_filter.2 ⟨List.mem_range.2 hj, Lib.keeps_pos ?_⟩, by rw [compact_get hj]; exact e⟩
          rw [compact_get hj, compact_get (by omega), e]
          exact fun h => h1 h.symm
    exact key j j hj (Nat.le_refl _) e
theorem compact_srt {α : Type} [Inhabited α] [DecidableEq α] {R : α → α → Prop} (an : ∀ a b, R a b → R b a → a = b) (rf : ∀ a, R a a) {l : List α} (h : l.Pairwise R) : (Lib.compact l).Pairwise fun a b => R a b ∧ a ≠ b := by
  unfold Lib.compact Lib.compactUpTo
  rw [List.pairwise_map]
  have h0 : ((List.range l.length).filter (Lib.keeps l.toArray)).Pairwise (· < ·) := List.Pairwise.filter _ List.pairwise_lt_range
  have get : ∀ i j (hi : i < l.length) (hj : j < l.length), i ≤ j → R l[i] l[j] := by
    intro i j hi hj hij
    rcases Nat.lt_or_ge i j with h1 | h1
    · exact List.pairwise_iff_getElem.1 h i j hi hj h1
    · obtain rfl : i = j := by omega
      exact rf _
  refine h0.imp_of_mem fun {i j} hi hj hij => ?_
  have hj1 := List.mem_range.1 (List.mem_filter.1 hj).1
  have hk := (List.mem_filter.1 hj).2
  rw [compact_get (by omega), compact_get hj1]
  refine ⟨get i j (by omega) hj1 (by omega), fun e => ?_⟩
  have e1 : l[j - 1]'(by omega) = l[j] := by
    refine an _ _ (get _ _ _ _ (by omega)) ?_
    rw [← e]
    exact get i (j - 1) (by omega) (by omega) (by omega)
  have := Lib.keeps_neg (d := l.toArray) (m := j) (by omega) (by rw [compact_get hj1, compact_get (by omega)]; exact e1.symm)
  rw [this] at hk; cases hk
end Go.Proofs.YtfegloadbajbhaaGreatDoor
/- Contracts: a round, as the program yields it. -/
noncomputable section
namespace Go.Proofs.YtfegloadbajbhaaGreatDoor
open Go Go.Den
set_option maxRecDepth 100000

theorem low_ext {h : AHeap} {lo : Nat} {M : List (Option ABlk)} : (ext h lo M).low ≤ (ext h lo M).fresh := by
  have : (ext h lo M).low = min lo h.fresh := rfl
  have : (ext h lo M).fresh = nb h M.length := ext_fresh
  have := nb_ge (H := h) M.length
  omega
end Go.Proofs.YtfegloadbajbhaaGreatDoor
