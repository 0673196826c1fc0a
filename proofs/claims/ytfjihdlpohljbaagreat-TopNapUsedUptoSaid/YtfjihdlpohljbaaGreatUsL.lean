/- Plain law: the uses of tables (TopNapUsed). -/
import Derived.Test.YtfjihdlpohljbaaGreatWoC
import Derived.Test.YtfjihdlpohljbaaGreatEitM
noncomputable section
namespace Go.Proofs.YtfjihdlpohljbaaGreat
open Go Go.Den
set_option maxRecDepth 100000
/-! ### uses are sums over the own bookings -/
def sumB (l : List Bk) : Int := (l.map lenB).sum
theorem sumB_app {l m : List Bk} : sumB (l ++ m) = sumB l + sumB m := by unfold sumB; rw [List.map_append, List.sum_append]
theorem useI_own {n : Nat} {l : List Bk} {A : List Int} (hA : ∀ (j : Nat) (h : j < A.length), 0 ≤ A[j]) (hl : l.length = A.length) : ∀ i, i ≤ l.length → ∀ k (h : k < n), (useI n l A i)[k]'(by rw [useI_len]; exact h) = sumB (ownB l A k i)
  | 0, _, k, h => by simp [useI, ownB, sumB]
  | i + 1, hi, k, h => by
    have ih := useI_own (n := n) hA hl i (by omega)
    have h1 : i < l.length := by omega
    have h2 : i < A.length := by omega
    have e1 := useI_succ (n := n) h1 h2
    have e2 := ownB_succ (A := A) (n := k) h1
    rw [List.getElem?_eq_getElem h2] at e2
    have hn : A[i].toNat < n → (useI n l A i)[A[i].toNat]?.getD 0 = sumB (ownB l A A[i].toNat i) := fun hk => by
      rw [List.getElem?_eq_getElem (by rw [useI_len]; exact hk), Option.getD_some]
      exact ih _ hk
    have e3 : (useI n l A (i + 1))[k]'(by rw [useI_len]; exact h) = (useS (useI n l A i) A[i] l[i])[k]'(by unfold useS; rw [List.length_set, useI_len]; exact h) := by simp only [e1]
    rw [e3, e2]
    unfold useS
    rw [List.getElem_set]
    by_cases e : A[i].toNat = k
    · have e4 : A[i] = (k : Int) := by have := hA i h2; omega
      rw [if_pos e, if_pos (by rw [e4]), sumB_app, hn (by omega), e]
      simp [sumB]
    · rw [if_neg e, if_neg (by intro e5; have := Option.some.inj e5; omega)]
      exact ih k h
/-! ### the bookings of one table -/
theorem ownB_iff {l : List Bk} {A : List Int} {n : Nat} {x : Bk} : ∀ i, i ≤ l.length → (x ∈ ownB l A n i ↔ ∃ j, ∃ h : j < l.length, j < i ∧ A[j]? = some (n : Int) ∧ l[j] = x)
  | 0, _ => by simp [ownB]
  | i + 1, hi => by
    have h1 : i < l.length := by omega
    have ih := ownB_iff (l := l) (A := A) (n := n) (x := x) i (by omega)
    rw [ownB_succ h1]
    by_cases e : A[i]? = some (n : Int)
    · rw [if_pos e, List.mem_append, ih, List.mem_singleton]
      constructor
      · rintro (⟨j, h, g1, g2, g3⟩ | rfl)
        · exact ⟨j, h, by omega, g2, g3⟩
        · exact ⟨i, h1, by omega, e, rfl⟩
      · rintro ⟨j, h, g1, g2, g3⟩
        by_cases ej : j = i
        · subst ej; exact .inr g3.symm
        · exact .inl ⟨j, h, by omega, g2, g3⟩
    · rw [if_neg e, ih]
      constructor
      · rintro ⟨j, h, g1, g2, g3⟩
        exact ⟨j, h, by omega, g2, g3⟩
      · rintro ⟨j, h, g1, g2, g3⟩
        have : j ≠ i := by rintro rfl; exact e g2
        exact ⟨j, h, by omega, g2, g3⟩
/-- two bookings of a table do not meet -/
theorem ownB_sep {l : List Bk} {A : List Int} {n : Nat} (hs : ∀ i k (h : i < l.length) (h2 : k < i), A[i]? = some (n : Int) → A[k]? = some (n : Int) → meetB l[i] (l[k]'(by omega)) = false) : ∀ i, i ≤ l.length → (ownB l A n i).Pairwise fun a b => meetB b a = false
  | 0, _ => .nil
  | i + 1, hi => by
    have h1 : i < l.length := by omega
    have ih := ownB_sep hs i (by omega)
    rw [ownB_succ h1]
    by_cases e : A[i]? = some (n : Int)
    · rw [if_pos e]
      refine List.pairwise_append.2 ⟨ih, List.pairwise_singleton .., fun a ha b hb => ?_⟩
      rw [List.mem_singleton.1 hb]
      obtain ⟨j, h, g1, g2, rfl⟩ := (ownB_iff i (by omega)).1 ha
      exact hs i j h1 g1 e g2
    · rw [if_neg e]; exact ih
/-! ### when a table is worn -/
/-- bookings one after another -/
def Seq (l : List Bk) : Prop := l.Pairwise fun a b => a.to ≤ b.frm
theorem worn_one {x : Bk} {r : List Bk} (h : x.frm < x.to) : wornL (x :: r) 1 = x.frm := by
  have h1 : (1 : Int) ≤ lenB x := by unfold lenB; omega
  rw [show wornL (x :: r) 1 = if 1 ≤ lenB x then x.frm + 1 - 1 else wornL r (1 - lenB x) from rfl, if_pos h1]; omega
theorem worn_all : ∀ {l : List Bk} (hne : l ≠ []), (∀ x ∈ l, x.frm < x.to) → wornL l (sumB l) = (l.getLast hne).to - 1
  | [x], _, h => by
    have h0 := h x (by simp)
    have e : sumB [x] = lenB x := by simp [sumB]
    rw [e, show wornL [x] (lenB x) = if lenB x ≤ lenB x then x.frm + lenB x - 1 else wornL [] (lenB x - lenB x) from rfl, if_pos (Int.le_refl _)]
    unfold lenB
    simp only [List.getLast_singleton]; omega
  | x :: y :: r, _, h => by
    have hy : ∀ z ∈ y :: r, z.frm < z.to := fun z hz => h z (List.mem_cons_of_mem _ hz)
    have hp : ∀ l : List Bk, (∀ z ∈ l, z.frm < z.to) → 0 ≤ sumB l := fun l hl => by
      induction l with
      | nil => simp [sumB]
      | cons z l ih =>
        have h1 := ih fun u hu => hl u (List.mem_cons_of_mem _ hu)
        have h2 := hl z (by simp)
        have e : sumB (z :: l) = lenB z + sumB l := by simp [sumB]
        rw [e]; unfold lenB; omega
    have e : sumB (x :: y :: r) = lenB x + sumB (y :: r) := by simp [sumB]
    have e2 : sumB (y :: r) = lenB y + sumB r := by simp [sumB]
    have h1 := hp r fun u hu => hy u (List.mem_cons_of_mem _ hu)
    have h2 : 0 < lenB y := by have := hy y (by simp); unfold lenB; omega
    rw [e, show wornL (x :: y :: r) (lenB x + sumB (y :: r)) = if lenB x + sumB (y :: r) ≤ lenB x then x.frm + (lenB x + sumB (y :: r)) - 1 else wornL (y :: r) (lenB x + sumB (y :: r) - lenB x) from rfl, if_neg (by omega)]
    have e3 : lenB x + sumB (y :: r) - lenB x = sumB (y :: r) := by omega
    rw [e3, worn_all (by simp) hy]
    simp [List.getLast_cons]
theorem sort_seq {T : List Bk} (ht : ∀ x ∈ T, x.frm < x.to) (hs : T.Pairwise fun a b => meetB b a = false) : Seq (isort ltB T) := by
  have hp := isort_perm (lt := ltB) T
  have h1 := isort_srt weakB T
  have h2 : (isort ltB T).Pairwise fun a b => meetB b a = false := (hp.pairwise_iff (fun {a b} h => by rw [meetB_comm]; exact h)).2 hs
  unfold Seq
  refine (List.Pairwise.and (R := fun a b : Bk => ltB b a = false) h1 h2).imp_of_mem fun {a b} ha hb hab => ?_
  obtain ⟨k1, k2⟩ := hab
  have k1 := ltB_f.1 k1
  have m1 := ht a (hp.mem_iff.1 ha)
  have m2 := ht b (hp.mem_iff.1 hb)
  have k2 : ¬ (b.frm < a.to ∧ a.frm < b.to) := by
    rw [← meetB_iff, k2]; simp
  omega
theorem seq_first {x : Bk} {r : List Bk} (h : Seq (x :: r)) (ht : ∀ y ∈ x :: r, y.frm < y.to) : ∀ y ∈ x :: r, x.frm ≤ y.frm := by
  intro y hy
  rcases List.mem_cons.1 hy with rfl | hy
  · exact Int.le_refl _
  · have := (List.pairwise_cons.1 h).1 y hy
    have := ht x (by simp)
    omega
theorem seq_last : ∀ {l : List Bk} (hne : l ≠ []), Seq l → (∀ y ∈ l, y.frm < y.to) → ∀ y ∈ l, y.to ≤ (l.getLast hne).to
  | [x], _, _, _, y, hy => by rw [List.mem_singleton.1 hy]; simp
  | x :: z :: r, _, h, ht, y, hy => by
    have h1 := List.pairwise_cons.1 h
    have ih := seq_last (l := z :: r) (by simp) h1.2 fun u hu => ht u (List.mem_cons_of_mem _ hu)
    rw [List.getLast_cons (by simp)]
    rcases List.mem_cons.1 hy with rfl | hy
    · have a1 := h1.1 z (by simp)
      have a2 := ht z (by simp)
      have a3 := ih z (by simp)
      omega
    · exact ih y hy
end Go.Proofs.YtfjihdlpohljbaaGreat
