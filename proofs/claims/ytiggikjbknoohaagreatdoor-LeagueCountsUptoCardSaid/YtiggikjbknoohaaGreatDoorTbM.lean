/- Plain law: what holds of each table. -/
import Derived.Test.YtiggikjbknoohaaGreatDoorTbL
noncomputable section
namespace Go.Proofs.YtiggikjbknoohaaGreatDoor
open Go Go.Den
set_option maxRecDepth 100000

theorem ranked_len {am : Nat → Fg} {t : List Rw} : (rankedL am t).length = t.length := by simp [rankedL]
theorem ranked_get {am : Nat → Fg} {t : List Rw} {i : Nat} (h : i < t.length) : (rankedL am t)[i]'(by rw [ranked_len]; exact h) = { t[i] with rank := rankL am t i } := by
  simp [rankedL, h]
theorem rankL_bd {am : Nat → Fg} {t : List Rw} : ∀ {i : Nat}, i < t.length → 1 ≤ rankL am t i ∧ rankL am t i ≤ ((i + 1 : Nat) : Int)
  | 0, _ => by simp [rankL]
  | i + 1, h => by
    have ih := rankL_bd (am := am) (t := t) (i := i) (by omega)
    simp only [rankL, List.getElem?_eq_getElem h, List.getElem?_eq_getElem (by omega : i < t.length)]
    split <;> omega
theorem rankL_succ {am : Nat → Fg} {t : List Rw} {i : Nat} (h : i + 1 < t.length) : rankL am t (i + 1) = if betterL am t[i] t[i + 1] = 0 then rankL am t i else ((i + 2 : Nat) : Int) := by
  simp only [rankL, List.getElem?_eq_getElem h, List.getElem?_eq_getElem (by omega : i < t.length)]
theorem rows_teams {r : Ru} {n : Nat} {l : List Ma} : (rowsF r n l).map (·.team) = (List.range n).map fun (i : Nat) => (i : Int) := by
  refine List.ext_getElem (by simp [rowsF_len]) fun i h1 h2 => ?_
  simp only [List.getElem_map, List.getElem_range]
  exact (rowsF_ok _).team
theorem rows_lt {r : Ru} {n : Nat} {l : List Ma} : (rowsF r n l).Pairwise fun x y => x.team < y.team := by
  have h : ((rowsF r n l).map (·.team)).Pairwise (· < ·) := by
    rw [rows_teams, List.pairwise_map]
    exact List.pairwise_lt_range.imp fun h => by omega
  exact List.pairwise_map.1 h

section
variable {r : Ru} {n : Nat} {l : List Ma}
def sortedL (r : Ru) (n : Nat) (l : List Ma) : List Rw := isort (lessL (amongL r n l)) (rowsF r n l)
theorem sorted_len : (sortedL r n l).length = n := by rw [sortedL, isort_len, rowsF_len]
theorem sorted_perm : (sortedL r n l).Perm (rowsF r n l) := isort_perm _
theorem table_len : (tableL r n l).length = n := by
  show (rankedL _ (sortedL r n l)).length = n
  rw [ranked_len, sorted_len]
theorem table_get {i : Nat} (h : i < n) : (tableL r n l)[i]'(by rw [table_len]; exact h) = { (sortedL r n l)[i]'(by rw [sorted_len]; exact h) with rank := rankL (amongL r n l) (sortedL r n l) i } := ranked_get (by rw [isort_len, rowsF_len]; exact h)
theorem table_perm {l' : List Ma} (h : l.Perm l') : tableL r n l = tableL r n l' := by
  have e : rowsF r n l = rowsF r n l' := rowsF_perm h
  have ea : amongL r n l = amongL r n l' := by
    funext i
    unfold amongL
    simp only [e]
    rw [rowsF_perm (h.filter _)]
  unfold tableL
  rw [e, ea]
/-- a row of the sorted ones is the row of its team -/
theorem sorted_mem {i : Nat} (h : i < (sortedL r n l).length) : ∃ j, ∃ hj : j < (rowsF r n l).length, (sortedL r n l)[i] = (rowsF r n l)[j] := by
  have := sorted_perm.subset (List.getElem_mem h)
  obtain ⟨j, hj, e⟩ := List.getElem_of_mem this
  exact ⟨j, hj, e.symm⟩
theorem sorted_ok {i : Nat} (h : i < (sortedL r n l).length) : RowOk r ((sortedL r n l)[i]).team ((sortedL r n l)[i]) ∧ 0 ≤ ((sortedL r n l)[i]).team ∧ ((sortedL r n l)[i]).team < n := by
  obtain ⟨j, hj, e⟩ := sorted_mem h
  rw [e]
  have := rowsF_ok hj
  rw [rowsF_len] at hj
  rw [this.team]
  exact ⟨this, by omega, by omega⟩
theorem sorted_nodup : ((sortedL r n l).map (·.team)).Nodup := by
  have h : ((rowsF r n l).map (·.team)).Nodup := by
    rw [rows_teams]
    unfold List.Nodup
    rw [List.pairwise_map]
    exact List.nodup_range.imp fun h e => h (by omega)
  exact ((sorted_perm.map _).nodup_iff).2 h
theorem sorted_stb : Stb (amongL r n l) (sortedL r n l) := isort_stb rows_lt
/-- neighbours in the table -/
theorem table_next {i : Nat} (h : i + 1 < n) : ∀ x y, (tableL r n l)[i]? = some x → (tableL r n l)[i + 1]? = some y →
    y.pts ≤ x.pts ∧ (y.rank = x.rank ∨ y.rank = ((i + 2 : Nat) : Int)) ∧ (y.rank = x.rank → y.pts = x.pts ∧ y.fr = x.fr ∧ y.ag = x.ag ∧ x.team ≤ y.team) := by
  intro x y hx hy
  have h0 : i < n := by omega
  rw [List.getElem?_eq_getElem (by rw [table_len]; exact h0), table_get h0, Option.some.injEq] at hx
  rw [List.getElem?_eq_getElem (by rw [table_len]; exact h), table_get h, Option.some.injEq] at hy
  have l0 : i < (sortedL r n l).length := by rw [sorted_len]; exact h0
  have l1 : i + 1 < (sortedL r n l).length := by rw [sorted_len]; exact h
  have hs := (List.pairwise_iff_getElem.1 sorted_stb) i (i + 1) l0 l1 (by omega)
  have hr := rankL_succ (am := amongL r n l) l1
  have hb := rankL_bd (am := amongL r n l) l0
  generalize hu : (sortedL r n l)[i] = u at *
  generalize hv : (sortedL r n l)[i + 1] = v at *
  have hno : lessL (amongL r n l) v u = false := by
    rcases hs with h | h
    · exact (less_weak _).asymm _ _ h
    · exact h.1
  simp only [lessL, decide_eq_false_iff_not, betterL_lex] at hno
  subst hx; subst hy
  simp only
  refine ⟨?_, ?_, fun e => ?_⟩
  · by_cases hlt : u.pts < v.pts
    · exfalso
      apply hno
      simp [keyL, figL, lexC, hlt]
    · omega
  · rw [hr]
    split
    · exact .inl rfl
    · exact .inr rfl
  · rw [hr] at e
    split at e
    · rename_i hz
      rw [betterL_lex] at hz
      have hk := lexC_zero (a := keyL (amongL r n l) u) (b := keyL (amongL r n l) v) rfl hz
      simp only [keyL, figL, List.cons.injEq] at hk
      refine ⟨hk.1.symm, hk.2.2.1.symm, by omega, ?_⟩
      rcases hs with h | h
      · simp only [lessL, decide_eq_true_eq, betterL_lex, hz] at h; omega
      · omega
    · omega
theorem table_first (h : 0 < n) : ∀ x, (tableL r n l)[0]? = some x → x.rank = 1 := by
  intro x hx
  rw [List.getElem?_eq_getElem (by rw [table_len]; exact h), table_get h, Option.some.injEq] at hx
  subst hx; rfl
theorem table_row {i : Nat} (h : i < n) : ∀ x, (tableL r n l)[i]? = some x → (0 ≤ x.team ∧ x.team < n) ∧ x.played = x.won + x.drawn + x.lost ∧ x.pts = x.won * r.win + x.drawn * r.draw + x.lost * r.loss := by
  intro x hx
  rw [List.getElem?_eq_getElem (by rw [table_len]; exact h), table_get h, Option.some.injEq] at hx
  obtain ⟨a, b, c⟩ := sorted_ok (r := r) (n := n) (l := l) (i := i) (by rw [sorted_len]; exact h)
  subst hx
  exact ⟨⟨b, c⟩, a.played, a.pts⟩
theorem table_map {f : Rw → Int} (hf : ∀ (x : Rw) (k : Int), f { x with rank := k } = f x) : (tableL r n l).map f = (sortedL r n l).map f := by
  refine List.ext_getElem (by rw [List.length_map, List.length_map, table_len, sorted_len]) fun i h1 h2 => ?_
  rw [List.length_map, table_len] at h1
  simp only [List.getElem_map, table_get h1, hf]
theorem table_nodup : ((tableL r n l).map (·.team)).Nodup := by
  rw [table_map (fun _ _ => rfl)]; exact sorted_nodup
theorem table_sums (hl : ∀ m ∈ l, MaOk n m) : Sums (tableL r n l) l.length := by
  have h := sums_rows (r := r) hl
  have e : ∀ {f : Rw → Int}, (∀ (x : Rw) (k : Int), f { x with rank := k } = f x) → sumR f (tableL r n l) = sumR f (rowsF r n l) := fun hf => by
    rw [← sum_perm sorted_perm]
    unfold sumR
    rw [table_map hf]
  exact ⟨by rw [e (fun _ _ => rfl), e (fun _ _ => rfl)]; exact h.wl, by rw [e (fun _ _ => rfl), e (fun _ _ => rfl)]; exact h.gt, by rw [e (fun _ _ => rfl)]; exact h.pl, by rw [e (fun _ _ => rfl)]; exact h.dr⟩
end
end Go.Proofs.YtiggikjbknoohaaGreatDoor
