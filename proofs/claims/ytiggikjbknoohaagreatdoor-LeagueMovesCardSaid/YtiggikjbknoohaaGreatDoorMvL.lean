/- LeagueMoves: the plain law. -/
import Derived.Test.YtiggikjbknoohaaGreatDoorPrG
import Derived.Test.YtiggikjbknoohaaGreatDoorStD
noncomputable section
namespace Go.Proofs.YtiggikjbknoohaaGreatDoor
open Go Go.Den
set_option maxRecDepth 100000

theorem rowE_nodup : ∀ {l seen : List ByteArray}, rowE seen l = 0 → seen.Nodup → (seen ++ l).Nodup
  | [], seen, _, hs => by simpa using hs
  | s :: r, seen, h, hs => by
    unfold rowE at h
    by_cases h1 : nameB s = false
    · rw [if_pos h1] at h; cases h
    · rw [if_neg h1] at h
      by_cases h2 : memK seen s = true
      · rw [if_pos h2] at h; cases h
      · rw [if_neg h2] at h
        have hn : s ∉ seen := fun hm => h2 (memK_iff.2 hm)
        have := rowE_nodup h (List.nodup_append.2 ⟨hs, by simp, fun a ha b hb e => by
          rw [List.mem_singleton] at hb
          rw [e, hb] at ha; exact hn ha⟩)
        rwa [List.append_assoc, List.singleton_append] at this
theorem divE_nodup : ∀ {D : List (List ByteArray)} {seen : List ByteArray}, divE seen D = 0 → seen.Nodup → (seen ++ D.flatten).Nodup
  | [], seen, _, hs => by simpa using hs
  | l :: r, seen, h, hs => by
    unfold divE at h
    by_cases h1 : decide ((l.length : Int) > 24) = true
    · rw [if_pos h1] at h; cases h
    · rw [if_neg h1] at h
      by_cases h2 : rowE seen l = 0
      · rw [if_neg (by simp [h2])] at h
        have := divE_nodup h (rowE_nodup h2 hs)
        rwa [List.append_assoc] at this
      · rw [if_pos h2] at h; exact absurd h h2
theorem divs_nodup {d : List Sz} (h : divsE (dl d) = 0) : (dl d).flatten.Nodup := by
  have h2 : divE [] (dl d) = 0 := by
    unfold divsE at h
    by_cases h0 : (dl d).length = 0
    · rw [if_pos h0] at h; cases h
    · rw [if_neg h0] at h
      by_cases h1 : decide (((dl d).length : Int) > 24) = true
      · rw [if_pos h1] at h; cases h
      · rwa [if_neg h1] at h
  have := divE_nodup h2 List.nodup_nil
  simpa using this

section
variable {D : List (List ByteArray)} {n N : Nat}
/-- who go up, who go down, who stay -/
def upL (D : List (List ByteArray)) (n i : Nat) : List ByteArray := if 0 < i then (D[i]?.getD []).take n else []
def downL (D : List (List ByteArray)) (n i : Nat) : List ByteArray := if i + 1 < D.length then (D[i]?.getD []).drop ((D[i]?.getD []).length - n) else []
def midL (D : List (List ByteArray)) (n i : Nat) : List ByteArray := ((D[i]?.getD []).take ((D[i]?.getD []).length - if i + 1 < D.length then n else 0)).drop (if 0 < i then n else 0)
theorem split_at {i : Nat} (h2 : 2 * n ≤ (D[i]?.getD []).length) : D[i]?.getD [] = upL D n i ++ (midL D n i ++ downL D n i) := by
  unfold upL midL downL
  generalize D[i]?.getD [] = l at h2
  have e : ∀ (a b : Nat), a ≤ b → b ≤ l.length → l = l.take a ++ ((l.take b).drop a ++ l.drop b) := fun a b hab hb => by
    rw [← List.append_assoc]
    have : l.take a ++ (l.take b).drop a = l.take b := by
      have h3 := List.take_append_drop a (l.take b)
      rwa [List.take_take, Nat.min_eq_left hab] at h3
    rw [this, List.take_append_drop]
  by_cases h0 : 0 < i <;> by_cases h1 : i + 1 < D.length
  · rw [if_pos h0, if_pos h0, if_pos h1, if_pos h1]
    exact e n (l.length - n) (by omega) (by omega)
  · rw [if_pos h0, if_pos h0, if_neg h1, if_neg h1, Nat.sub_zero, List.take_length, List.append_nil, List.take_append_drop]
  · rw [if_neg h0, if_neg h0, if_pos h1, if_pos h1, List.drop_zero, List.nil_append, List.take_append_drop]
  · rw [if_neg h0, if_neg h0, if_neg h1, if_neg h1, Nat.sub_zero, List.take_length, List.drop_zero]; simp
theorem pro_split {i : Nat} (hi : i < D.length) : proL D n i = (if 0 < i then downL D n (i - 1) else []) ++ (midL D n i ++ upL D n (i + 1)) := by
  have e1 : (if 0 < i then downL D n (i - 1) else []) = if 0 < i then (D[i - 1]?.getD []).drop ((D[i - 1]?.getD []).length - n) else [] := by
    by_cases h0 : 0 < i
    · rw [if_pos h0, if_pos h0]
      unfold downL
      rw [if_pos (by omega)]
    · rw [if_neg h0, if_neg h0]
  have e2 : upL D n (i + 1) = if i + 1 < D.length then (D[i + 1]?.getD []).take n else [] := by
    unfold upL
    rw [if_pos (by omega)]
    by_cases h1 : i + 1 < D.length
    · rw [if_pos h1]
    · rw [if_neg h1, List.getElem?_eq_none (by omega)]; simp
  rw [e1, e2]
  unfold proL midL
  rfl
theorem flat_two {α β : Type} (a b : α → List β) : ∀ l : List α, (l.flatMap fun i => a i ++ b i).Perm (l.flatMap a ++ l.flatMap b)
  | [] => .refl _
  | x :: r => by
    simp only [List.flatMap_cons]
    have ih := flat_two a b r
    rw [List.append_assoc, List.append_assoc]
    refine List.Perm.append_left _ ?_
    refine (List.Perm.append_left _ ih).trans ?_
    rw [← List.append_assoc, ← List.append_assoc]
    exact List.Perm.append_right _ List.perm_append_comm
theorem flat_get : ∀ l : List (List ByteArray), ((List.range l.length).flatMap fun i => l[i]?.getD []) = l.flatten
  | [] => rfl
  | x :: r => by
    rw [List.length_cons, List.range_succ_eq_map, List.flatMap_cons, List.flatMap_map]
    simp only [List.getElem?_cons_zero, Option.getD_some, List.getElem?_cons_succ, List.flatten_cons]
    rw [flat_get r]
theorem shift_down : ((List.range D.length).flatMap fun i => if 0 < i then downL D n (i - 1) else []) = (List.range D.length).flatMap (downL D n) := by
  cases hN : D.length with
  | zero => rfl
  | succ m =>
    have hl : downL D n m = [] := by unfold downL; rw [if_neg (by omega)]
    conv => rhs; rw [List.range_succ, List.flatMap_append]
    rw [List.range_succ_eq_map, List.flatMap_cons, List.flatMap_map]
    simp [hl]
theorem shift_up : ((List.range D.length).flatMap fun i => upL D n (i + 1)) = (List.range D.length).flatMap (upL D n) := by
  cases hN : D.length with
  | zero => rfl
  | succ m =>
    have hl : upL D n (m + 1) = [] := by
      unfold upL
      rw [List.getElem?_eq_none (by omega)]; simp
    have h0 : upL D n 0 = [] := by unfold upL; rw [if_neg (by omega)]
    conv => lhs; rw [List.range_succ, List.flatMap_append]
    conv => rhs; rw [List.range_succ_eq_map, List.flatMap_cons, List.flatMap_map]
    simp [hl, h0]
/-- nobody is lost -/
theorem pro_perm (h2 : ∀ i, i < D.length → 2 * n ≤ (D[i]?.getD []).length) : ((List.range D.length).flatMap (proL D n)).Perm D.flatten := by
  have ea : (List.range D.length).flatMap (proL D n) = (List.range D.length).flatMap fun i => (if 0 < i then downL D n (i - 1) else []) ++ (midL D n i ++ upL D n (i + 1)) := by
    rw [List.flatMap_def, List.flatMap_def]
    congr 1
    exact List.map_congr_left fun i hi => pro_split (List.mem_range.1 hi)
  have eb : D.flatten = (List.range D.length).flatMap fun i => upL D n i ++ (midL D n i ++ downL D n i) := by
    rw [← flat_get D, List.flatMap_def, List.flatMap_def]
    congr 1
    exact List.map_congr_left fun i hi => split_at (h2 i (List.mem_range.1 hi))
  rw [ea, eb]
  refine (flat_two _ _ _).trans ?_
  refine (List.Perm.append_left _ (flat_two _ _ _)).trans ?_
  rw [shift_down, shift_up]
  refine List.Perm.trans ?_ ((flat_two _ _ _).trans (List.Perm.append_left _ (flat_two _ _ _))).symm
  -- down ++ (mid ++ up) ~ up ++ (mid ++ down)
  refine (List.perm_append_comm).trans ?_
  refine (List.Perm.append_right _ List.perm_append_comm).trans ?_
  rw [List.append_assoc]
theorem pro_len2 {i : Nat} (h2 : ∀ i, i < D.length → 2 * n ≤ (D[i]?.getD []).length) (hi : i < D.length) : (proL D n i).length = (D[i]?.getD []).length := by
  have k := h2 i hi
  unfold proL
  rw [List.length_append, List.length_append, List.length_drop, List.length_take]
  have h1 : (if 0 < i then (D[i - 1]?.getD []).drop ((D[i - 1]?.getD []).length - n) else []).length = if 0 < i then n else 0 := by
    by_cases h0 : 0 < i
    · have := h2 (i - 1) (by omega)
      rw [if_pos h0, if_pos h0, List.length_drop]; omega
    · rw [if_neg h0, if_neg h0]; rfl
  have h3 : (if i + 1 < D.length then (D[i + 1]?.getD []).take n else []).length = if i + 1 < D.length then n else 0 := by
    by_cases h0 : i + 1 < D.length
    · have := h2 (i + 1) h0
      rw [if_pos h0, if_pos h0, List.length_take]; omega
    · rw [if_neg h0, if_neg h0]; rfl
  rw [h1, h3]
  split <;> split <;> omega
theorem pro_zero {i : Nat} : proL D 0 i = D[i]?.getD [] := by
  unfold proL
  by_cases h0 : 0 < i <;> by_cases h1 : i + 1 < D.length <;> simp [h0, h1]
/-- where each one is -/
theorem pro_mem {i j : Nat} (hi : i < D.length) (h2 : 2 * n ≤ (D[i]?.getD []).length) (hj : j < (D[i]?.getD []).length) {t : Nat} (ht : t = if i + 1 < D.length ∧ (D[i]?.getD []).length - n ≤ j then i + 1 else if 0 < i ∧ j < n then i - 1 else i) : (D[i]?.getD [])[j] ∈ proL D n t := by
  by_cases c1 : i + 1 < D.length ∧ (D[i]?.getD []).length - n ≤ j
  · rw [if_pos c1] at ht
    subst ht
    rw [pro_split c1.1, if_pos (by omega)]
    refine List.mem_append_left _ ?_
    unfold downL
    rw [Nat.add_sub_cancel, if_pos c1.1]
    rw [List.mem_drop_iff_getElem]
    exact ⟨j - ((D[i]?.getD []).length - n), by omega, by congr 1; omega⟩
  · rw [if_neg c1] at ht
    by_cases c2 : 0 < i ∧ j < n
    · rw [if_pos c2] at ht
      subst ht
      rw [pro_split (by omega)]
      refine List.mem_append_right _ (List.mem_append_right _ ?_)
      unfold upL
      have e : i - 1 + 1 = i := by omega
      rw [e, if_pos c2.1, List.mem_take_iff_getElem]
      exact ⟨j, by omega, rfl⟩
    · rw [if_neg c2] at ht
      subst ht
      rw [pro_split hi]
      refine List.mem_append_right _ (List.mem_append_left _ ?_)
      unfold midL
      rw [List.mem_drop_iff_getElem]
      have hfr : (if 0 < t then n else 0) ≤ j := by
        by_cases h0 : 0 < t
        · rw [if_pos h0]; exact Nat.le_of_not_lt fun h => c2 ⟨h0, h⟩
        · rw [if_neg h0]; omega
      have hto : j < (D[t]?.getD []).length - if t + 1 < D.length then n else 0 := by
        by_cases h0 : t + 1 < D.length
        · rw [if_pos h0]; exact Nat.lt_of_not_le fun h => c1 ⟨h0, h⟩
        · rw [if_neg h0]; omega
      refine ⟨j - (if 0 < t then n else 0), by rw [List.length_take]; omega, ?_⟩
      rw [List.getElem_take]
      congr 1; omega
end
end Go.Proofs.YtiggikjbknoohaaGreatDoor
