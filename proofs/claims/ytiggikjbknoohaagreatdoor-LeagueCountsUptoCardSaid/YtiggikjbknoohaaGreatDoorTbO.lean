/- Plain law: lists of matches without an error. -/
import Derived.Test.YtiggikjbknoohaaGreatDoorTbN
import Derived.Test.YtiggikjbknoohaaGreatDoorTcB
noncomputable section
namespace Go.Proofs.YtiggikjbknoohaaGreatDoor
open Go Go.Den
set_option maxRecDepth 100000

theorem firstL_zeroC {l : List Int} : firstL l = 0 ↔ ∀ x ∈ l, x = 0 := by
  constructor
  · intro h x hx
    obtain ⟨i, hi, rfl⟩ := List.getElem_of_mem hx
    by_cases e : ∃ j, ∃ hj : j < l.length, l[j] ≠ 0
    · exfalso
      have key : ∀ n j (hj : j < l.length), j ≤ n → l[j] ≠ 0 → firstL l ≠ 0 := by
        intro n
        induction n with
        | zero =>
          intro j hj hn hne
          obtain rfl : j = 0 := by omega
          rw [firstL_at hj (by intros; omega) hne]; exact hne
        | succ n ih =>
          intro j hj hn hne
          by_cases q : ∃ k, ∃ hk : k < l.length, k ≤ n ∧ l[k] ≠ 0
          · obtain ⟨k, hk, h1, h2⟩ := q
            exact ih k hk h1 h2
          · rw [firstL_at hj (fun k hk hkj => by
              by_cases z : l[k] = 0
              · exact z
              · exact absurd ⟨k, hk, by omega, z⟩ q) hne]
            exact hne
      obtain ⟨j, hj, hne⟩ := e
      exact key j j hj (Nat.le_refl _) hne h
    · by_cases z : l[i] = 0
      · exact z
      · exact absurd ⟨i, hi, z⟩ e
  · intro h
    exact firstL_none fun j hj => h _ (List.getElem_mem hj)
theorem whenL_zeroC {b : Bool} {e : Int} (he : e ≠ 0) : whenL b e = 0 ↔ b = false := by
  cases b
  · simp [whenL]
  · simp [whenL, he]
structure MBase (n : Int) (m : Ma) : Prop where
  known : [m.home, m.away].any (unknownL n) = false
  ne : (m.home == m.away) = false
  kind : isKind m.kind = true
  fr : outL m.fr 0 99 = false
  ag : outL m.ag 0 99 = false
  walk : walkB m = false
theorem pairL_zeroC {n a b : Int} : pairL n a b = 0 ↔ [a, b].any (unknownL n) = false ∧ (a == b) = false := by
  unfold pairL
  rw [firstL_zeroC]
  constructor
  · intro h
    exact ⟨(whenL_zeroC (by omega)).1 (h _ (List.mem_cons_self ..)), (whenL_zeroC (by omega)).1 (h _ (List.mem_cons_of_mem _ (List.mem_cons_self ..)))⟩
  · rintro ⟨h1, h2⟩ x hx
    simp only [List.mem_cons, List.not_mem_nil, or_false] at hx
    rcases hx with rfl | rfl
    · rw [h1]; rfl
    · rw [h2]; rfl
theorem mErr_zero {n : Int} {pre : List Ma} {m : Ma} : mErr n pre m = 0 ↔ MBase n m ∧ pre.any (sameM m) = false := by
  unfold mErr
  rw [firstL_zeroC]
  simp only [List.mem_cons, List.not_mem_nil, or_false, forall_eq_or_imp, forall_eq, whenL_zeroC (by omega : (13 : Int) ≠ 0), whenL_zeroC (by omega : (3 : Int) ≠ 0), whenL_zeroC (by omega : (1 : Int) ≠ 0), whenL_zeroC (by omega : (17 : Int) ≠ 0), pairL_zeroC]
  constructor
  · rintro ⟨⟨h1, h2⟩, h3, h4, h5, h6, h7⟩
    exact ⟨⟨h1, h2, by simpa using h3, h4, h5, h6⟩, h7⟩
  · rintro ⟨⟨h1, h2, h3, h4, h5, h6⟩, h7⟩
    exact ⟨⟨h1, h2⟩, by simp [h3], h4, h5, h6, h7⟩
theorem chkM_zero {n : Int} {l : List Ma} : chkM n l = 0 ↔ topM n l = 0 ∧ (∀ m ∈ l, MBase n m) ∧ l.Pairwise fun x y => sameM y x = false := by
  unfold chkM
  constructor
  · intro h
    split at h
    · rename_i ht
      refine ⟨ht, ?_⟩
      have hh : ∀ i (hi : i < l.length), mErr n (l.take i) l[i] = 0 := fun i hi => by
        have := firstL_zeroC.1 h (errG (mErr n) l i) (List.mem_map.2 ⟨i, List.mem_range.2 hi, rfl⟩)
        rwa [errG_at hi] at this
      refine ⟨fun m hm => ?_, ?_⟩
      · obtain ⟨i, hi, rfl⟩ := List.getElem_of_mem hm
        exact (mErr_zero.1 (hh i hi)).1
      · rw [List.pairwise_iff_getElem]
        intro i j hi hj hij
        have := (mErr_zero.1 (hh j hj)).2
        rw [List.any_eq_false] at this
        have hm : l[i] ∈ l.take j := by
          have hlt : i < (l.take j).length := by rw [List.length_take]; omega
          have := List.getElem_mem hlt
          rwa [List.getElem_take] at this
        simpa using this _ hm
    · rename_i ht; exact absurd h ht
  · rintro ⟨h1, h2, h3⟩
    rw [if_pos h1]
    refine restG_none fun j hj => ?_
    rw [errG_at hj, mErr_zero]
    refine ⟨h2 _ (List.getElem_mem hj), anyG_f fun i hi hij => ?_⟩
    exact (List.pairwise_iff_getElem.1 h3) i j hi hj hij
theorem sameM_symm {x y : Ma} : sameM x y = sameM y x := by
  unfold sameM
  rw [Bool.eq_iff_iff]
  simp only [Bool.and_eq_true, beq_iff_eq]
  exact ⟨fun ⟨a, b⟩ => ⟨a.symm, b.symm⟩, fun ⟨a, b⟩ => ⟨a.symm, b.symm⟩⟩
theorem chkM_rev {n : Int} {l : List Ma} (h : chkM n l = 0) : chkM n l.reverse = 0 := by
  rw [chkM_zero] at h ⊢
  obtain ⟨h1, h2, h3⟩ := h
  refine ⟨by simpa only [topM, List.length_reverse] using h1, fun m hm => h2 m (List.mem_reverse.1 hm), ?_⟩
  rw [List.pairwise_reverse]
  exact h3.imp fun h => by rw [sameM_symm]; exact h
theorem ma_ok {N : Nat} {m : Ma} (h : MBase (N : Int) m) : MaOk N m := by
  obtain ⟨h1, h2, h3, h4, h5, h6⟩ := h
  simp only [List.any_cons, List.any_nil, Bool.or_false, Bool.or_eq_false_iff, unknownL, decide_eq_false_iff_not] at h1
  simp only [outL, decide_eq_false_iff_not] at h4 h5
  have h2 : m.home ≠ m.away := by simpa using h2
  refine ⟨by omega, by omega, h2, h3, by omega, by omega, fun hs => ?_⟩
  by_cases hk : m.kind = kPlayed
  · exact absurd (by simp [sideL, hk]) hs
  · simp only [walkB, hk, decide_false, Bool.not_false, Bool.true_and, Bool.or_eq_false_iff] at h6
    exact ⟨by simpa using h6.1, by simpa using h6.2⟩
theorem ru_ok {r : Ru} (h : ruleL r = 0) : RuOk r := by
  unfold ruleL at h
  split at h
  · omega
  · rename_i h1
    split at h
    · omega
    · rename_i h2
      simp only [Bool.or_eq_true, not_or, outL, decide_eq_true_eq] at h1
      exact ⟨by omega, by omega, by omega, by omega, by omega⟩
theorem top_ok {n : Int} {l : List Ma} (h : topM n l = 0) : (2 ≤ n ∧ n ≤ 24) ∧ l.length ≤ 600 := by
  unfold topM at h
  rw [firstL_zeroC] at h
  have h1 := (whenL_zeroC (by omega)).1 (h _ (List.mem_cons_self ..))
  have h2 := (whenL_zeroC (by omega)).1 (h _ (List.mem_cons_of_mem _ (List.mem_cons_self ..)))
  simp only [outL, decide_eq_false_iff_not] at h1 h2
  exact ⟨by omega, by omega⟩
end Go.Proofs.YtiggikjbknoohaaGreatDoor
