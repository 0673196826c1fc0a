/- Contracts: counts of home matches; same lists; copies. -/
import Derived.Test.YtiggikjbknoohaaGreatDoorFnE
noncomputable section
namespace Go.Proofs.YtiggikjbknoohaaGreatDoor
open Go Go.Den
set_option maxRecDepth 10000

/-- how many home matches each has -/
def tally (l : List Fx) (c : List Int) : List Int := l.foldl (fun c x => c.set x.home.toNat (c[x.home.toNat]?.getD 0 + 1)) c
theorem tally_len : ∀ {l : List Fx} {c : List Int}, (tally l c).length = c.length
  | [], _ => rfl
  | x :: r, c => by rw [tally, List.foldl_cons]; exact (tally_len (l := r)).trans (by simp)
theorem tally_snoc {l : List Fx} {x : Fx} {c : List Int} : tally (l ++ [x]) c = (tally l c).set x.home.toNat ((tally l c)[x.home.toNat]?.getD 0 + 1) := by
  simp [tally, List.foldl_append]
theorem take_snoc {α : Type} {l : List α} {i : Nat} (h : i < l.length) : l.take (i + 1) = l.take i ++ [l[i]] := by
  rw [List.take_add_one, List.getElem?_eq_getElem h]; rfl

theorem take_all {α : Type} {l : List α} {i : Nat} (h : l.length ≤ i) : l.take i = l := List.take_of_length_le h
theorem tally_bound {n : Nat} : ∀ {l : List Fx} (c : List Int), (∀ k (h : k < c.length), 0 ≤ c[k] ∧ c[k] ≤ n) → ∀ k (h : k < (tally l c).length), 0 ≤ (tally l c)[k] ∧ (tally l c)[k] ≤ n + l.length
  | [], c, hc, k, h => by
    have h' : k < c.length := h
    have := hc k h'
    show 0 ≤ c[k] ∧ c[k] ≤ (n : Int) + ((0 : Nat) : Int)
    omega
  | x :: r, c, hc, k, h => by
    have e : tally (x :: r) c = tally r (c.set x.home.toNat (c[x.home.toNat]?.getD 0 + 1)) := rfl
    have := tally_bound (n := n + 1) (l := r) (c.set x.home.toNat (c[x.home.toNat]?.getD 0 + 1)) (fun k hk => by
      rw [List.getElem_set]
      split
      · rename_i e
        have hk' : x.home.toNat < c.length := by rw [e]; simpa using hk
        rw [List.getElem?_eq_getElem hk']
        have := hc _ hk'
        simp only [Option.getD_some]
        omega
      · have := hc k (by simpa using hk)
        omega) k (by rw [← e]; exact h)
    simp only [e, List.length_cons]
    omega
theorem flat_ints (m : List Int) : (m.map I).all (flatD 8) = true := by
  rw [List.all_eq_true]
  intro x hx
  obtain ⟨y, _, rfl⟩ := List.mem_map.1 hx
  rfl
theorem mk33 {l : EL} {h : AHeap} {a : Operand} {n : Nat} (ha : ev l a = some (I n)) (hn : n ≤ 24) : Does Tryz.prog l (.makeSlice 33 a a) h (.slice (some ⟨h.fresh, 0, none⟩) n n) (h.add (.cells ((List.replicate n 0).map I) 1 false false)) := by
  rw [← repl_map]
  exact do_makeSlice ha ha rfl rfl rfl rfl (Nat.le_refl _) (by omega) (Nat.le_trans (Nat.mul_le_mul_left _ hn) (Nat.le_of_ble_eq_true rfl))

theorem fx_len (x : Fx) : (fx x).length = 3 := rfl
theorem flat_fx (m : List Fx) : (m.flatMap fx).all (flatD 8) = true := by
  rw [List.all_eq_true]
  intro x hx
  obtain ⟨y, _, hy⟩ := List.mem_flatMap.1 hx
  simp only [fx, List.mem_cons, List.not_mem_nil, or_false] at hy
  rcases hy with rfl | rfl | rfl <;> rfl

theorem chk_top {n : Int} {l : List Fx} (h : chkL n l = 0) : topL n l = 0 ∧ restL n l = 0 := by
  by_cases ht : topL n l = 0
  · simp [chkL, ht] at h; exact ⟨ht, h⟩
  · simp [chkL, ht] at h
theorem firstL_zero {l : List Int} (h : firstL l = 0) : ∀ x ∈ l, x = 0 := by
  intro x hx
  by_cases hx0 : x = 0
  · exact hx0
  · exfalso
    cases hf : l.find? (fun e => decide (e ≠ 0)) with
    | none =>
      rw [List.find?_eq_none] at hf
      exact hf x hx (by simpa using hx0)
    | some y =>
      have := List.find?_some hf
      simp only [firstL, hf, Option.getD_some] at h
      simp [h] at this
structure GoodL (n : Int) (l : List Fx) : Prop where
  lo : 2 ≤ n
  hi : n ≤ 24
  len : l.length ≤ 600
  each : ∀ x ∈ l, (0 ≤ x.home ∧ x.home < n) ∧ (0 ≤ x.away ∧ x.away < n) ∧ x.home ≠ x.away
theorem chk_good {n : Int} {l : List Fx} (h : chkL n l = 0) : GoodL n l := by
  obtain ⟨h1, h2⟩ := chk_top h
  have t := firstL_zero h1
  have t1 := t _ (List.mem_cons_self ..)
  have t2 := t _ (List.mem_cons_of_mem _ (List.mem_cons_self ..))
  have n1 : outL n 2 24 = false := by
    cases hh : outL n 2 24
    · rfl
    · rw [hh] at t1; cases t1
  have n2 : decide ((l.length : Int) > 600) = false := by
    cases hh : decide ((l.length : Int) > 600)
    · rfl
    · rw [hh] at t2; cases t2
  have hn := outL_f n1
  simp only [decide_eq_false_iff_not] at n2
  refine ⟨hn.1, hn.2, by omega, fun x hx => ?_⟩
  obtain ⟨i, hi, rfl⟩ := List.getElem_of_mem hx
  have r := firstL_zero h2 (errI n l i) (List.mem_map.2 ⟨i, List.mem_range.2 hi, rfl⟩)
  rw [errI_at hi] at r
  have p := firstL_zero r (pairL n l[i].home l[i].away) (List.mem_cons_of_mem _ (List.mem_cons_self ..))
  have q := firstL_zero p
  have q1 := q _ (List.mem_cons_self ..)
  have q2 := q _ (List.mem_cons_of_mem _ (List.mem_cons_self ..))
  have m1 : [l[i].home, l[i].away].any (unknownL n) = false := by
    cases hh : [l[i].home, l[i].away].any (unknownL n)
    · rfl
    · rw [hh] at q1; cases q1
  have m2 : (l[i].home == l[i].away) = false := by
    cases hh : (l[i].home == l[i].away)
    · rfl
    · rw [hh] at q2; cases q2
  simp [unknownL] at m1
  simp at m2
  exact ⟨by omega, by omega, m2⟩
