/- LeagueDays: the plain law. -/
import Derived.Test.YtiggikjbknoohaaGreatDoorPnH
import Derived.Test.YtiggikjbknoohaaGreatDoorFnI
noncomputable section
namespace Go.Den.Plan
section
variable {D D' : Nat → List Int} {M M' : Nat → Nat → Bool}
theorem Valid.swap {sol : List Int} {i : Nat} {x : Int} (h : Valid D M sol) (hx : x ∈ D i) (hn : ∀ k, k ≠ i → sol[k]? = some x → M i k = false ∧ M k i = false) : Valid D M (sol.set i x) := by
  have look : ∀ (j : Nat) d, (sol.set i x)[j]? = some d → (j = i ∧ d = x) ∨ (j ≠ i ∧ sol[j]? = some d) := fun j d hj => by
    by_cases e : j = i
    · subst e
      have hl := (List.getElem?_eq_some_iff.1 hj).1
      rw [List.length_set] at hl
      rw [List.getElem?_set_self hl] at hj
      cases hj; exact .inl ⟨rfl, rfl⟩
    · rw [List.getElem?_set_ne (fun e' => e e'.symm)] at hj
      exact .inr ⟨e, hj⟩
  refine ⟨fun j d hj => ?_, fun j k d hk h1 h2 => ?_⟩
  · rcases look j d hj with ⟨rfl, rfl⟩ | ⟨_, hj⟩
    · exact hx
    · exact h.day j d hj
  · rcases look j d h1 with ⟨rfl, rfl⟩ | ⟨n1, g1⟩
    · rcases look k d h2 with ⟨rfl, _⟩ | ⟨n2, h2⟩
      · omega
      · exact (hn k n2 h2).1
    · rcases look k d h2 with ⟨rfl, rfl⟩ | ⟨n2, h2⟩
      · exact (hn j n1 g1).2
      · exact h.apart j k d hk g1 h2
theorem Valid.into {sol : List Int} (h : Valid D M sol) (hD : ∀ i, i < sol.length → ∀ d ∈ D i, d ∈ D' i) (hM : ∀ i k, i < sol.length → k < i → M' i k = M i k) : Valid D' M' sol :=
  ⟨fun i d hd => hD i (List.getElem?_eq_some_iff.1 hd).1 d (h.day i d hd), fun i k d hk h1 h2 => by rw [hM i k (List.getElem?_eq_some_iff.1 h1).1 hk]; exact h.apart i k d hk h1 h2⟩
/-- no date alone can be an earlier one -/
theorem ext_alone {f : Nat} {sol : List Int} (h : ext D (clash M) f [] = some sol) (hs : ∀ i, (D i).Pairwise (· < ·)) {i : Nat} {d x : Int} (hd : sol[i]? = some d) (hx : x ∈ D i) (hlt : x < d) (hn : ∀ k, k ≠ i → sol[k]? = some x → M i k = false ∧ M k i = false) : False := by
  obtain ⟨hv, hl, _⟩ := ext_valid Valid.nil h
  obtain ⟨pre, post, hD⟩ := List.append_of_mem (hv.day i d hd)
  have hp := hs i
  rw [hD, List.pairwise_append] at hp
  obtain ⟨_, hp2, hp3⟩ := hp
  have hxp : x ∈ pre := by
    have hx := hx
    rw [hD, List.mem_append] at hx
    rcases hx with hx | hx
    · exact hx
    · rcases List.mem_cons.1 hx with rfl | hx
      · omega
      · have := (List.pairwise_cons.1 hp2).1 x hx; omega
  refine ext_first h Valid.nil i d pre (d :: post) (by simp) hD hd (fun hm => ?_) x hxp (sol.set i x) (hv.swap hx hn) (by simp) ?_ ?_
  · have := hp3 d hm d (List.mem_cons_self ..); omega
  · apply List.ext_getElem?
    intro k
    rw [List.getElem?_take, List.getElem?_take]
    split
    · rw [List.getElem?_set_ne (by omega)]
    · rfl
  · rw [List.getElem?_set_self (List.getElem?_eq_some_iff.1 hd).1]
end
end Go.Den.Plan
namespace Go.Proofs.YtiggikjbknoohaaGreatDoor
open Go Go.Den
set_option maxRecDepth 100000

theorem daysTo_sorted {busy : List Bz} {p : Int × Int} {frm : Int} : ∀ {n : Nat}, (daysTo busy p frm n).Pairwise (· < ·)
  | 0 => by simp [daysTo]
  | n + 1 => by
    rw [daysTo_succ, List.pairwise_append]
    refine ⟨daysTo_sorted, by split <;> simp, fun a ha b hb => ?_⟩
    have := daysTo_lt ha
    split at hb
    · simp at hb; omega
    · simp at hb
theorem daysTo_mono {busy : List Bz} {p : Int × Int} {frm d : Int} {n : Nat} (h : d ∈ daysTo busy p frm n) : ∀ (k : Nat), d ∈ daysTo busy p frm (n + k)
  | 0 => h
  | k + 1 => by
    rw [← Nat.add_assoc, daysTo_succ]
    exact List.mem_append_left _ (daysTo_mono h k)

/-- the teams, and the days on which they play -/
def dayK (m : List (Int × Int)) (sol : List Int) (n : Nat) : List (Int × Int) := (List.range n).foldl (fun k i => addK (addK k ((m[i]?.getD (0, 0)).1, nth sol i)) ((m[i]?.getD (0, 0)).2, nth sol i)) []
theorem dayK_succ {m : List (Int × Int)} {sol : List Int} {i : Nat} (hi : i < m.length) (hj : i < sol.length) : dayK m sol (i + 1) = addK (addK (dayK m sol i) (m[i].1, sol[i])) (m[i].2, sol[i]) := by
  simp [dayK, List.range_succ, List.foldl_append, nth, hi, hj]
theorem mem_dayK {m : List (Int × Int)} {sol : List Int} {x : Int × Int} : ∀ {n : Nat}, x ∈ dayK m sol n ↔ ∃ i, i < n ∧ (x = ((m[i]?.getD (0, 0)).1, nth sol i) ∨ x = ((m[i]?.getD (0, 0)).2, nth sol i))
  | 0 => by simp [dayK]
  | n + 1 => by
    have e : dayK m sol (n + 1) = addK (addK (dayK m sol n) ((m[n]?.getD (0, 0)).1, nth sol n)) ((m[n]?.getD (0, 0)).2, nth sol n) := by
      simp [dayK, List.range_succ, List.foldl_append]
    rw [e, mem_addK, mem_addK, mem_dayK]
    constructor
    · rintro ((⟨i, hi, h⟩ | h) | h)
      · exact ⟨i, by omega, h⟩
      · exact ⟨n, by omega, .inl h⟩
      · exact ⟨n, by omega, .inr h⟩
    · rintro ⟨i, hi, h⟩
      by_cases e : i = n
      · subst e
        rcases h with h | h
        · exact .inl (.inr h)
        · exact .inr h
      · exact .inl (.inl ⟨i, by omega, h⟩)

section
variable {m : List (Int × Int)} {busy : List Bz} {frm to : Int} {sol : List Int} {D : Nat → List Int}
theorem day_new (hv : Plan.Valid D (Mt m) sol) {i : Nat} (hi : i < m.length) (hj : i < sol.length) : (m[i].1, sol[i]) ∉ dayK m sol i ∧ (m[i].2, sol[i]) ∉ dayK m sol i := by
  have key : ∀ k, k < i → sol[i] = nth sol k → Mt m i k = false := fun k hk e => by
    refine hv.apart i k sol[i] hk (List.getElem?_eq_getElem hj) ?_
    rw [e, List.getElem?_eq_getElem (by omega), nth_eq]
  refine ⟨fun h => ?_, fun h => ?_⟩
  all_goals
    obtain ⟨k, hk, h⟩ := mem_dayK.1 h
    rcases h with h | h
    all_goals
      obtain ⟨h1, h2⟩ := Prod.mk.inj h
      have := key k hk h2
      simp [Mt, meetsL, hi, h1] at this
theorem day_alone (h : Plan.ext (datesL m busy frm to) (Plan.clash (Mt m)) m.length [] = some sol) {i : Nat} {x : Int} (hi : i < m.length) (hj : i < sol.length) (hx : x ∈ datesL m busy frm to i) (hlt : x < sol[i]) (h1 : (m[i].1, x) ∉ dayK m sol m.length) (h2 : (m[i].2, x) ∉ dayK m sol m.length) : False := by
  have hl := (Plan.ext_valid Plan.Valid.nil h).2.1
  simp only [List.length_nil, Nat.zero_add] at hl
  refine Plan.ext_alone h (fun i => daysTo_sorted) (List.getElem?_eq_getElem hj) hx hlt fun k hk hs => ?_
  have hks := (List.getElem?_eq_some_iff.1 hs).1
  have hn := nth_get hs
  have n1 : m[i].1 ≠ (m[k]?.getD (0, 0)).1 := fun e => h1 (mem_dayK.2 ⟨k, by omega, .inl (by rw [e, hn])⟩)
  have n2 : m[i].1 ≠ (m[k]?.getD (0, 0)).2 := fun e => h1 (mem_dayK.2 ⟨k, by omega, .inr (by rw [e, hn])⟩)
  have n3 : m[i].2 ≠ (m[k]?.getD (0, 0)).1 := fun e => h2 (mem_dayK.2 ⟨k, by omega, .inl (by rw [e, hn])⟩)
  have n4 : m[i].2 ≠ (m[k]?.getD (0, 0)).2 := fun e => h2 (mem_dayK.2 ⟨k, by omega, .inr (by rw [e, hn])⟩)
  have e : m[i]?.getD (0, 0) = m[i] := by simp [hi]
  unfold Mt meetsL
  rw [e]
  simp only [beq_eq_false_iff_ne.2 n1, beq_eq_false_iff_ne.2 n2, beq_eq_false_iff_ne.2 n3, beq_eq_false_iff_ne.2 n4, beq_eq_false_iff_ne.2 n1.symm, beq_eq_false_iff_ne.2 n2.symm, beq_eq_false_iff_ne.2 n3.symm, beq_eq_false_iff_ne.2 n4.symm]
  exact ⟨rfl, rfl⟩

theorem firstL_all {l : List Int} (h : ∀ x ∈ l, x = 0) : firstL l = 0 := by
  unfold firstL
  rw [List.find?_eq_none.2 fun x hx => by simp [h x hx]]; rfl
theorem plan_sub {m' : List (Int × Int)} {to' : Int} (h : planE m busy frm to = 0) (hm : ∀ p ∈ m', p ∈ m) (hl : m'.length ≤ m.length) (ht : to ≤ to') (h9 : to' ≤ 99999) (hd : to' - frm ≤ 366) : planE m' busy frm to' = 0 := by
  have hg := plan_good h
  obtain ⟨d1, d2, d3, d4⟩ := hg.days
  have hmn := hg.mn
  unfold planE at h ⊢
  by_cases h1 : decide ((busy.length : Int) > 24) = true
  · rw [if_pos h1] at h; exact absurd h (by decide)
  · rw [if_neg h1] at h ⊢
    by_cases h2 : busyE busy = 0
    · rw [if_neg (by simp [h2])] at h ⊢
      refine firstL_all fun x hx => ?_
      simp only [List.mem_cons, List.not_mem_nil, or_false] at hx
      rcases hx with rfl | rfl | rfl | rfl | rfl | rfl
      · simp [whenL]; omega
      · refine firstL_all fun x hx => ?_
        obtain ⟨p, hp, rfl⟩ := List.mem_map.1 hx
        have t2 := firstL_zero h (pairsL busy.length m) (by simp)
        exact firstL_zero t2 _ (List.mem_map.2 ⟨p, hm p hp, rfl⟩)
      · simp [whenL, outL]; omega
      · simp [whenL, outL]; omega
      · simp [whenL]; omega
      · rw [wrap_i64 (by omega)]; simp [whenL]; omega
    · rw [if_pos h2] at h; exact absurd h h2

theorem refX_some {s : List Int} (hv : Plan.Valid D (Mt m) s) (hl : s.length = m.length) : ∃ t, Plan.refX D (solvesB D m) m.length [] = some t ∧ t.length = m.length := by
  rw [Plan.refX_ext (fun l => solvesB_iff) Plan.Valid.nil]
  cases h : Plan.ext D (Plan.clash (Mt m)) m.length [] with
  | none => exact absurd h (Plan.ext_some hv (by simpa using hl) rfl)
  | some t => exact ⟨t, rfl, by have := (Plan.ext_valid Plan.Valid.nil h).2.1; simpa using this⟩
theorem refX_zero : Plan.refX D (solvesB D m) 0 [] = some [] := by
  rw [Plan.refX_ext (fun l => solvesB_iff) Plan.Valid.nil]; rfl
theorem refX_fewer (hv : Plan.Valid (datesL m busy frm to) (Mt m) sol) (hl : sol.length = m.length) {k : Nat} (hk : k ≤ m.length) : ∃ t, Plan.refX (datesL (m.take k) busy frm to) (solvesB (datesL (m.take k) busy frm to) (m.take k)) (m.take k).length [] = some t ∧ t.length = k := by
  have hlk : (m.take k).length = k := by rw [List.length_take]; omega
  have hget : ∀ i, i < k → (m.take k)[i]? = m[i]? := fun i hi => by rw [List.getElem?_take, if_pos hi]
  have hv2 : Plan.Valid (datesL (m.take k) busy frm to) (Mt (m.take k)) (sol.take k) := by
    refine (hv.take k).into (fun i hi d hd => ?_) (fun i j hi hj => ?_)
    · rw [List.length_take] at hi
      unfold datesL at hd ⊢
      rw [hget i (by omega)]; exact hd
    · rw [List.length_take] at hi
      unfold Mt
      rw [hget i (by omega), hget j (by omega)]
  obtain ⟨t, h1, h2⟩ := refX_some hv2 (by simp [hl])
  exact ⟨t, h1, by rw [h2, hlk]⟩
theorem refX_longer {to' : Int} (hv : Plan.Valid (datesL m busy frm to) (Mt m) sol) (hl : sol.length = m.length) (ht : to ≤ to') : ∃ t, Plan.refX (datesL m busy frm to') (solvesB (datesL m busy frm to') m) m.length [] = some t ∧ t.length = m.length := by
  refine refX_some (hv.into (fun i hi d hd => ?_) (fun i j _ _ => rfl)) hl
  unfold datesL at hd ⊢
  have := daysTo_mono hd ((to' - frm + 1).toNat - (to - frm + 1).toNat)
  rwa [show (to - frm + 1).toNat + ((to' - frm + 1).toNat - (to - frm + 1).toNat) = (to' - frm + 1).toNat by omega] at this
end
end Go.Proofs.YtiggikjbknoohaaGreatDoor
