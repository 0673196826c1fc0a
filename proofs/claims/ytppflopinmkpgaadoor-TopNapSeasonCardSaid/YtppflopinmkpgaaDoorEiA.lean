/- LeagueEither: what holds of races, in plain Lean. -/
import Derived.Test.YtppflopinmkpgaaDoorTiH
import Derived.Test.YtppflopinmkpgaaDoorElJ
import Derived.Test.YtppflopinmkpgaaDoorFnL
noncomputable section
namespace Go.Proofs.YtppflopinmkpgaaDoor
open Go Go.Den Go.Den.Title

/-- a team gets at most two points of each of its matches -/
theorem asg_le_count {t : Int} : ∀ {ps gs : List Pt}, (∀ p ∈ ps, p.1 ≠ p.2) → (∀ g ∈ gs, g.1 ≤ 2 ∧ g.2 ≤ 2) → asg t ps gs ≤ 2 * ((ps.countP (hasT t) : Nat) : Int)
  | [], gs, _, _ => by cases gs <;> simp [asg]
  | p :: ps, [], _, _ => by simp only [asg]; omega
  | p :: ps, g :: gs, hp, hg => by
    have ih := asg_le_count (t := t) (ps := ps) (gs := gs) (fun x hx => hp x (List.mem_cons_of_mem _ hx)) fun x hx => hg x (List.mem_cons_of_mem _ hx)
    have h1 := hp p (List.mem_cons_self ..)
    have h2 := hg g (List.mem_cons_self ..)
    rw [List.countP_cons]
    simp only [asg]
    by_cases h : hasT t p = true
    · rw [if_pos h]
      by_cases a : p.1 = t
      · have b : ¬ p.2 = t := fun e => h1 (a.trans e.symm)
        rw [if_pos a, if_neg b]; omega
      · rw [if_neg a]
        split <;> omega
    · rw [if_neg h]
      have a : ¬ p.1 = t := fun e => h (hasT_iff.2 (.inl e))
      have b : ¬ p.2 = t := fun e => h (hasT_iff.2 (.inr e))
      rw [if_neg a, if_neg b]; omega

section
variable {pts : List Int} {opn : List (Int × Int)} {team : Int}

/-- points with which a team is first -/
structure Wins (pts : List Int) (opn : List (Int × Int)) (team : Int) (points : List Int) : Prop where
  len : points.length = opn.length
  each : ∀ k ∈ points, 0 ≤ k ∧ k ≤ 2
  top : ∀ s : Int, 0 ≤ s → s < pts.length → ptL pts s + asg s opn (points.map gv) ≤ ptL pts team + asg team opn (points.map gv)
theorem wins_of_title {points : List Int} (h : titleF pts opn team points = 0) : Wins pts opn team points := by
  unfold titleF at h
  by_cases h1 : points.length ≠ opn.length
  · rw [if_pos h1] at h; exact absurd h (by decide)
  · rw [if_neg h1] at h
    by_cases h2 : (points.any fun k => outL k 0 2) = true
    · rw [if_pos h2] at h; exact absurd h (by decide)
    · rw [if_neg h2] at h
      have h3 := whenL_zero h (by decide)
      rw [Bool.not_eq_true] at h2
      refine ⟨by simpa using h1, fun k hk => ?_, fun s a b => ?_⟩
      · rw [List.any_eq_false] at h2
        exact outL_f (by simpa using h2 k hk)
      · rw [List.any_eq_false] at h3
        have hm : ptL pts s + asg s opn (points.map gv) ∈ totL pts opn (points.map gv) := List.mem_map.2 ⟨s.toNat, List.mem_range.2 (by omega), by rw [Int.toNat_of_nonneg a]⟩
        have := h3 _ hm
        simp at this
        omega
theorem gvs_ok {points : List Int} (h : ∀ k ∈ points, 0 ≤ k ∧ k ≤ 2) : ∀ g ∈ points.map gv, 0 ≤ g.1 ∧ 0 ≤ g.2 ∧ g.1 + g.2 = 2 := by
  intro g hg
  obtain ⟨k, hk, rfl⟩ := List.mem_map.1 hg
  have := h k hk
  simp only [gv]; omega
theorem none_of_wins (hg : GoodR pts opn) {points : List Int} (h : Wins pts opn team points) : bestL pts opn team = [] := by
  have g := gvs_ok h.each
  refine none_of_points (gs := points.map gv) (by rw [List.length_map]; exact h.len) g fun s a b => ?_
  have h2 := h.top s a b
  have h3 := asg_le_count (t := team) (ps := opn) (gs := points.map gv) (fun p hp => (hg.each p hp).2.2) fun x hx => by have := g x hx; omega
  unfold mostL
  omega

/-! ### one match less -/
theorem race_zero (hg : GoodR pts opn) : raceL pts opn = 0 := by
  have h1 : outL pts.length 2 24 = false := by
    have := hg.lo
    have := hg.hi
    simp [outL]; omega
  have h2 : pts.any farL = false := by
    rw [List.any_eq_false]
    intro x hx
    rw [farL_out]
    have := hg.pt x hx
    simp [outL]; omega
  have h3 : decide ((opn.length : Int) > 64) = false := by
    have := hg.len
    simp; omega
  rw [raceL_pairs h1 h2 h3]
  refine pairsL_none fun j hj => ?_
  obtain ⟨a, b, c⟩ := hg.each _ (List.getElem_mem hj)
  refine pairL_ok ?_ ?_
  · simp [unknownL]; omega
  · simpa using c
theorem chk_zero (hg : GoodR pts opn) (h0 : 0 ≤ team) (h1 : team < pts.length) : chkR pts opn team = 0 := by
  unfold chkR
  rw [race_zero hg]
  have : ([team].any (unknownL pts.length)) = false := by simp [unknownL]; omega
  rw [this]; rfl
end
end Go.Proofs.YtppflopinmkpgaaDoor
