/- LeagueEither: what holds of races, in plain Lean. -/
import Derived.Test.YtiggikjbknoohaaGreatDoorTiI
noncomputable section
namespace Go.Proofs.YtiggikjbknoohaaGreatDoor
open Go Go.Den Go.Den.Title

/-- a team gets at most two points of each of its matches -/
theorem asg_le_count {t : Int} : ∀ {ps gs : List Pt}, (∀ p ∈ ps, p.1 ≠ p.2) → (∀ g ∈ gs, g.1 ≤ 2 ∧ g.2 ≤ 2) → asg t ps gs ≤ 2 * ((ps.countP (hasT t) : Nat) : Int)
  | [], gs, _, _ => by cases gs <;> simp [asg]
  | p :: ps, [], _, _ => by simp only [asg]; omega
  | p :: ps, g :: gs, hp, hg => by
    have ih := asg_le_count (t := t) (ps := ps) (gs := gs) (fun x hx => hp x (List.mem_cons_of_mem _ hx)) fun x hx => hg x (List.mem_cons_of_mem _ hx)
    have h1 := hp p (List.mem_cons_self ..)
    have h2 := hg g (List.mem_cons_self ..)
    rw [List.countP_cons]
    simp only [asg]
    by_cases h : hasT t p = true
    · rw [if_pos h]
      by_cases a : p.1 = t
      · have b : ¬ p.2 = t := fun e => h1 (a.trans e.symm)
        rw [if_pos a, if_neg b]; omega
      · rw [if_neg a]
        split <;> omega
    · rw [if_neg h]
      have a : ¬ p.1 = t := fun e => h (hasT_iff.2 (.inl e))
      have b : ¬ p.2 = t := fun e => h (hasT_iff.2 (.inr e))
      rw [if_neg a, if_neg b]; omega

section
variable {pts : List Int} {opn : List (Int × Int)} {team : Int}

/-- points with which a team is first -/
structure Wins (pts : List Int) (opn : List (Int × Int)) (team : Int) (points : List Int) : Prop where
  len : points.length = opn.length
  each : ∀ k ∈ points, 0 ≤ k ∧ k ≤ 2
  top : ∀ s : Int, 0 ≤ s → s < pts.length → ptL pts s + asg s opn (points.map gv) ≤ ptL pts team + asg team opn (points.map gv)
theorem wins_of_title {points : List Int} (h : titleF pts opn team points = 0) : Wins pts opn team points := by
  unfold titleF at h
  by_cases h1 : points.length ≠ opn.length
  · rw [if_pos h1] at h; exact absurd h (by decide)
  · rw [if_neg h1] at h
    by_cases h2 : (points.any fun k => outL k 0 2) = true
    · rw [if_pos h2] at h; exact absurd h (by decide)
    · rw [if_neg h2] at h
      have h3 := whenL_zero h (by decide)
      rw [Bool.not_eq_true] at h2
      refine ⟨by simpa using h1, fun k hk => ?_, fun s a b => ?_⟩
      · rw [List.any_eq_false] at h2
        exact outL_f (by simpa using h2 k hk)
      · rw [List.any_eq_false] at h3
        have hm : ptL pts s + asg s opn (points.map gv) ∈ totL pts opn (points.map gv) := List.mem_map.2 ⟨s.toNat, List.mem_range.2 (by omega), by rw [Int.toNat_of_nonneg a]⟩
        have := h3 _ hm
        simp at this
        omega
theorem gvs_ok {points : List Int} (h : ∀ k ∈ points, 0 ≤ k ∧ k ≤ 2) : ∀ g ∈ points.map gv, 0 ≤ g.1 ∧ 0 ≤ g.2 ∧ g.1 + g.2 = 2 := by
  intro g hg
  obtain ⟨k, hk, rfl⟩ := List.mem_map.1 hg
  have := h k hk
  simp only [gv]; omega
theorem none_of_wins (hg : GoodR pts opn) {points : List Int} (h : Wins pts opn team points) : bestL pts opn team = [] := by
  have g := gvs_ok h.each
  refine none_of_points (gs := points.map gv) (by rw [List.length_map]; exact h.len) g fun s a b => ?_
  have h2 := h.top s a b
  have h3 := asg_le_count (t := team) (ps := opn) (gs := points.map gv) (fun p hp => (hg.each p hp).2.2) fun x hx => by have := g x hx; omega
  unfold mostL
  omega

/-- one of the numbers is the greatest -/
theorem exists_top (F : Nat → Int) : ∀ n, 0 < n → ∃ i, i < n ∧ ∀ j, j < n → F j ≤ F i
  | 0, h => by omega
  | 1, _ => ⟨0, by omega, fun j hj => by
      have : j = 0 := by omega
      subst this; exact Int.le_refl _⟩
  | n + 2, _ => by
    obtain ⟨i, hi, h⟩ := exists_top F (n + 1) (by omega)
    by_cases c : F i ≤ F (n + 1)
    · refine ⟨n + 1, by omega, fun j hj => ?_⟩
      rcases Nat.lt_or_ge j (n + 1) with h1 | h1
      · exact Int.le_trans (h j h1) c
      · have : j = n + 1 := by omega
        subst this; exact Int.le_refl _
    · refine ⟨i, by omega, fun j hj => ?_⟩
      rcases Nat.lt_or_ge j (n + 1) with h1 | h1
      · exact h j h1
      · have : j = n + 1 := by omega
        subst this; omega
/-- somebody can always be first -/
theorem some_first (hg : GoodR pts opn) : ∃ i : Nat, i < pts.length ∧ bestL pts opn i = [] := by
  obtain ⟨i, hi, h⟩ := exists_top (fun k => ptL pts k + asg k opn ((List.replicate opn.length (1 : Int)).map gv)) pts.length (by have := hg.lo; omega)
  refine ⟨i, hi, none_of_wins hg (points := List.replicate opn.length (1 : Int)) ⟨List.length_replicate .., fun k hk => ?_, fun s a b => ?_⟩⟩
  · have := (List.mem_replicate.1 hk).2; omega
  · have := h s.toNat (by omega)
    simp only [Int.toNat_of_nonneg a] at this
    exact this
/-- who has the most points, and is in all open matches, can be first -/
theorem own_first (hg : GoodR pts opn) (hb : ∀ s : Int, 0 ≤ s → s < pts.length → ptL pts s ≤ ptL pts team) (ha : ∀ p ∈ opn, hasT team p = true) : bestL pts opn team = [] := by
  have hp : ∀ p ∈ opn, p.1 ≠ p.2 := fun p hp => (hg.each p hp).2.2
  refine none_of_points (gs := opn.map (ownG team)) (by simp) (fun g hgm => ?_) fun s a b => ?_
  · obtain ⟨p, hpm, rfl⟩ := List.mem_map.1 hgm
    have := hasT_iff.1 (ha p hpm)
    unfold ownG
    split
    · decide
    · split
      · decide
      · rcases this with e | e <;> contradiction
  · rw [asg_own hp]
    have := hb s a b
    unfold mostL
    split
    · rename_i e
      rw [e]; omega
    · omega

/-! ### one match less -/
def lessO {α : Type} (l : List α) (k : Nat) : List α := l.take k ++ l.drop (k + 1)
theorem lessO_len {α : Type} {l : List α} {k : Nat} (h : k < l.length) : (lessO l k).length + 1 = l.length := by
  unfold lessO
  rw [List.length_append, List.length_take, List.length_drop]; omega
theorem lessO_mem {α : Type} {l : List α} {k : Nat} {x : α} (h : x ∈ lessO l k) : x ∈ l := by
  rcases List.mem_append.1 h with h | h
  · exact List.mem_of_mem_take h
  · exact List.mem_of_mem_drop h
theorem count_less {α : Type} {l : List α} {f : α → Bool} {k : Nat} (h : k < l.length) : (lessO l k).countP f + (if f l[k] = true then 1 else 0) = l.countP f := by
  have e : l.take k ++ l[k] :: l.drop (k + 1) = l := by rw [← List.drop_eq_getElem_cons h, List.take_append_drop]
  have c : (l.take k ++ l[k] :: l.drop (k + 1)).countP f = l.countP f := by rw [e]
  rw [List.countP_append, List.countP_cons] at c
  unfold lessO
  rw [List.countP_append]; omega
theorem asg_drop {t : Int} : ∀ {ps gs : List Pt} {k : Nat} (h1 : k < ps.length) (h2 : k < gs.length), asg t (lessO ps k) (lessO gs k) + ((if ps[k].1 = t then gs[k].1 else 0) + (if ps[k].2 = t then gs[k].2 else 0)) = asg t ps gs
  | [], _, _, h1, _ => by simp at h1
  | _ :: _, [], _, _, h2 => by simp at h2
  | p :: ps, g :: gs, 0, _, _ => by
    simp only [lessO, List.take_zero, List.nil_append, List.drop_succ_cons, List.drop_zero, List.getElem_cons_zero, asg]; omega
  | p :: ps, g :: gs, k + 1, h1, h2 => by
    have ih := asg_drop (t := t) (ps := ps) (gs := gs) (k := k) (by simpa using h1) (by simpa using h2)
    simp only [lessO] at ih
    simp only [lessO, List.take_succ_cons, List.drop_succ_cons, List.cons_append, asg, List.getElem_cons_succ]
    omega
theorem ptL_setN {l : List Int} {i : Nat} {x u : Int} (hi : i < l.length) (hu : 0 ≤ u) : ptL (l.set i x) u = if (i : Int) = u then x else ptL l u := by
  have := ptL_set (l := l) (t := (i : Int)) (x := x) (by omega) (by omega) hu
  rwa [Int.toNat_natCast] at this
theorem good_next (hg : GoodR pts opn) {i : Nat} {x : Int} (hx : 0 ≤ x ∧ x ≤ 999999999) {k : Nat} : GoodR (pts.set i x) (lessO opn k) := by
  have hl : (pts.set i x).length = pts.length := by simp
  refine ⟨by rw [hl]; exact hg.lo, by rw [hl]; exact hg.hi, fun y hy => ?_, ?_, fun p hp => ?_⟩
  · rcases List.mem_or_eq_of_mem_set hy with h | rfl
    · exact hg.pt y h
    · exact hx
  · have := hg.len
    unfold lessO
    rw [List.length_append, List.length_take, List.length_drop]; omega
  · rw [hl]; exact hg.each p (lessO_mem hp)
theorem race_zero (hg : GoodR pts opn) : raceL pts opn = 0 := by
  have h1 : outL pts.length 2 24 = false := by
    have := hg.lo
    have := hg.hi
    simp [outL]; omega
  have h2 : pts.any farL = false := by
    rw [List.any_eq_false]
    intro x hx
    rw [farL_out]
    have := hg.pt x hx
    simp [outL]; omega
  have h3 : decide ((opn.length : Int) > 64) = false := by
    have := hg.len
    simp; omega
  rw [raceL_pairs h1 h2 h3]
  refine pairsL_none fun j hj => ?_
  obtain ⟨a, b, c⟩ := hg.each _ (List.getElem_mem hj)
  refine pairL_ok ?_ ?_
  · simp [unknownL]; omega
  · simpa using c
theorem chk_zero (hg : GoodR pts opn) (h0 : 0 ≤ team) (h1 : team < pts.length) : chkR pts opn team = 0 := by
  unfold chkR
  rw [race_zero hg]
  have : ([team].any (unknownL pts.length)) = false := by simp [unknownL]; omega
  rw [this]; rfl
/-- with a match decided for the team nothing gets worse for it -/
theorem next_first (hg : GoodR pts opn) {i k : Nat} (hi : i < pts.length) (hk : k < opn.length) (ho : hasT i opn[k] = true) {points : List Int} (h : Wins pts opn i points) : bestL (pts.set i (pts[i] + 2)) (lessO opn k) i = [] := by
  have g := gvs_ok h.each
  have lk : k < (points.map gv).length := by rw [List.length_map, h.len]; exact hk
  have g2 : ∀ x ∈ lessO (points.map gv) k, 0 ≤ x.1 ∧ 0 ≤ x.2 ∧ x.1 + x.2 = 2 := fun x hx => g x (lessO_mem hx)
  have ei : ptL pts i = pts[i] := by simp [ptL, hi]
  have cl := count_less (f := hasT i) hk
  rw [if_pos ho] at cl
  have em : mostL (pts.set i (pts[i] + 2)) (lessO opn k) i = mostL pts opn i := by
    unfold mostL
    rw [ptL_setN hi (by omega), if_pos rfl, ei]; omega
  refine none_of_points (gs := lessO (points.map gv) k) ?_ g2 fun s a b => ?_
  · have e1 := lessO_len hk
    have e2 := lessO_len lk
    have := h.len
    rw [List.length_map] at e2
    omega
  · rw [em]
    rw [List.length_set] at b
    have d := asg_drop (t := s) hk lk
    have dg := g _ (List.getElem_mem lk)
    have pos : 0 ≤ (if opn[k].1 = s then (points.map gv)[k].1 else 0) + (if opn[k].2 = s then (points.map gv)[k].2 else 0) := by
      split <;> split <;> omega
    generalize (if opn[k].1 = s then (points.map gv)[k].1 else 0) + (if opn[k].2 = s then (points.map gv)[k].2 else 0) = z at d pos
    rw [ptL_setN hi a]
    by_cases e : (i : Int) = s
    · subst e
      rw [if_pos rfl]
      have cs := asg_le_count (t := (i : Int)) (ps := lessO opn k) (gs := lessO (points.map gv) k) (fun p hp => (hg.each p (lessO_mem hp)).2.2) fun x hx => by have := g2 x hx; omega
      unfold mostL
      rw [ei]
      omega
    · rw [if_neg e]
      have t1 := h.top s a b
      have cs := asg_le_count (t := (i : Int)) (ps := opn) (gs := points.map gv) (fun p hp => (hg.each p hp).2.2) fun x hx => by have := g x hx; omega
      unfold mostL
      omega
/-- the set that is found is one that the reference accepts -/
theorem setE_best (h0 : 0 ≤ team) (h1 : team < pts.length) : ∀ {m : Nat}, bestTo pts opn team m ≠ [] → setE pts opn team (bestTo pts opn team m) = 0
  | 0, h => absurd rfl h
  | m + 1, h => by
    have e : bestTo pts opn team (m + 1) = stepB pts opn team (bestTo pts opn team m) m := rfl
    rw [e, stepB_ref h0 h1] at h ⊢
    split at h
    · rename_i hc
      rw [if_pos hc]
      simp only [Bool.and_eq_true, beq_iff_eq] at hc
      exact hc.1
    · rename_i hc
      rw [if_neg hc]
      exact setE_best h0 h1 h
end
end Go.Proofs.YtiggikjbknoohaaGreatDoor
