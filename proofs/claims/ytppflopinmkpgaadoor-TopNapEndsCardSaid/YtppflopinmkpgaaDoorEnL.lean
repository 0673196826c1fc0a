/- TopNapEnds: all ends of the open matches, in plain Lean. -/
import Derived.Test.YtppflopinmkpgaaDoorEiA
noncomputable section
namespace Go.Proofs.YtppflopinmkpgaaDoor
open Go Go.Den Go.Den.Title

/-- the points of an end: its digits to the base 3 -/
def digs : Nat → Nat → List Int
  | 0, _ => []
  | i + 1, k => digs i k ++ [((k / 3 ^ i % 3 : Nat) : Int)]
theorem digs_len {k : Nat} : ∀ {i : Nat}, (digs i k).length = i
  | 0 => rfl
  | i + 1 => by simp [digs, digs_len (k := k) (i := i)]
theorem digs_ok {k : Nat} : ∀ {i : Nat}, ∀ x ∈ digs i k, 0 ≤ x ∧ x ≤ 2
  | 0, x, h => by simp [digs] at h
  | i + 1, x, h => by
    simp only [digs, List.mem_append, List.mem_singleton] at h
    rcases h with h | rfl
    · exact digs_ok x h
    · omega
theorem digs_add {k c i : Nat} : ∀ {j : Nat}, j ≤ i → digs j (k + c * 3 ^ i) = digs j k
  | 0, _ => rfl
  | j + 1, h => by
    simp only [digs]
    rw [digs_add (by omega)]
    have e : (k + c * 3 ^ i) / 3 ^ j % 3 = k / 3 ^ j % 3 := by
      have e1 : 3 ^ i = 3 ^ j * (3 ^ (i - j - 1) * 3) := by
        rw [← Nat.pow_succ, ← Nat.pow_add]
        congr 1; omega
      have e2 : c * 3 ^ i = 3 ^ j * (c * 3 ^ (i - j - 1) * 3) := by
        rw [e1, Nat.mul_left_comm c, Nat.mul_assoc c]
      rw [e2, Nat.add_mul_div_left _ _ (Nat.pow_pos (by decide)), Nat.add_mul_mod_self_right]
    rw [e]
theorem digs_all : ∀ (i : Nat) (p : List Int), p.length = i → (∀ x ∈ p, 0 ≤ x ∧ x ≤ 2) → ∃ e, e < 3 ^ i ∧ digs i e = p
  | 0, p, h, _ => ⟨0, by decide, by rw [List.length_eq_zero_iff.1 h]; rfl⟩
  | i + 1, p, h, hp => by
    have hne : p ≠ [] := by intro e; rw [e] at h; simp at h
    have e0 := List.dropLast_concat_getLast hne
    obtain ⟨e, he, hd⟩ := digs_all i p.dropLast (by simp; omega) fun x hx => hp x ((List.dropLast_sublist p).subset hx)
    have hl := hp _ (List.getLast_mem hne)
    refine ⟨e + (p.getLast hne).toNat * 3 ^ i, ?_, ?_⟩
    · have : (p.getLast hne).toNat * 3 ^ i ≤ 2 * 3 ^ i := Nat.mul_le_mul_right _ (by omega)
      rw [Nat.pow_succ]; omega
    · simp only [digs]
      rw [digs_add (Nat.le_refl _), hd]
      have : (e + (p.getLast hne).toNat * 3 ^ i) / 3 ^ i % 3 = (p.getLast hne).toNat := by
        rw [Nat.add_mul_div_right _ _ (Nat.pow_pos (by decide)), Nat.div_eq_of_lt he]
        omega
      rw [this, Int.toNat_of_nonneg hl.1]
      exact e0
theorem pow3_le {n : Nat} (h : n ≤ 5) : 3 ^ n ≤ 243 := Nat.pow_le_pow_right (n := 3) (by decide) h

section
variable {pts : List Int} {opn : List (Int × Int)} {team : Int}
def firstE (pts : List Int) (opn : List (Int × Int)) (team : Int) (e : Nat) : Bool := titleF pts opn team (digs opn.length e) == 0
def someE (pts : List Int) (opn : List (Int × Int)) (team : Int) (n : Nat) : Bool := (List.range n).any (firstE pts opn team)
theorem someE_succ {n : Nat} : someE pts opn team (n + 1) = (someE pts opn team n || firstE pts opn team n) := by
  simp [someE, List.range_succ]
theorem titleF_digs {e : Nat} : titleF pts opn team (digs opn.length e) = whenL ((totL pts opn ((digs opn.length e).map gv)).any fun y => decide (y > ptL pts team + asg team opn ((digs opn.length e).map gv))) 21 := by
  unfold titleF
  rw [if_neg (by simp [digs_len]), if_neg]
  rw [Bool.not_eq_true, List.any_eq_false]
  intro x hx
  have := digs_ok x hx
  simp [outL]; omega
theorem none_of_someE (hg : GoodR pts opn) {n : Nat} (h : someE pts opn team n = true) : bestL pts opn team = [] := by
  unfold someE at h
  rw [List.any_eq_true] at h
  obtain ⟨e, _, he⟩ := h
  unfold firstE at he
  exact none_of_wins hg (wins_of_title (by simpa using he))
theorem someE_of {p : List Int} (h : titleF pts opn team p = 0) : someE pts opn team (3 ^ opn.length) = true := by
  have w := wins_of_title h
  obtain ⟨e, he, hd⟩ := digs_all opn.length p w.len w.each
  unfold someE
  rw [List.any_eq_true]
  refine ⟨e, List.mem_range.2 he, ?_⟩
  unfold firstE
  rw [hd, h]; rfl
theorem firstE_all {e : Nat} : ((totL pts opn ((digs opn.length e).map gv)).all fun y => decide (y ≤ ptL pts team + asg team opn ((digs opn.length e).map gv))) = firstE pts opn team e := by
  unfold firstE
  rw [titleF_digs, Bool.eq_iff_iff, List.all_eq_true, beq_iff_eq]
  constructor
  · intro h
    have : ((totL pts opn ((digs opn.length e).map gv)).any fun y => decide (y > ptL pts team + asg team opn ((digs opn.length e).map gv))) = false := by
      rw [List.any_eq_false]
      intro y hy
      have := h y hy
      simp only [decide_eq_true_eq] at this ⊢
      omega
    rw [this]; rfl
  · intro h y hy
    have h := whenL_zero h (by decide)
    rw [List.any_eq_false] at h
    have := h y hy
    simp only [decide_eq_true_eq] at this ⊢
    omega
end
end Go.Proofs.YtppflopinmkpgaaDoor
