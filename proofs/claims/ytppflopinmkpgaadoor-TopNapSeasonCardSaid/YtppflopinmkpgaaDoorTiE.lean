/- Titles: sets by their bits, proofs by sets, lists that are filled from the front; in plain Lean. -/
import Derived.Test.YtppflopinmkpgaaDoorTiD
noncomputable section
namespace Go.Proofs.YtppflopinmkpgaaDoor
open Go Go.Den Go.Den.Title

/-! ### lists that are filled from the front -/
def upTo {α : Type} (n i : Nat) (f : Nat → α) (z : α) : List α := (List.range n).map fun k => if k < i then f k else z
section
variable {α : Type} {n i : Nat} {f : Nat → α} {z : α}
theorem upTo_len : (upTo n i f z).length = n := by simp [upTo]
theorem upTo_zero : upTo n 0 f z = List.replicate n z := by
  apply List.ext_getElem
  · simp [upTo]
  · intro k h1 h2; simp [upTo]
theorem upTo_at {k : Nat} (h : k < (upTo n i f z).length) : (upTo n i f z)[k] = if k < i then f k else z := by simp [upTo]
theorem upTo_set : (upTo n i f z).set i (f i) = upTo n (i + 1) f z := by
  apply List.ext_getElem
  · simp [upTo]
  · intro k h1 h2
    rw [List.getElem_set, upTo_at, upTo_at]
    split
    · rename_i e; subst e; rw [if_pos (by omega)]
    · by_cases h : k < i
      · rw [if_pos h, if_pos (by omega)]
      · rw [if_neg h, if_neg (by omega)]
end
theorem repl_flat {α : Type} {f : α → List Value} {x : α} : ∀ n, repl (f x) n = (List.replicate n x).flatMap f
  | 0 => rfl
  | n + 1 => by simp [repl, repl_flat (f := f) n, List.replicate_succ]

/-! ### sets by bits -/
theorem bits_of (P : Nat → Bool) : ∀ n : Nat, ∃ k, k < 2 ^ n ∧ ∀ i, i < n → ((k >>> i) % 2 == 1) = P i
  | 0 => ⟨0, by simp, fun i h => by omega⟩
  | n + 1 => by
    obtain ⟨k, hk, h⟩ := bits_of P n
    refine ⟨k + if P n then 2 ^ n else 0, by rw [Nat.pow_succ]; split <;> omega, fun i hi => ?_⟩
    have hdiv : ∀ x : Nat, (x >>> i) % 2 = x / 2 ^ i % 2 := fun x => by rw [Nat.shiftRight_eq_div_pow]
    rw [hdiv]
    rcases Nat.lt_or_ge i n with h1 | h1
    · have hk' := h i h1
      rw [hdiv] at hk'
      rw [← hk']
      split
      · have e : 2 ^ n = 2 ^ i * (2 * 2 ^ (n - i - 1)) := by
          rw [← Nat.pow_succ', ← Nat.pow_add]; congr 1; omega
        rw [e, Nat.add_mul_div_left _ _ (Nat.two_pow_pos i), Nat.add_mul_mod_self_left]
      · rfl
    · have : i = n := by omega
      subst this
      split
      · rename_i hp
        rw [Nat.add_div_right _ (Nat.two_pow_pos i), Nat.div_eq_of_lt hk, hp]; rfl
      · rename_i hp
        rw [Nat.add_zero, Nat.div_eq_of_lt hk]
        simpa using hp
theorem setTo_bits {P : Nat → Bool} {n k : Nat} (h : ∀ i, i < n → ((k >>> i) % 2 == 1) = P i) : setTo n k = ((List.range n).filter P).map fun (i : Nat) => (i : Int) := by
  unfold setTo
  congr 1
  apply List.filter_congr
  intro i hi
  exact h i (List.mem_range.1 hi)

theorem sumP_sumL {pts set : List Int} : sumP pts set = sumL (ptL pts) set := by
  induction set with
  | nil => rfl
  | cons a r ih =>
    have : sumP pts (a :: r) = ptL pts a + sumP pts r := by simp [sumP]
    rw [this, ih]; rfl
theorem within_count {set : List Int} : ∀ {opn : List (Int × Int)}, ((opn.countP (inS set) : Nat) : Int) = within set opn
  | [] => rfl
  | p :: r => by
    have ih := within_count (set := set) (opn := r)
    have hin : inS set p = true ↔ p.1 ∈ set ∧ p.2 ∈ set := by
      unfold inS
      rw [Bool.and_eq_true, List.any_eq_true, List.any_eq_true]
      constructor
      · rintro ⟨⟨x, h1, h2⟩, ⟨y, h3, h4⟩⟩
        simp only [beq_iff_eq] at h2 h4
        exact ⟨h2 ▸ h1, h4 ▸ h3⟩
      · rintro ⟨h1, h2⟩
        exact ⟨⟨_, h1, by simp⟩, ⟨_, h2, by simp⟩⟩
    rw [List.countP_cons]
    simp only [within]
    by_cases h : inS set p = true
    · rw [if_pos h, if_pos (hin.1 h)]; omega
    · rw [if_neg h, if_neg fun x => h (hin.2 x)]; omega

section
variable {pts : List Int} {opn : List (Int × Int)} {team : Int}
theorem best_mono : ∀ {k m : Nat}, k ≤ m → bestTo pts opn team k ≠ [] → bestTo pts opn team m ≠ []
  | k, 0, h, hn => by have : k = 0 := by omega
                      subst this; exact hn
  | k, m + 1, h, hn => by
    rcases Nat.lt_or_ge k (m + 1) with h1 | h1
    · have := best_mono (k := k) (m := m) (by omega) hn
      show stepB _ _ _ _ _ ≠ []
      unfold stepB
      split
      · rename_i hc
        simp only [Bool.and_eq_true, Bool.not_eq_true'] at hc
        intro e
        rw [e] at hc
        simp at hc
      · exact this
    · have : k = m + 1 := by omega
      subst this; exact hn
/-- a set that proves it is found -/
theorem best_of_proof {k : Nat} (hk : k < 2 ^ pts.length) (hne : setTo pts.length k ≠ []) (hb : (k >>> team.toNat) % 2 = 0) (hp : proveL pts opn team (setTo pts.length k) = true) : bestL pts opn team ≠ [] := by
  refine best_mono (k := k + 1) (by omega) ?_
  show stepB _ _ _ _ _ ≠ []
  unfold stepB
  by_cases he : bestTo pts opn team k = []
  · rw [if_pos]
    · exact hne
    · rw [he, hp, hb]
      cases h : setTo pts.length k with
      | nil => exact absurd h hne
      | cons _ _ => rfl
  · split
    · exact hne
    · exact he
/-- what is found proves it -/
theorem proof_of_best : ∀ {m : Nat}, bestTo pts opn team m ≠ [] → ∃ k, proveL pts opn team (setTo pts.length k) = true
  | 0, h => absurd rfl h
  | m + 1, h => by
    have h : stepB pts opn team (bestTo pts opn team m) m ≠ [] := h
    unfold stepB at h
    split at h
    · rename_i hc
      simp only [Bool.and_eq_true] at hc
      exact ⟨m, hc.2⟩
    · exact proof_of_best h

/-- a set of other teams with too many points among themselves -/
theorem best_of_set {P : Nat → Bool} (h0 : 0 ≤ team) (h1 : team < pts.length) (ht : P team.toNat = false) (hne : ∃ i, i < pts.length ∧ P i = true)
    (hp : (((List.range pts.length).filter P).map fun (i : Nat) => (i : Int)).length * mostL pts opn team < sumL (ptL pts) (((List.range pts.length).filter P).map fun (i : Nat) => (i : Int)) + 2 * within (((List.range pts.length).filter P).map fun (i : Nat) => (i : Int)) opn) : bestL pts opn team ≠ [] := by
  obtain ⟨k, hk, hb⟩ := bits_of P pts.length
  have hs := setTo_bits hb
  refine best_of_proof hk ?_ ?_ ?_
  · rw [hs]
    obtain ⟨i, hi, hpi⟩ := hne
    intro e
    have : (i : Int) ∈ (((List.range pts.length).filter P).map fun (i : Nat) => (i : Int)) := List.mem_map.2 ⟨i, List.mem_filter.2 ⟨List.mem_range.2 hi, hpi⟩, rfl⟩
    rw [e] at this
    cases this
  · have := hb team.toNat (by omega)
    rw [ht] at this
    simp only [beq_eq_false_iff_ne, ne_eq] at this
    omega
  · rw [hs]
    unfold proveL
    rw [decide_eq_true_eq, sumP_sumL, within_count]
    exact hp
theorem none_of_points {gs : List (Int × Int)} (hl : gs.length = opn.length) (hg : ∀ g ∈ gs, 0 ≤ g.1 ∧ 0 ≤ g.2 ∧ g.1 + g.2 = 2) (hm : ∀ s : Int, 0 ≤ s → s < pts.length → ptL pts s + asg s opn gs ≤ mostL pts opn team) : bestL pts opn team = [] := by
  by_cases h : bestL pts opn team = []
  · exact h
  · exfalso
    obtain ⟨k, hk⟩ := proof_of_best h
    unfold proveL at hk
    rw [decide_eq_true_eq, sumP_sumL, within_count] at hk
    have nd : (setTo pts.length k).Nodup := setTo_sorted.imp fun h => by omega
    have := no_proof (pts := ptL pts) (most := mostL pts opn team) nd hl hg fun s hs => hm s (setTo_mem.1 hs).1 (setTo_mem.1 hs).2.1
    omega
end
end Go.Proofs.YtppflopinmkpgaaDoor
