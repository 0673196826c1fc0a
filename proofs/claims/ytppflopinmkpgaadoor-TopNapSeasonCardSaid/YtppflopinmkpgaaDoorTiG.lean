/- Titles: how the points begin; in plain Lean. -/
import Derived.Test.YtppflopinmkpgaaDoorTiF
noncomputable section
namespace Go.Proofs.YtppflopinmkpgaaDoor
open Go Go.Den Go.Den.Title

def ownG (team : Int) (p : Int × Int) : Int × Int := if p.1 = team then (2, 0) else if p.2 = team then (0, 2) else (0, 0)
def opnD (opn : List (Int × Int)) (k : Nat) : Int × Int := opn[k]?.getD (0, 0)
/-- room for points: what a team may still have -/
def roomF (pts : List Int) (opn : List (Int × Int)) (team : Int) (k : Nat) : Int := mostL pts opn team - ptL pts k
def room1 (pts : List Int) (opn : List (Int × Int)) (team : Int) : List Int := upTo pts.length pts.length (roomF pts opn team) 0
def given2 (opn : List (Int × Int)) (team : Int) (i : Nat) : List (Int × Int) := upTo opn.length i (fun k => ownG team (opnD opn k)) (0, 0)
def room2 (pts : List Int) (opn : List (Int × Int)) (team : Int) (i : Nat) : List Int := (room1 pts opn team).set team.toNat (mostL pts opn team - ptL pts team - 2 * ((opn.take i).countP (hasT team) : Nat))

section
variable {pts : List Int} {opn : List (Int × Int)} {team : Int}
theorem room1_len : (room1 pts opn team).length = pts.length := upTo_len
theorem given2_len {i : Nat} : (given2 opn team i).length = opn.length := upTo_len
theorem room2_len {i : Nat} : (room2 pts opn team i).length = pts.length := by unfold room2; rw [List.length_set]; exact room1_len
theorem room1_at {k : Nat} (h : k < (room1 pts opn team).length) : (room1 pts opn team)[k] = roomF pts opn team k := by
  unfold room1 at h ⊢
  rw [upTo_at, if_pos (by simpa [upTo] using h)]
theorem room2_zero (h0 : 0 ≤ team) (h1 : team < pts.length) : room2 pts opn team 0 = room1 pts opn team := by
  unfold room2
  apply List.ext_getElem
  · simp
  · intro k a b
    rw [List.getElem_set]
    split
    · rename_i e
      subst e
      rw [room1_at b]
      unfold roomF
      rw [Int.toNat_of_nonneg h0]
      simp
    · rfl
theorem upTo_skip {α : Type} {n i : Nat} {f : Nat → α} {z : α} (h : f i = z) : upTo n (i + 1) f z = upTo n i f z := by
  apply List.ext_getElem
  · simp [upTo]
  · intro k a b
    rw [upTo_at, upTo_at]
    rcases Nat.lt_trichotomy k i with h1 | h1 | h1
    · rw [if_pos (by omega), if_pos h1]
    · subst h1; rw [if_pos (by omega), if_neg (by omega), h]
    · rw [if_neg (by omega), if_neg (by omega)]
theorem opnD_eq {i : Nat} (h : i < opn.length) : opnD opn i = opn[i] := by simp [opnD, h]
theorem given2_all : given2 opn team opn.length = opn.map (ownG team) := by
  apply List.ext_getElem
  · simp [given2_len]
  · intro k a b
    unfold given2 at a ⊢
    have hk : k < opn.length := by simpa [upTo] using a
    rw [upTo_at, if_pos hk, opnD_eq hk]; simp
theorem given2_skip {i : Nat} (h : i < opn.length) (hn : opn[i].1 ≠ team ∧ opn[i].2 ≠ team) : given2 opn team (i + 1) = given2 opn team i := by
  unfold given2
  refine upTo_skip ?_
  rw [opnD_eq h]
  unfold ownG
  rw [if_neg hn.1, if_neg hn.2]
theorem given2_set {i : Nat} (h : i < opn.length) : (given2 opn team i).set i (ownG team opn[i]) = given2 opn team (i + 1) := by
  unfold given2
  rw [← upTo_set, opnD_eq h]
theorem given2_at {i : Nat} (h : i < (given2 opn team i).length) : (given2 opn team i)[i] = (0, 0) := by
  unfold given2 at h ⊢
  rw [upTo_at, if_neg (by omega)]
theorem own_a {p : Int × Int} {a : Nat} (ha : a < 2) (ht : tm p a = team) (hf : a = 1 → p.1 ≠ team) : (p2 (0, 0)).set a (I 2) = p2 (ownG team p) := by
  have : a = 0 ∨ a = 1 := by omega
  rcases this with rfl | rfl
  · have : p.1 = team := by simpa [tm] using ht
    unfold ownG
    rw [if_pos this]; rfl
  · have h2 : p.2 = team := by simpa [tm] using ht
    unfold ownG
    rw [if_neg (hf rfl), if_pos h2]; rfl
theorem room2_same {i : Nat} (h : i < opn.length) (hn : hasT team opn[i] = false) : room2 pts opn team (i + 1) = room2 pts opn team i := by
  unfold room2
  rw [count_take h, hn]; simp
theorem room2_at {i : Nat} (h : team.toNat < (room2 pts opn team i).length) : (room2 pts opn team i)[team.toNat] = mostL pts opn team - ptL pts team - 2 * ((opn.take i).countP (hasT team) : Nat) := by
  unfold room2 at h ⊢
  exact List.getElem_set_self ..
theorem room2_set {i : Nat} (h : i < opn.length) (hn : hasT team opn[i] = true) : (room2 pts opn team i).set team.toNat (mostL pts opn team - ptL pts team - 2 * ((opn.take i).countP (hasT team) : Nat) - 2) = room2 pts opn team (i + 1) := by
  unfold room2
  rw [List.set_set, count_take h, hn]
  congr 1
  simp; omega
theorem own_one {t : Int} {p : Int × Int} (hp : p.1 ≠ p.2) : (if p.1 = t then (ownG team p).1 else 0) + (if p.2 = t then (ownG team p).2 else 0) = if t = team then (if hasT team p = true then 2 else 0) else 0 := by
  unfold ownG
  by_cases h1 : p.1 = team
  · have h2 : ¬ p.2 = team := fun e => hp (h1.trans e.symm)
    rw [if_pos h1, if_pos (hasT_iff.2 (.inl h1))]
    by_cases ht : t = team
    · rw [if_pos ht, if_pos (h1.trans ht.symm), if_neg (fun e => h2 (e.trans ht))]; rfl
    · rw [if_neg ht, if_neg (fun e => ht (e.symm.trans h1))]
      split <;> rfl
  · rw [if_neg h1]
    by_cases h2 : p.2 = team
    · rw [if_pos h2, if_pos (hasT_iff.2 (.inr h2))]
      by_cases ht : t = team
      · rw [if_pos ht, if_neg (fun e => h1 (e.trans ht)), if_pos (h2.trans ht.symm)]; rfl
      · have h2t : ¬ p.2 = t := fun e => ht (e.symm.trans h2)
        rw [if_neg ht, if_neg h2t]
        split <;> rfl
    · rw [if_neg h2]
      have hn : ¬ hasT team p = true := fun h => by
        rcases hasT_iff.1 h with e | e
        · exact h1 e
        · exact h2 e
      rw [if_neg hn]
      split <;> split <;> split <;> rfl
theorem asg_own {t : Int} : ∀ {l : List (Int × Int)}, (∀ p ∈ l, p.1 ≠ p.2) → asg t l (l.map (ownG team)) = if t = team then 2 * ((l.countP (hasT team) : Nat) : Int) else 0
  | [], _ => by simp [asg]
  | p :: r, h => by
    have ih := asg_own (t := t) (l := r) fun x hx => h x (List.mem_cons_of_mem _ hx)
    simp only [List.map_cons, asg, ih, List.countP_cons, own_one (h p (List.mem_cons_self ..))]
    by_cases ht : t = team
    · rw [if_pos ht, if_pos ht, if_pos ht]
      split <;> omega
    · rw [if_neg ht, if_neg ht, if_neg ht]; rfl
theorem mid_start (hg : GoodR pts opn) (h0 : 0 ≤ team) (h1 : team < pts.length) (hr : ∀ x ∈ room1 pts opn team, 0 ≤ x) : Mid pts opn team 0 0 (given2 opn team opn.length) (room2 pts opn team opn.length) := by
  have hne : ∀ p ∈ opn, p.1 ≠ p.2 := fun p hp => (hg.each p hp).2.2
  have ha : List.take opn.length opn = opn := take_all (Nat.le_refl _)
  have hz : ptL (room2 pts opn team opn.length) team = 0 := by
    have hl : team.toNat < (room2 pts opn team opn.length).length := by rw [room2_len]; omega
    rw [← ptL_eq hl, room2_at hl, ha]
    unfold mostL; omega
  have look : ∀ (j : Nat) p g, opn[j]? = some p → (given2 opn team opn.length)[j]? = some g → g = ownG team p := fun j p g hp hgg => by
    rw [given2_all, List.getElem?_map, hp] at hgg
    simpa using hgg.symm
  refine ⟨given2_len, room2_len, fun g hgm => ?_, fun j p g hp hgg => ?_, fun j p g hp hgg => ?_, fun t a b => ?_, fun x hx => ?_, hz⟩
  · rw [given2_all] at hgm
    obtain ⟨p, _, rfl⟩ := List.mem_map.1 hgm
    unfold ownG
    split
    · simp
    · split <;> simp
  · rw [look j p g hp hgg]
    have e : (if hasT team p = true then (2 : Int) else if j < 0 then 2 else if j = 0 then ((0 : Nat) : Int) else 0) = if hasT team p = true then 2 else 0 := by
      split
      · rfl
      · rw [if_neg (by omega)]
        split <;> rfl
    rw [e]
    unfold ownG
    by_cases c1 : p.1 = team
    · rw [if_pos c1, if_pos (hasT_iff.2 (.inl c1))]; rfl
    · rw [if_neg c1]
      by_cases c2 : p.2 = team
      · rw [if_pos c2, if_pos (hasT_iff.2 (.inr c2))]; rfl
      · rw [if_neg c2, if_neg (by rw [hasT_iff]; rintro (x | x) <;> contradiction)]; rfl
  · rw [look j p g hp hgg]
    have hn := hne p (List.mem_of_getElem? hp)
    unfold ownG
    refine ⟨fun e => by rw [if_pos e], fun e => ?_⟩
    rw [if_neg (fun e1 => hn (e1.trans e.symm)), if_pos e]
  · rw [given2_all, asg_own hne]
    by_cases e : t = team
    · subst e
      rw [hz, if_pos rfl]
      unfold mostL; omega
    · rw [if_neg e]
      have hl : t.toNat < (room1 pts opn team).length := by rw [room1_len]; omega
      have : ptL (room2 pts opn team opn.length) t = ptL (room1 pts opn team) t := by
        unfold room2
        rw [ptL_set h0 (by rw [room1_len]; exact h1) a, if_neg (fun x => e x.symm)]
      rw [this, ← ptL_eq hl, room1_at hl]
      unfold roomF
      rw [Int.toNat_of_nonneg a]; omega
  · rcases List.mem_or_eq_of_mem_set hx with h | h
    · exact hr x h
    · rw [h, ha]; unfold mostL; omega
/-- a team that has more than that already proves it -/
theorem best_of_far (hg : GoodR pts opn) (h0 : 0 ≤ team) (h1 : team < pts.length) (hr : ∃ x ∈ room1 pts opn team, x < 0) : bestL pts opn team ≠ [] := by
  obtain ⟨x, hx, hx0⟩ := hr
  obtain ⟨k, hk, rfl⟩ := List.getElem_of_mem hx
  rw [room1_at hk] at hx0
  have hk' : k < pts.length := by rw [← room1_len (pts := pts) (opn := opn) (team := team)]; exact hk
  let P : Nat → Bool := fun t => decide (mostL pts opn team < ptL pts t)
  have hS : ∀ s ∈ (((List.range pts.length).filter P).map fun (i : Nat) => (i : Int)), mostL pts opn team + 1 ≤ ptL pts s := by
    intro s hs
    obtain ⟨i, hi, rfl⟩ := List.mem_map.1 hs
    have := (List.mem_filter.1 hi).2
    simp only [P, decide_eq_true_eq] at this
    omega
  have hmem : (k : Int) ∈ (((List.range pts.length).filter P).map fun (i : Nat) => (i : Int)) := List.mem_map.2 ⟨k, List.mem_filter.2 ⟨List.mem_range.2 hk', by simp only [P, decide_eq_true_eq]; unfold roomF at hx0; omega⟩, rfl⟩
  have hlen : 1 ≤ (((List.range pts.length).filter P).map fun (i : Nat) => (i : Int)).length := List.length_pos_of_mem hmem
  have hw : ∀ (S : List Int) (l : List (Int × Int)), 0 ≤ within S l := by
    intro S l
    induction l with
    | nil => simp [within]
    | cons p r ih => simp only [within]; split <;> omega
  refine best_of_set (P := P) h0 h1 ?_ ⟨k, hk', by simp only [P, decide_eq_true_eq]; unfold roomF at hx0; omega⟩ ?_
  · simp only [P, decide_eq_false_iff_not]
    rw [Int.toNat_of_nonneg h0]
    unfold mostL; omega
  · have hsum := sumL_le (f := fun _ => mostL pts opn team + 1) (g := ptL pts) hS
    rw [sumL_const, Int.mul_add, Int.mul_one] at hsum
    have := hw (((List.range pts.length).filter P).map fun (i : Nat) => (i : Int)) opn
    omega
end
end Go.Proofs.YtppflopinmkpgaaDoor
