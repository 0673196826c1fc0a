/- Plain law: teams with the same figures. -/
import Derived.Test.YtiggikjbknoohaaGreatDoorTbM
noncomputable section
namespace Go.Proofs.YtiggikjbknoohaaGreatDoor
open Go Go.Den
set_option maxRecDepth 100000

/-- the rows before i with the figures a, by their numbers -/
def idxs (t : List Rw) (a : Fg) (i : Nat) : List Int := ((List.range i).filter fun j => decide (t[j]?.map figL = some a)).map fun (j : Nat) => (j : Int)
section
variable {t : List Rw} {a b : Fg} {i : Nat}
theorem idxs_succ (h : i < t.length) : idxs t a (i + 1) = if figL t[i] = a then idxs t a i ++ [(i : Int)] else idxs t a i := by
  unfold idxs
  rw [List.range_succ, List.filter_append, List.map_append]
  have e : t[i]?.map figL = some (figL t[i]) := by rw [List.getElem?_eq_getElem h]; rfl
  by_cases p : figL t[i] = a
  · have hp : decide (t[i]?.map figL = some a) = true := decide_eq_true (by rw [e, p])
    rw [if_pos p, List.filter_cons, if_pos hp]; rfl
  · have hp : ¬ decide (t[i]?.map figL = some a) = true := by
      rw [decide_eq_true_iff, e]; exact fun h => p (Option.some.inj h)
    rw [if_neg p, List.filter_cons, if_neg hp]; simp
theorem mem_idxs {k : Int} : k ∈ idxs t a i ↔ ∃ j, j < i ∧ k = (j : Int) ∧ t[j]?.map figL = some a := by
  unfold idxs
  rw [List.mem_map]
  constructor
  · rintro ⟨j, hj, rfl⟩
    rw [List.mem_filter, List.mem_range, decide_eq_true_iff] at hj
    exact ⟨j, hj.1, rfl, hj.2⟩
  · rintro ⟨j, h1, rfl, h2⟩
    exact ⟨j, by rw [List.mem_filter, List.mem_range, decide_eq_true_iff]; exact ⟨h1, h2⟩, rfl⟩
theorem idxs_ne {j : Nat} (hab : a ≠ b) (hne : idxs t a i ≠ []) : idxs t a i ≠ idxs t b j := fun e => by
  obtain ⟨k, r, hk⟩ := List.exists_cons_of_ne_nil hne
  have h1 : k ∈ idxs t a i := by rw [hk]; exact List.mem_cons_self ..
  have h2 : k ∈ idxs t b j := by rw [← e]; exact h1
  obtain ⟨u, _, rfl, hu⟩ := mem_idxs.1 h1
  obtain ⟨v, _, e2, hv⟩ := mem_idxs.1 h2
  have : u = v := by omega
  subst this
  rw [hu] at hv
  exact hab (Option.some.inj hv)
theorem idxs_len : (idxs t a i).length ≤ i := by
  unfold idxs
  rw [List.length_map]
  exact Nat.le_trans (List.length_filter_le _ _) (by rw [List.length_range]; exact Nat.le_refl _)
end
/-- the matches of teams in a list -/
def onlyL (ks : List Int) (l : List Ma) : List Ma := l.filter fun m => (ks.any fun x => m.home == x) && (ks.any fun x => m.away == x)
def figA (x : Rw) : Fg := (x.pts, x.fr - x.ag, 0)
theorem among_idxs {r : Ru} {n : Nat} {l : List Ma} (hl : ∀ m ∈ l, MaOk n m) {a : Fg} {i : Nat} (ha : (rowsF r n l)[i]?.map figL = some a) :
    ∀ x, (rowsF r n (onlyL (idxs (rowsF r n l) a n) l))[i]? = some x → amongL r n l i = figA x := by
  intro x hx
  have e : (l.filter fun m => decide ((rowsF r n l)[m.home.toNat]?.map figL = (rowsF r n l)[i]?.map figL) && decide ((rowsF r n l)[m.away.toNat]?.map figL = (rowsF r n l)[i]?.map figL)) = onlyL (idxs (rowsF r n l) a n) l := by
    unfold onlyL
    refine List.filter_congr fun m hm => ?_
    have key : ∀ k : Int, 0 ≤ k ∧ k < n → decide ((rowsF r n l)[k.toNat]?.map figL = (rowsF r n l)[i]?.map figL) = (idxs (rowsF r n l) a n).any fun x => k == x := fun k hk => by
      rw [ha, Bool.eq_iff_iff, decide_eq_true_iff, List.any_eq_true]
      constructor
      · intro h
        exact ⟨k, mem_idxs.2 ⟨k.toNat, by omega, by omega, h⟩, by simp⟩
      · rintro ⟨y, hy, e⟩
        have : k = y := by simpa using e
        subst this
        obtain ⟨j, _, e2, h⟩ := mem_idxs.1 hy
        have : k.toNat = j := by omega
        rw [this]; exact h
    rw [key _ (hl m hm).home, key _ (hl m hm).away]
  unfold amongL
  simp only [e, hx]
  rfl
end Go.Proofs.YtiggikjbknoohaaGreatDoor
