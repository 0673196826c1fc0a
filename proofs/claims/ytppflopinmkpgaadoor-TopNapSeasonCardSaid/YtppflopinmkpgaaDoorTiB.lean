/- LeagueCounts: the law's own walk. -/
import Derived.Test.YtppflopinmkpgaaDoorTcK
import Derived.Test.YtppflopinmkpgaaDoorElJ
import Derived.Test.YtppflopinmkpgaaDoorFnL
import Derived.Test.YtppflopinmkpgaaDoorTiA
noncomputable section
namespace Go.Proofs.YtppflopinmkpgaaDoor
open Go Go.Den
set_option maxRecDepth 100000

theorem sumR_snoc {f : Rw → Int} {B : List Rw} {i : Nat} (hi : i < B.length) : sumR f (B.take (i + 1)) = sumR f (B.take i) + f B[i] := by
  rw [take_snoc hi]
  unfold sumR
  rw [List.map_append, List.sum_append]
  simp
theorem sumR_bd {f : Rw → Int} {B : List Rw} (h : ∀ i (h : i < B.length), 0 ≤ f B[i] ∧ f B[i] ≤ 1000000) : ∀ i, i ≤ B.length → 0 ≤ sumR f (B.take i) ∧ sumR f (B.take i) ≤ 1000000 * i
  | 0, _ => by simp [sumR]
  | i + 1, hi => by
    have := sumR_bd h i (by omega)
    have h2 := h i (by omega)
    rw [sumR_snoc (by omega)]
    omega
theorem table_bd {r : Ru} {n : Nat} {l : List Ma} (hr : RuOk r) (hn : n ≤ 24) (hl : ∀ m ∈ l, MaOk n m) (hlen : l.length ≤ 1000) {i : Nat} (h : i < (tableL r n l).length) :
    (0 ≤ (tableL r n l)[i].played ∧ (tableL r n l)[i].played ≤ 1000) ∧ (0 ≤ (tableL r n l)[i].won ∧ (tableL r n l)[i].won ≤ 1000) ∧ (0 ≤ (tableL r n l)[i].drawn ∧ (tableL r n l)[i].drawn ≤ 1000) ∧ (0 ≤ (tableL r n l)[i].lost ∧ (tableL r n l)[i].lost ≤ 1000) ∧
    (0 ≤ (tableL r n l)[i].fr ∧ (tableL r n l)[i].fr ≤ 99000) ∧ (0 ≤ (tableL r n l)[i].ag ∧ (tableL r n l)[i].ag ≤ 99000) ∧ (0 ≤ (tableL r n l)[i].pts ∧ (tableL r n l)[i].pts ≤ 99000) := by
  have h' : i < n := by rwa [table_len] at h
  obtain ⟨j, hj, e⟩ := sorted_mem (r := r) (n := n) (l := l) (i := i) (by rw [sorted_len]; exact h')
  obtain ⟨b1, b2, b3, b4, b5, b6, b7, b8, b9⟩ := rowsF_bd hr hn hl hj
  rw [table_get h', e]
  simp only
  exact ⟨by omega, by omega, by omega, by omega, by omega, by omega, by omega⟩
end Go.Proofs.YtppflopinmkpgaaDoor
/- Titles: the plain law.  Points that are given out show that no set of teams proves anything; a search that fails leaves a set that proves it. -/
noncomputable section
namespace Go.Den.Title

abbrev Pt := Int × Int

/-- what a team has of the given points -/
def asg (i : Int) : List Pt → List Pt → Int
  | p :: ps, g :: gs => ((if p.1 = i then g.1 else 0) + (if p.2 = i then g.2 else 0)) + asg i ps gs
  | _, _ => 0

def sumL (f : Int → Int) : List Int → Int
  | [] => 0
  | s :: r => f s + sumL f r

theorem sumL_add {f g : Int → Int} : ∀ {S : List Int}, sumL (fun i => f i + g i) S = sumL f S + sumL g S
  | [] => rfl
  | s :: r => by simp only [sumL, sumL_add (S := r)]; omega
theorem sumL_le {f g : Int → Int} : ∀ {S : List Int}, (∀ s ∈ S, f s ≤ g s) → sumL f S ≤ sumL g S
  | [], _ => Int.le_refl _
  | s :: r, h => by
    have := sumL_le (S := r) fun x hx => h x (List.mem_cons_of_mem _ hx)
    have := h s (List.mem_cons_self ..)
    simp only [sumL]; omega
theorem sumL_const {c : Int} : ∀ {S : List Int}, sumL (fun _ => c) S = S.length * c
  | [] => by simp [sumL]
  | s :: r => by simp only [sumL, sumL_const (S := r), List.length_cons]; rw [Int.natCast_add, Int.add_mul]; omega
theorem sumL_zero {f : Int → Int} : ∀ {S : List Int}, (∀ s ∈ S, f s = 0) → sumL f S = 0
  | [], _ => rfl
  | s :: r, h => by simp only [sumL, h s (List.mem_cons_self ..), sumL_zero (S := r) fun x hx => h x (List.mem_cons_of_mem _ hx)]; rfl

theorem sumL_one {a v : Int} : ∀ {S : List Int}, S.Nodup → sumL (fun i => if a = i then v else 0) S = if a ∈ S then v else 0
  | [], _ => by simp [sumL]
  | s :: r, h => by
    obtain ⟨h1, h2⟩ := List.nodup_cons.1 h
    simp only [sumL, sumL_one (S := r) h2]
    by_cases e : a = s
    · subst e
      rw [if_pos rfl, if_neg h1, if_pos (List.mem_cons_self ..)]; omega
    · rw [if_neg e]
      by_cases hm : a ∈ r
      · rw [if_pos hm, if_pos (List.mem_cons_of_mem _ hm)]; omega
      · rw [if_neg hm, if_neg (by simp [e, hm])]; rfl

/-- the matches of two teams of a set -/
def within (S : List Int) : List Pt → Int
  | [] => 0
  | p :: r => (if p.1 ∈ S ∧ p.2 ∈ S then 1 else 0) + within S r

theorem sum_asg_ge {S : List Int} (hS : S.Nodup) : ∀ {ps gs : List Pt}, gs.length = ps.length → (∀ g ∈ gs, 0 ≤ g.1 ∧ 0 ≤ g.2 ∧ g.1 + g.2 = 2) → 2 * within S ps ≤ sumL (fun i => asg i ps gs) S
  | [], gs, _, _ => by
    rw [sumL_zero (fun _ _ => by cases gs <;> rfl)]; simp [within]
  | p :: ps, [], h, _ => by simp at h
  | p :: ps, g :: gs, h, hg => by
    have ih := sum_asg_ge hS (ps := ps) (gs := gs) (by simpa using h) fun x hx => hg x (List.mem_cons_of_mem _ hx)
    obtain ⟨g1, g2, g3⟩ := hg g (List.mem_cons_self ..)
    simp only [asg, sumL_add, sumL_one hS, within]
    by_cases h1 : p.1 ∈ S <;> by_cases h2 : p.2 ∈ S <;> simp [h1, h2] <;> omega

/-- points given out with which no team has more than most: no set proves anything -/
theorem no_proof {pts : Int → Int} {most : Int} {S : List Int} {ps gs : List Pt} (hS : S.Nodup) (hl : gs.length = ps.length) (hg : ∀ g ∈ gs, 0 ≤ g.1 ∧ 0 ≤ g.2 ∧ g.1 + g.2 = 2) (hm : ∀ s ∈ S, pts s + asg s ps gs ≤ most) :
    sumL pts S + 2 * within S ps ≤ S.length * most := by
  have h1 := sum_asg_ge hS hl hg
  have h2 := sumL_le hm
  rw [sumL_add, sumL_const] at h2
  omega

theorem sum_asg_le {S : List Int} (hS : S.Nodup) : ∀ {ps gs : List Pt}, gs.length = ps.length → (∀ (j : Nat) p g, ps[j]? = some p → gs[j]? = some g → g.1 + g.2 ≤ 2 ∧ (p.1 ∈ S → g.1 ≠ 0 → p.2 ∈ S) ∧ (p.2 ∈ S → g.2 ≠ 0 → p.1 ∈ S)) →
    sumL (fun i => asg i ps gs) S ≤ 2 * within S ps
  | [], gs, _, _ => by
    rw [sumL_zero (fun _ _ => by cases gs <;> rfl)]; simp [within]
  | p :: ps, [], h, _ => by simp at h
  | p :: ps, g :: gs, h, hg => by
    have ih := sum_asg_le hS (ps := ps) (gs := gs) (by simpa using h) fun j p' g' a b => hg (j + 1) p' g' (by simpa using a) (by simpa using b)
    obtain ⟨g1, g2, g3⟩ := hg 0 p g rfl rfl
    simp only [asg, sumL_add, sumL_one hS, within]
    by_cases h1 : p.1 ∈ S <;> by_cases h2 : p.2 ∈ S <;> simp [h1, h2] at g2 g3 ⊢ <;> omega

theorem sum_asg_lt {S : List Int} (hS : S.Nodup) : ∀ {ps gs : List Pt} {i : Nat}, gs.length = ps.length → (∀ (j : Nat) p g, ps[j]? = some p → gs[j]? = some g → g.1 + g.2 ≤ 2 ∧ (p.1 ∈ S → g.1 ≠ 0 → p.2 ∈ S) ∧ (p.2 ∈ S → g.2 ≠ 0 → p.1 ∈ S)) →
    (∃ p g, ps[i]? = some p ∧ gs[i]? = some g ∧ p.1 ∈ S ∧ p.2 ∈ S ∧ g.1 + g.2 ≤ 1) → sumL (fun i => asg i ps gs) S + 1 ≤ 2 * within S ps
  | [], gs, i, _, _, hx => by obtain ⟨p, g, h, _⟩ := hx; simp at h
  | p :: ps, [], i, h, _, _ => by simp at h
  | p :: ps, g :: gs, i, h, hg, hx => by
    have hg' := fun j p' g' (a : ps[j]? = some p') (b : gs[j]? = some g') => hg (j + 1) p' g' (by simpa using a) (by simpa using b)
    obtain ⟨g1, g2, g3⟩ := hg 0 p g rfl rfl
    simp only [asg, sumL_add, sumL_one hS, within]
    cases i with
    | zero =>
      obtain ⟨p', g', e1, e2, h1, h2, h3⟩ := hx
      cases e1; cases e2
      have ih := sum_asg_le hS (ps := ps) (gs := gs) (by simpa using h) hg'
      simp [h1, h2]; omega
    | succ i =>
      have ih := sum_asg_lt hS (ps := ps) (gs := gs) (i := i) (by simpa using h) hg' (by simpa using hx)
      by_cases h1 : p.1 ∈ S <;> by_cases h2 : p.2 ∈ S <;> simp [h1, h2] at g2 g3 ⊢ <;> omega

/-- a search that fails: the teams that were asked prove it -/
theorem proof_of_fail {pts : Int → Int} {most : Int} {S : List Int} {ps gs : List Pt} {i : Nat} (hS : S.Nodup) (hl : gs.length = ps.length)
    (hg : ∀ (j : Nat) p g, ps[j]? = some p → gs[j]? = some g → g.1 + g.2 ≤ 2 ∧ (p.1 ∈ S → g.1 ≠ 0 → p.2 ∈ S) ∧ (p.2 ∈ S → g.2 ≠ 0 → p.1 ∈ S))
    (hi : ∃ p g, ps[i]? = some p ∧ gs[i]? = some g ∧ p.1 ∈ S ∧ p.2 ∈ S ∧ g.1 + g.2 ≤ 1) (hm : ∀ s ∈ S, most ≤ pts s + asg s ps gs) :
    S.length * most < sumL pts S + 2 * within S ps := by
  have h1 := sum_asg_lt hS hl hg hi
  have h2 := sumL_le hm
  rw [sumL_add, sumL_const] at h2
  omega
end Go.Den.Title
/- Contracts: points that are to make a team the first one. -/
noncomputable section
namespace Go.Proofs.YtppflopinmkpgaaDoor
open Go Go.Den Go.Den.Title
set_option maxRecDepth 100000

def gv (n : Int) : Int × Int := (n, 2 - n)
def totL (pts : List Int) (opn gs : List (Int × Int)) : List Int := (List.range pts.length).map fun (k : Nat) => ptL pts k + asg k opn gs
theorem totL_nil {pts : List Int} {opn : List (Int × Int)} : totL pts opn [] = pts := by
  apply List.ext_getElem
  · simp [totL]
  · intro i h1 h2
    simp only [totL, List.getElem_map, List.getElem_range]
    have : asg (i : Int) opn [] = 0 := by cases opn <;> rfl
    rw [this]
    simp [ptL, h2]
def titleF (pts : List Int) (opn : List (Int × Int)) (team : Int) (points : List Int) : Int :=
  if points.length ≠ opn.length then 2 else if (points.any fun k => outL k 0 2) = true then 3 else whenL ((totL pts opn (points.map gv)).any fun y => decide (y > ptL pts team + asg team opn (points.map gv))) 21
end Go.Proofs.YtppflopinmkpgaaDoor
