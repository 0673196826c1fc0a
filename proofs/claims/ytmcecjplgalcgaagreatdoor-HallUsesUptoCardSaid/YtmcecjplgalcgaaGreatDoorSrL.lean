/- The program's context is sound: the evaluator may be used. -/
import Derived.Test.YtmcecjplgalcgaaGreatDoorProg
import Derived.Test.YtmcecjplgalcgaaGreatDoorSxA
import Derived.KernelRfl
namespace Go.Proofs
open Go Go.Den
instance pcTryz : PC Tryz.prog := ⟨ctxOk (by kernel_rfl) (by kernel_rfl)⟩
end Go.Proofs
/- Contracts of small functions: errors, numbers in bounds, searches in lists. -/
noncomputable section
namespace Go.Proofs.YtmcecjplgalcgaaGreatDoor
open Go Go.Den
set_option maxRecDepth 10000
abbrev I (n : Int) : Value := .int .i64 n
def whenL (b : Bool) (e : Int) : Int := if b then e else 0
def firstL (l : List Int) : Int := (l.find? (fun e => decide (e ≠ 0))).getD 0
def outL (n a b : Int) : Bool := decide (n < a ∨ n > b)
abbrev i1 (x : Int) : List Value := [I x]
theorem when85 {H : AHeap} {b : Bool} {e : Int} : Ret Tryz.prog 66 [.bool b, I e] H (I (whenL b e)) H := by
 refine fn_start Tryz.func66 rfl rfl rfl fun hc => ?_
 apply ct_seq
 apply ct_region
 apply seq_plain; exact do_assign rfl; exact rfl
 apply seq_nil
 iterate 2 (apply ct_seq)
 apply ct_region
 apply seq_plain; exact do_move rfl; exact rfl
 apply seq_nil
 refine ct_cond rfl (fun hb => ?_) (fun hb => ?_)
 ·apply ct_seq
  apply ct_region
  apply seq_plain; exact do_move rfl; exact rfl
  apply seq_plain; exact do_assign rfl; exact rfl
  apply seq_nil
  apply ct_ret
  refine fin_flat hc rfl rfl ⟨?_, rfl⟩
  rw [hb]; rfl
 ·apply ct_skip
  apply ct_seq
  apply ct_region
  apply seq_plain; exact do_assign rfl; exact rfl
  apply seq_nil
  apply ct_ret
  refine fin_flat hc rfl rfl ⟨?_, rfl⟩
  rw [hb]; rfl
theorem within89 {H : AHeap} {n a b : Int} : Ret Tryz.prog 40 [I n, I a, I b] H (I (whenL (outL n a b) 3)) H := by
 refine fn_start Tryz.func40 rfl rfl rfl fun hc => ?_
 apply ct_seq
 apply ct_region
 apply seq_plain; exact do_assign rfl; exact rfl
 apply seq_nil
 apply ct_seq
 apply ct_region
 iterate 2 (apply seq_plain; exact do_move rfl; exact rfl)
 apply seq_plain; exact do_binInt rfl rfl rfl trivial; exact rfl
 apply seq_plain; exact do_move rfl; exact rfl
 refine seq_gsplit rfl rfl (fun hb => ?_) (fun hb => ?_)
 ·apply seq_passed (hd := rfl) (hl := rfl) (hb := rfl); exact rfl
  iterate 2 (apply seq_passed (hd := rfl) (hl := rfl) (hb := rfl); exact rfl)
  apply seq_plain; exact do_pick_t rfl rfl; exact rfl
  apply seq_call (ht := rfl); exact when85; exact rfl
  apply seq_plain; exact do_assign rfl; exact rfl
  apply seq_nil
  apply ct_ret
  refine fin_flat hc rfl rfl ⟨?_, rfl⟩
  simp at hb
  simp [packA, whenL, outL, hb]
 ·apply seq_guard (hd := rfl) (hl := rfl); exact do_move rfl; exact rfl
  apply seq_guard (hd := rfl) (hl := rfl); exact do_move rfl; exact rfl
  apply seq_guard (hd := rfl) (hl := rfl); exact do_binInt rfl rfl rfl trivial; exact rfl
  apply seq_plain; exact do_pick_f rfl rfl; exact rfl
  apply seq_call (ht := rfl); exact when85; exact rfl
  apply seq_plain; exact do_assign rfl; exact rfl
  apply seq_nil
  apply ct_ret
  refine fin_flat hc rfl rfl ⟨?_, rfl⟩
  simp at hb
  have : ¬ n < a := by omega
  simp [packA, whenL, outL, this]
theorem outside24 {H : AHeap} {n a b : Int} : Ret Tryz.prog 9 [I n, I a, I b] H (.bool (outL n a b)) H := by
 refine fn_start Tryz.func9 rfl rfl rfl fun hc => ?_
 apply ct_seq
 apply ct_region
 apply seq_plain; exact do_assign rfl; exact rfl
 apply seq_nil
 apply ct_seq
 apply ct_region
 iterate 2 (apply seq_plain; exact do_move rfl; exact rfl)
 apply seq_plain; exact do_binInt rfl rfl rfl trivial; exact rfl
 apply seq_plain; exact do_move rfl; exact rfl
 refine seq_gsplit rfl rfl (fun hb => ?_) (fun hb => ?_)
 ·apply seq_passed (hd := rfl) (hl := rfl) (hb := rfl); exact rfl
  iterate 2 (apply seq_passed (hd := rfl) (hl := rfl) (hb := rfl); exact rfl)
  apply seq_plain; exact do_pick_t rfl rfl; exact rfl
  apply seq_plain; exact do_assign rfl; exact rfl
  apply seq_nil
  apply ct_ret
  refine fin_flat hc rfl rfl ⟨?_, rfl⟩
  simp at hb
  simp [packA, outL, hb]
 ·apply seq_guard (hd := rfl) (hl := rfl); exact do_move rfl; exact rfl
  apply seq_guard (hd := rfl) (hl := rfl); exact do_move rfl; exact rfl
  apply seq_guard (hd := rfl) (hl := rfl); exact do_binInt rfl rfl rfl trivial; exact rfl
  apply seq_plain; exact do_pick_f rfl rfl; exact rfl
  apply seq_plain; exact do_assign rfl; exact rfl
  apply seq_nil
  apply ct_ret
  refine fin_flat hc rfl rfl ⟨?_, rfl⟩
  simp at hb
  have : ¬ n < a := by omega
  simp [packA, outL, this]
theorem firstL_at {l : List Int} {i : Nat} (hi : i < l.length) (h : ∀ j (hj : j < l.length), j < i → l[j] = 0) (hne : l[i] ≠ 0) : firstL l = l[i] := by
 have : l.find? (fun e => decide (e ≠ 0)) = some l[i] := by
  rw [List.find?_eq_some_iff_getElem]
  refine ⟨by simpa using hne, i, hi, rfl, fun j hj => ?_⟩
  simp [h j (by omega) hj]
 simp only [firstL, this]; rfl
theorem firstL_none {l : List Int} (h : ∀ j (hj : j < l.length), l[j] = 0) : firstL l = 0 := by
 have : l.find? (fun e => decide (e ≠ 0)) = none := by
  rw [List.find?_eq_none]
  intro x hx
  obtain ⟨j, hj, rfl⟩ := List.getElem_of_mem hx
  simp [h j hj]
 simp only [firstL, this]; rfl
theorem first84 {H : AHeap} {q : Option Addr} {c : Nat} {l : List Int} (hs : SlAt H 1 i1 q l) (hn : l.length < 1000000000000) :
  Ret Tryz.prog 39 [.slice q l.length c] H (I (firstL l)) H := by
 refine fn_start Tryz.func39 rfl rfl rfl fun hc => ?_
 apply ct_seq
 apply ct_region
 apply seq_plain; exact do_assign rfl; exact rfl
 apply seq_nil
 iterate 2 (apply ct_seq)
 apply ct_region
 apply seq_plain; exact do_move rfl; exact rfl
 apply seq_plain; exact do_lenS rfl rfl rfl; exact rfl
 apply seq_plain; exact do_move rfl; exact rfl
 apply seq_nil
 apply ct_block
 apply ct_loop
 refine lt_up (fun i => [(5, .slice q l.length c), (6, I l.length), (7, I i)]) (fun i => ∀ j (hj : j < l.length), j < i → l[j] = 0) l.length (fun i hi hJ ih => ?_) 0 (by omega) (by intros; omega) (by repeat (first | exact sub_nil | apply sub_cons rfl))
 apply ct_seq
 apply ct_region
 apply seq_plain; exact do_binInt rfl rfl rfl trivial; exact rfl
 apply seq_nil
 apply ct_seq
 refine ct_cond rfl (fun hb => ?_) (fun hb => ?_)
 ·simp only [decide_eq_true_eq, Int.ofNat_lt] at hb
  obtain ⟨b, o, cs, z, s, ro, rfl, hg, hw⟩ := hs.out (by intro e; rw [e] at hb; simp at hb)
  apply ct_skip
  apply ct_seq
  apply ct_block
  apply ct_seq
  apply ct_region
  apply seq_plain; exact do_indexAddrS rfl rfl rfl (by exact idx_nat (by omega)); exact rfl
  apply seq_plain; exact do_load rfl (by exact ext_get_old (by assumption) (by assumption)) rfl (by exact pt_sl0 (by assumption) (by omega)); exact rfl
  apply seq_plain; exact do_assign rfl; exact rfl
  apply seq_nil
  apply ct_seq
  apply ct_region
  apply seq_plain; exact do_move rfl; exact rfl
  apply seq_plain; exact do_binInt rfl rfl rfl trivial; exact rfl
  apply seq_nil
  refine ct_cond rfl (fun h2 => ?_) (fun h2 => ?_)
  ·apply ct_seq
   apply ct_region
   apply seq_plain; exact do_move rfl; exact rfl
   apply seq_plain; exact do_assign rfl; exact rfl
   apply seq_nil
   apply ct_ret
   refine fin_flat hc rfl rfl ⟨?_, rfl⟩
   rw [firstL_at hb hJ (by simpa using h2)]; rfl
  ·apply ct_skip
   apply ct_region
   apply seq_plain; exact do_succ rfl (by omega); exact rfl
   apply seq_plain; exact do_move rfl; exact rfl
   apply seq_nil
   refine lt_sub ?_ (ih (i + 1) (by omega) (by omega) fun j hj hji => ?_)
   ·(repeat (first | exact sub_nil | apply sub_cons rfl))
   ·rcases Nat.lt_or_ge j i with h | h
    ·exact hJ j hj h
    ·have : j = i := by omega
     subst this; simpa using h2
 ·simp only [decide_eq_false_iff_not, Int.ofNat_lt] at hb
  apply ct_exit
  apply exit_eq; exact rfl
  apply ct_seq
  apply ct_region
  apply seq_plain; exact do_assign rfl; exact rfl
  apply seq_nil
  apply ct_ret
  refine fin_flat hc rfl rfl ⟨?_, rfl⟩
  rw [firstL_none fun j hj => hJ j hj (by omega)]; rfl
end Go.Proofs.YtmcecjplgalcgaaGreatDoor
/- Contracts: fixtures, what is wrong with a list of them. -/
noncomputable section
namespace Go.Proofs.YtmcecjplgalcgaaGreatDoor
open Go Go.Den
set_option maxRecDepth 10000
structure Fx where
 day : Int
 home : Int
 away : Int
end Go.Proofs.YtmcecjplgalcgaaGreatDoor
/- Contracts: counts of home matches; same lists; copies. -/
noncomputable section
namespace Go.Proofs.YtmcecjplgalcgaaGreatDoor
open Go Go.Den
set_option maxRecDepth 10000
theorem take_snoc {α : Type} {l : List α} {i : Nat} (h : i < l.length) : l.take (i + 1) = l.take i ++ [l[i]] := by
 rw [List.take_add_one, List.getElem?_eq_getElem h]; rfl
theorem flat_ints (m : List Int) : (m.map I).all (flatD 8) = true := by
 rw [List.all_eq_true]
 intro x hx
 obtain ⟨y, _, rfl⟩ := List.mem_map.1 hx
 rfl
end Go.Proofs.YtmcecjplgalcgaaGreatDoor
/- Plain law: sorting by insertion. -/
noncomputable section
namespace Go.Proofs.YtmcecjplgalcgaaGreatDoor
open Go Go.Den
section
variable {α : Type}
def swapA (l : List α) (i j : Nat) : List α := match l[i]?, l[j]? with
 | some x, some y => (l.set i y).set j x
 | _, _ => l
theorem swapA_len {l : List α} {i j : Nat} : (swapA l i j).length = l.length := by
 unfold swapA
 split
 ·simp
 ·rfl
theorem swapA_eq {l : List α} {i j : Nat} (hi : i < l.length) (hj : j < l.length) : swapA l i j = (l.set i l[j]).set j l[i] := by
 unfold swapA
 rw [List.getElem?_eq_getElem hi, List.getElem?_eq_getElem hj]
def downA (lt : α → α → Bool) (a : Nat) : List α → Nat → List α
 | l, 0 => l
 | l, j + 1 => match l[j + 1]?, l[j]? with
  | some x, some y => if a < j + 1 ∧ lt x y = true then downA lt a (swapA l (j + 1) j) j else l
  | _, _ => l
def insA (lt : α → α → Bool) (a : Nat) (l : List α) : Nat → List α
 | 0 => l
 | n + 1 => downA lt a (insA lt a l n) (a + n + 1)
def insR (lt : α → α → Bool) (x : α) : List α → List α
 | [] => [x]
 | y :: r => if (y :: r).all (lt x) then x :: y :: r else y :: insR lt x r
theorem downA_len {lt : α → α → Bool} {a : Nat} : ∀ {j : Nat} {l : List α}, (downA lt a l j).length = l.length
 | 0, l => rfl
 | j + 1, l => by
  simp only [downA]
  split
  ·split
   ·rw [downA_len, swapA_len]
   ·rfl
  ·rfl
theorem insA_len {lt : α → α → Bool} {a : Nat} {l : List α} : ∀ {n : Nat}, (insA lt a l n).length = l.length
 | 0 => rfl
 | n + 1 => by simp only [insA]; rw [downA_len, insA_len]
structure Weak (lt : α → α → Bool) : Prop where
 asymm : ∀ a b, lt a b = true → lt b a = false
 trans : ∀ a b c, lt b a = false → lt c b = false → lt c a = false
def Srt (lt : α → α → Bool) (l : List α) : Prop := l.Pairwise fun a b => lt b a = false
theorem swap_mid {p r : List α} {y x : α} : swapA (p ++ y :: x :: r) (p.length + 1) p.length = p ++ x :: y :: r := by
 rw [swapA_eq (by simp) (by simp)]
 simp
theorem downA_ins {lt : α → α → Bool} (w : Weak lt) {q : List α} {x : α} {r : List α} : ∀ (n : Nat) {s : List α}, s.length = n → Srt lt s → downA lt q.length (q ++ s ++ x :: r) (q.length + s.length) = q ++ insR lt x s ++ r
 | 0, s, hn, _ => by
  have : s = [] := List.length_eq_zero_iff.1 hn
  subst this
  rw [List.append_nil, List.length_nil, Nat.add_zero]
  cases hq : q.length with
  | zero =>
   have : q = [] := List.length_eq_zero_iff.1 hq
   subst this; simp [downA, insR]
  | succ m =>
   simp only [downA]
   split
   ·rw [if_neg (by omega)]; simp [insR]
   ·simp [insR]
 | n + 1, s, hn, hs => by
  obtain ⟨s', y, rfl⟩ : ∃ s' y, s = s' ++ [y] := by
   refine ⟨s.dropLast, s.getLast (by intro e; rw [e] at hn; simp at hn), ?_⟩
   exact (List.dropLast_concat_getLast _).symm
  have hl : s'.length = n := by simpa using hn
  have hs' : Srt lt s' := (List.pairwise_append.1 hs).1
  have hy : ∀ a ∈ s', lt y a = false := fun a ha => (List.pairwise_append.1 hs).2.2 a ha y (by simp)
  have e1 : q.length + (s' ++ [y]).length = (q ++ s').length + 1 := by simp; omega
  have e2 : q ++ (s' ++ [y]) ++ x :: r = (q ++ s') ++ y :: x :: r := by simp
  rw [e1, e2]
  simp only [downA]
  have g1 : ((q ++ s') ++ y :: x :: r)[(q ++ s').length + 1]? = some x := by rw [List.getElem?_append_right (by omega), Nat.add_sub_cancel_left]; rfl
  have g2 : ((q ++ s') ++ y :: x :: r)[(q ++ s').length]? = some y := by simp
  rw [g1, g2]
  simp only
  by_cases hlt : lt x y = true
  ·rw [if_pos ⟨by simp; omega, hlt⟩, swap_mid]
   have ih := downA_ins w (q := q) (x := x) (r := y :: r) n (s := s') hl hs'
   have e3 : (q ++ s').length = q.length + s'.length := by simp
   rw [e3, ih]
   -- all of the end is greater
   have key : ∀ s' : List α, insR lt x (s' ++ [y]) = insR lt x s' ++ [y] := by
    intro s'
    induction s' with
    | nil => simp [insR, hlt]
    | cons a t iht =>
     simp only [List.cons_append, insR]
     have : (a :: (t ++ [y])).all (lt x) = (a :: t).all (lt x) := by
      simp [List.all_append, hlt]
     rw [this]
     split
     ·rfl
     ·rw [iht]; rfl
   rw [key]; simp
  ·rw [if_neg (by simp [hlt])]
   have hlt : lt x y = false := by simpa using hlt
   have key : ∀ s' : List α, insR lt x (s' ++ [y]) = s' ++ [y, x] := by
    intro s'
    induction s' with
    | nil => simp [insR, hlt]
    | cons a t iht =>
     simp only [List.cons_append, insR]
     have : (a :: (t ++ [y])).all (lt x) = false := by
      simp [List.all_append, hlt]
     rw [this]
     simp only [Bool.false_eq_true, if_false]
     rw [iht]
   rw [key]; simp
def isort (lt : α → α → Bool) (l : List α) : List α := l.foldl (fun s x => insR lt x s) []
theorem insR_perm {lt : α → α → Bool} {x : α} : ∀ s : List α, (insR lt x s).Perm (x :: s)
 | [] => .refl _
 | y :: r => by
  simp only [insR]
  split
  ·exact .refl _
  ·exact ((insR_perm r).cons y).trans (.swap ..)
theorem insR_srt {lt : α → α → Bool} (w : Weak lt) {x : α} : ∀ {s : List α}, Srt lt s → Srt lt (insR lt x s)
 | [], _ => by simp [insR, Srt]
 | y :: r, h => by
  have h1 := List.pairwise_cons.1 h
  simp only [insR]
  split
  ·rename_i ha
   rw [List.all_eq_true] at ha
   exact List.pairwise_cons.2 ⟨fun b hb => w.asymm _ _ (ha b hb), h⟩
  ·rename_i ha
   refine List.pairwise_cons.2 ⟨fun b hb => ?_, insR_srt w h1.2⟩
   rcases List.mem_cons.1 ((insR_perm r).subset hb) with rfl | hb
   ·-- some z of y :: r is not greater than b
    have hz : ∃ z ∈ y :: r, lt b z = false := by
     by_cases hh : ∃ z ∈ y :: r, lt b z = false
     ·exact hh
     ·exfalso; apply ha
      rw [List.all_eq_true]
      intro z hz
      cases e : lt b z
      ·exact absurd ⟨z, hz, e⟩ hh
      ·rfl
    obtain ⟨z, hz, e⟩ := hz
    rcases List.mem_cons.1 hz with rfl | hz
    ·exact e
    ·exact w.trans _ _ _ (h1.1 z hz) e
   ·exact h1.1 b hb
theorem isort_srt {lt : α → α → Bool} (w : Weak lt) (l : List α) : Srt lt (isort lt l) := by
 suffices h : ∀ (l s : List α), Srt lt s → Srt lt (l.foldl (fun s x => insR lt x s) s) from h l [] .nil
 intro l
 induction l with
 | nil => intro s h; exact h
 | cons a r ih => intro s h; exact ih _ (insR_srt w h)
theorem isort_perm {lt : α → α → Bool} (l : List α) : (isort lt l).Perm l := by
 suffices h : ∀ (l s : List α), (l.foldl (fun s x => insR lt x s) s).Perm (s ++ l) from by simpa [isort] using h l []
 intro l
 induction l with
 | nil => intro s; simp
 | cons a r ih =>
  intro s
  refine (ih _).trans ?_
  refine ((insR_perm s).append_right r).trans ?_
  exact (List.perm_middle (a := a) (l₁ := s) (l₂ := r)).symm
theorem isort_len {lt : α → α → Bool} (l : List α) : (isort lt l).length = l.length := (isort_perm l).length_eq
theorem isort_snoc {lt : α → α → Bool} {l : List α} {x : α} : isort lt (l ++ [x]) = insR lt x (isort lt l) := by simp [isort, List.foldl_append]
theorem insA_isort {lt : α → α → Bool} (w : Weak lt) {q m r : List α} (hm : m ≠ []) : insA lt q.length (q ++ m ++ r) (m.length - 1) = q ++ isort lt m ++ r := by
 have key : ∀ n, n + 1 ≤ m.length → insA lt q.length (q ++ m ++ r) n = q ++ isort lt (m.take (n + 1)) ++ m.drop (n + 1) ++ r := by
  intro n
  induction n with
  | zero =>
   intro h
   obtain ⟨a, t, rfl⟩ := List.exists_cons_of_ne_nil hm
   simp [insA, isort, insR]
  | succ n ih =>
   intro h
   have hn : n + 1 < m.length := by omega
   simp only [insA]
   rw [ih (by omega), List.drop_eq_getElem_cons hn]
   have hl : (isort lt (m.take (n + 1))).length = n + 1 := by rw [isort_len, List.length_take]; omega
   have := downA_ins w (q := q) (x := m[n + 1]) (r := m.drop (n + 1 + 1) ++ r) (n + 1) hl (isort_srt w _)
   rw [hl] at this
   rw [take_snoc hn, isort_snoc]
   have e1 : q ++ isort lt (m.take (n + 1)) ++ m[n + 1] :: m.drop (n + 1 + 1) ++ r = q ++ isort lt (m.take (n + 1)) ++ m[n + 1] :: (m.drop (n + 1 + 1) ++ r) := by rw [List.append_assoc, List.cons_append]
   have e2 : q.length + n + 1 = q.length + (n + 1) := by omega
   rw [e1, e2, this]
   simp
 have hp : 0 < m.length := List.length_pos_iff.2 hm
 have h := key (m.length - 1) (by omega)
 have e : m.length - 1 + 1 = m.length := by omega
 rw [e, List.take_of_length_le (Nat.le_refl _), List.drop_of_length_le (Nat.le_refl _), List.append_nil] at h
 exact h
end
end Go.Proofs.YtmcecjplgalcgaaGreatDoor
