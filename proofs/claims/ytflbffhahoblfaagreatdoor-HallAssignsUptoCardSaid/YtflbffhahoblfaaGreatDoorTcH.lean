/- Plain law: sorting by insertion. -/
import Derived.Test.YtflbffhahoblfaaGreatDoorLaid
import Derived.Test.YtflbffhahoblfaaGreatDoorStB
import Derived.Test.YtflbffhahoblfaaGreatDoorSxM
import Derived.Test.YtflbffhahoblfaaGreatDoorSxA
import Derived.Test.YtflbffhahoblfaaGreatDoorFnA
import Derived.Test.YtflbffhahoblfaaGreatDoorElI
import Derived.Test.YtflbffhahoblfaaGreatDoorSxP
import Derived.Test.YtflbffhahoblfaaGreatDoorSxQ
noncomputable section
namespace Go.Proofs.YtflbffhahoblfaaGreatDoor
open Go Go.Den
section
variable {α : Type}
def swapA (l : List α) (i j : Nat) : List α := match l[i]?, l[j]? with
  | some x, some y => (l.set i y).set j x
  | _, _ => l
theorem swapA_len {l : List α} {i j : Nat} : (swapA l i j).length = l.length := by
  unfold swapA
  split
  · simp
  · rfl
theorem swapA_eq {l : List α} {i j : Nat} (hi : i < l.length) (hj : j < l.length) : swapA l i j = (l.set i l[j]).set j l[i] := by
  unfold swapA
  rw [List.getElem?_eq_getElem hi, List.getElem?_eq_getElem hj]
theorem swapA_get {l : List α} {i j k : Nat} (hi : i < l.length) (hj : j < l.length) : (swapA l i j)[k]? = if k = j then some l[i] else if k = i then some l[j] else l[k]? := by
  rw [swapA_eq hi hj]
  by_cases h1 : k = j
  · subst h1
    simp [hj]
  · rw [List.getElem?_set_ne (by omega), if_neg h1]
    by_cases h2 : k = i
    · subst h2; simp [hi]
    · rw [List.getElem?_set_ne (by omega), if_neg h2]
def downA (lt : α → α → Bool) (a : Nat) : List α → Nat → List α
  | l, 0 => l
  | l, j + 1 => match l[j + 1]?, l[j]? with
    | some x, some y => if a < j + 1 ∧ lt x y = true then downA lt a (swapA l (j + 1) j) j else l
    | _, _ => l
def insA (lt : α → α → Bool) (a : Nat) (l : List α) : Nat → List α
  | 0 => l
  | n + 1 => downA lt a (insA lt a l n) (a + n + 1)
def insR (lt : α → α → Bool) (x : α) : List α → List α
  | [] => [x]
  | y :: r => if (y :: r).all (lt x) then x :: y :: r else y :: insR lt x r
theorem downA_len {lt : α → α → Bool} {a : Nat} : ∀ {j : Nat} {l : List α}, (downA lt a l j).length = l.length
  | 0, l => rfl
  | j + 1, l => by
    simp only [downA]
    split
    · split
      · rw [downA_len, swapA_len]
      · rfl
    · rfl
theorem insA_len {lt : α → α → Bool} {a : Nat} {l : List α} : ∀ {n : Nat}, (insA lt a l n).length = l.length
  | 0 => rfl
  | n + 1 => by simp only [insA]; rw [downA_len, insA_len]
structure Weak (lt : α → α → Bool) : Prop where
  asymm : ∀ a b, lt a b = true → lt b a = false
  trans : ∀ a b c, lt b a = false → lt c b = false → lt c a = false
def Srt (lt : α → α → Bool) (l : List α) : Prop := l.Pairwise fun a b => lt b a = false
theorem swap_mid {p r : List α} {y x : α} : swapA (p ++ y :: x :: r) (p.length + 1) p.length = p ++ x :: y :: r := by
  rw [swapA_eq (by simp) (by simp)]
  simp
theorem downA_ins {lt : α → α → Bool} (w : Weak lt) {q : List α} {x : α} {r : List α} : ∀ (n : Nat) {s : List α}, s.length = n → Srt lt s → downA lt q.length (q ++ s ++ x :: r) (q.length + s.length) = q ++ insR lt x s ++ r
  | 0, s, hn, _ => by
    have : s = [] := List.length_eq_zero_iff.1 hn
    subst this
    rw [List.append_nil, List.length_nil, Nat.add_zero]
    cases hq : q.length with
    | zero =>
      have : q = [] := List.length_eq_zero_iff.1 hq
      subst this; simp [downA, insR]
    | succ m =>
      simp only [downA]
      split
      · rw [if_neg (by omega)]; simp [insR]
      · simp [insR]
  | n + 1, s, hn, hs => by
    obtain ⟨s', y, rfl⟩ : ∃ s' y, s = s' ++ [y] := by
      refine ⟨s.dropLast, s.getLast (by intro e; rw [e] at hn; simp at hn), ?_⟩
      exact (List.dropLast_concat_getLast _).symm
    have hl : s'.length = n := by simpa using hn
    have hs' : Srt lt s' := (List.pairwise_append.1 hs).1
    have hy : ∀ a ∈ s', lt y a = false := fun a ha => (List.pairwise_append.1 hs).2.2 a ha y (by simp)
    have e1 : q.length + (s' ++ [y]).length = (q ++ s').length + 1 := by simp; omega
    have e2 : q ++ (s' ++ [y]) ++ x :: r = (q ++ s') ++ y :: x :: r := by simp
    rw [e1, e2]
    simp only [downA]
    have g1 : ((q ++ s') ++ y :: x :: r)[(q ++ s').length + 1]? = some x := by rw [List.getElem?_append_right (by omega), Nat.add_sub_cancel_left]; rfl
    have g2 : ((q ++ s') ++ y :: x :: r)[(q ++ s').length]? = some y := by simp
    rw [g1, g2]
    simp only
    by_cases hlt : lt x y = true
    · rw [if_pos ⟨by simp; omega, hlt⟩, swap_mid]
      have ih := downA_ins w (q := q) (x := x) (r := y :: r) n (s := s') hl hs'
      have e3 : (q ++ s').length = q.length + s'.length := by simp
      rw [e3, ih]
      -- all of the end is greater
      have key : ∀ s' : List α, insR lt x (s' ++ [y]) = insR lt x s' ++ [y] := by
        intro s'
        induction s' with
        | nil => simp [insR, hlt]
        | cons a t iht =>
          simp only [List.cons_append, insR]
          have : (a :: (t ++ [y])).all (lt x) = (a :: t).all (lt x) := by
            simp [List.all_append, hlt]
          rw [this]
          split
          · rfl
          · rw [iht]; rfl
      rw [key]; simp
    · rw [if_neg (by simp [hlt])]
      have hlt : lt x y = false := by simpa using hlt
      have key : ∀ s' : List α, insR lt x (s' ++ [y]) = s' ++ [y, x] := by
        intro s'
        induction s' with
        | nil => simp [insR, hlt]
        | cons a t iht =>
          simp only [List.cons_append, insR]
          have : (a :: (t ++ [y])).all (lt x) = false := by
            simp [List.all_append, hlt]
          rw [this]
          simp only [Bool.false_eq_true, if_false]
          rw [iht]
      rw [key]; simp
def isort (lt : α → α → Bool) (l : List α) : List α := l.foldl (fun s x => insR lt x s) []
theorem insR_perm {lt : α → α → Bool} {x : α} : ∀ s : List α, (insR lt x s).Perm (x :: s)
  | [] => .refl _
  | y :: r => by
    simp only [insR]
    split
    · exact .refl _
    · exact ((insR_perm r).cons y).trans (.swap ..)
theorem insR_srt {lt : α → α → Bool} (w : Weak lt) {x : α} : ∀ {s : List α}, Srt lt s → Srt lt (insR lt x s)
  | [], _ => by simp [insR, Srt]
  | y :: r, h => by
    have h1 := List.pairwise_cons.1 h
    simp only [insR]
    split
    · rename_i ha
      rw [List.all_eq_true] at ha
      exact List.pairwise_cons.2 ⟨fun b hb => w.asymm _ _ (ha b hb), h⟩
    · rename_i ha
      refine List.pairwise_cons.2 ⟨fun b hb => ?_, insR_srt w h1.2⟩
      rcases List.mem_cons.1 ((insR_perm r).subset hb) with rfl | hb
      · -- some z of y :: r is not greater than b
        have hz : ∃ z ∈ y :: r, lt b z = false := by
          by_cases hh : ∃ z ∈ y :: r, lt b z = false
          · exact hh
          · exfalso; apply ha
            rw [List.all_eq_true]
            intro z hz
            cases e : lt b z
            · exact absurd ⟨z, hz, e⟩ hh
            · rfl
        obtain ⟨z, hz, e⟩ := hz
        rcases List.mem_cons.1 hz with rfl | hz
        · exact e
        · exact w.trans _ _ _ (h1.1 z hz) e
      · exact h1.1 b hb
theorem isort_srt {lt : α → α → Bool} (w : Weak lt) (l : List α) : Srt lt (isort lt l) := by
  suffices h : ∀ (l s : List α), Srt lt s → Srt lt (l.foldl (fun s x => insR lt x s) s) from h l [] .nil
  intro l
  induction l with
  | nil => intro s h; exact h
  | cons a r ih => intro s h; exact ih _ (insR_srt w h)
theorem isort_perm {lt : α → α → Bool} (l : List α) : (isort lt l).Perm l := by
  suffices h : ∀ (l s : List α), (l.foldl (fun s x => insR lt x s) s).Perm (s ++ l) from by simpa [isort] using h l []
  intro l
  induction l with
  | nil => intro s; simp
  | cons a r ih =>
    intro s
    refine (ih _).trans ?_
    refine ((insR_perm s).append_right r).trans ?_
    exact (List.perm_middle (a := a) (l₁ := s) (l₂ := r)).symm
theorem isort_len {lt : α → α → Bool} (l : List α) : (isort lt l).length = l.length := (isort_perm l).length_eq
theorem isort_snoc {lt : α → α → Bool} {l : List α} {x : α} : isort lt (l ++ [x]) = insR lt x (isort lt l) := by simp [isort, List.foldl_append]
theorem insA_isort {lt : α → α → Bool} (w : Weak lt) {q m r : List α} (hm : m ≠ []) : insA lt q.length (q ++ m ++ r) (m.length - 1) = q ++ isort lt m ++ r := by
  have key : ∀ n, n + 1 ≤ m.length → insA lt q.length (q ++ m ++ r) n = q ++ isort lt (m.take (n + 1)) ++ m.drop (n + 1) ++ r := by
    intro n
    induction n with
    | zero =>
      intro h
      obtain ⟨a, t, rfl⟩ := List.exists_cons_of_ne_nil hm
      simp [insA, isort, insR]
    | succ n ih =>
      intro h
      have hn : n + 1 < m.length := by omega
      simp only [insA]
      rw [ih (by omega), List.drop_eq_getElem_cons hn]
      have hl : (isort lt (m.take (n + 1))).length = n + 1 := by rw [isort_len, List.length_take]; omega
      have := downA_ins w (q := q) (x := m[n + 1]) (r := m.drop (n + 1 + 1) ++ r) (n + 1) hl (isort_srt w _)
      rw [hl] at this
      rw [take_snoc hn, isort_snoc]
      have e1 : q ++ isort lt (m.take (n + 1)) ++ m[n + 1] :: m.drop (n + 1 + 1) ++ r = q ++ isort lt (m.take (n + 1)) ++ m[n + 1] :: (m.drop (n + 1 + 1) ++ r) := by rw [List.append_assoc, List.cons_append]
      have e2 : q.length + n + 1 = q.length + (n + 1) := by omega
      rw [e1, e2, this]
      simp
  have hp : 0 < m.length := List.length_pos_iff.2 hm
  have h := key (m.length - 1) (by omega)
  have e : m.length - 1 + 1 = m.length := by omega
  rw [e, List.take_of_length_le (Nat.le_refl _), List.drop_of_length_le (Nat.le_refl _), List.append_nil] at h
  exact h
end
end Go.Proofs.YtflbffhahoblfaaGreatDoor
/- Plain law: tables. -/
noncomputable section
namespace Go.Proofs.YtflbffhahoblfaaGreatDoor
open Go Go.Den
set_option maxRecDepth 100000
structure Ma where
  home : Int
  away : Int
  fr : Int
  ag : Int
  kind : ByteArray
structure Ru where
  win : Int
  draw : Int
  loss : Int
  frames : Int
structure Rw where
  team : Int
  played : Int
  won : Int
  drawn : Int
  lost : Int
  fr : Int
  ag : Int
  pts : Int
  rank : Int
/-! ### what holds of each row -/
structure RowBd (k : Int) (x : Rw) : Prop where
  played : 0 ≤ x.played ∧ x.played ≤ k
  won : 0 ≤ x.won ∧ x.won ≤ k
  drawn : 0 ≤ x.drawn ∧ x.drawn ≤ k
  lost : 0 ≤ x.lost ∧ x.lost ≤ k
  fr : 0 ≤ x.fr ∧ x.fr ≤ 99 * k
  ag : 0 ≤ x.ag ∧ x.ag ≤ 99 * k
  pts : 0 ≤ x.pts ∧ x.pts ≤ 99 * k
  team : 0 ≤ x.team ∧ x.team ≤ 24
  rank : x.rank = 0
theorem RowBd.le {k j : Int} {x : Rw} (h : RowBd k x) (hk : k ≤ j) : RowBd j x := by
  obtain ⟨h1, h2, h3, h4, h5, h6, h7, h8, h9⟩ := h
  exact ⟨by omega, by omega, by omega, by omega, by omega, by omega, by omega, h8, h9⟩
/-! ### sums over all rows -/
/-! ### how teams are compared -/
abbrev Fg := Int × Int × Int
def figL (x : Rw) : Fg := (x.pts, x.fr - x.ag, x.fr)
/-! ### the table -/
end Go.Proofs.YtflbffhahoblfaaGreatDoor
/- Contracts: the reference's check of matches. -/
noncomputable section
namespace Go.Proofs.YtflbffhahoblfaaGreatDoor
open Go Go.Den
set_option maxRecDepth 100000
def errG {α : Type} (err : List α → α → Int) (l : List α) (i : Nat) : Int := match l[i]? with
  | some x => err (l.take i) x
  | none => 0
def restG {α : Type} (err : List α → α → Int) (l : List α) : Int := firstL ((List.range l.length).map (errG err l))
section
variable {α : Type} {err : List α → α → Int} {l : List α}
theorem errG_at {i : Nat} (h : i < l.length) : errG err l i = err (l.take i) l[i] := by simp [errG, h]
theorem restG_at {i : Nat} (hi : i < l.length) (h : ∀ j, j < i → errG err l j = 0) (hne : errG err l i ≠ 0) : restG err l = errG err l i := by
  have := firstL_at (l := (List.range l.length).map (errG err l)) (i := i) (by simpa using hi) (fun j hj hji => by simpa using h j hji) (by simpa using hne)
  simpa [restG] using this
theorem restG_none (h : ∀ j, j < l.length → errG err l j = 0) : restG err l = 0 :=
  firstL_none fun j hj => by
    have hj' : j < l.length := by simpa using hj
    simpa using h j hj'
end
section
variable {n : Int} {pre : List Ma} {m : Ma}
end
end Go.Proofs.YtflbffhahoblfaaGreatDoor
/- Plain law: the hall's rates, prices, shares. -/
noncomputable section
namespace Go.Proofs.YtflbffhahoblfaaGreatDoor
open Go Go.Den
set_option maxRecDepth 100000
/-! ### rates as they are given -/
structure Ra where
  frm : Int
  to : Int
  price : Int
theorem firstL_allZ {l : List Int} (h : firstL l = 0) : ∀ x ∈ l, x = 0 := by
  induction l with
  | nil => intro x hx; cases hx
  | cons a r ih =>
    intro x hx
    by_cases e : a = 0
    · have h2 : firstL r = 0 := by simpa [firstL, e] using h
      rcases List.mem_cons.1 hx with rfl | hx
      · exact e
      · exact ih h2 x hx
    · have h2 : firstL (a :: r) = a := by simp [firstL, e]
      rw [h2] at h; exact absurd h e
theorem whenL_z {b : Bool} {e : Int} (h : whenL b e = 0) (he : e ≠ 0) : b = false := by
  cases b
  · rfl
  · simp [whenL] at h; exact absurd h he
theorem restG_zero {α : Type} {err : List α → α → Int} {l : List α} (h : restG err l = 0) {i : Nat} (hi : i < l.length) : err (l.take i) l[i] = 0 := by
  have := firstL_allZ h (errG err l i) (List.mem_map.2 ⟨i, List.mem_range.2 hi, rfl⟩)
  rwa [errG_at hi] at this
/-! ### shares of equal weights -/
end Go.Proofs.YtflbffhahoblfaaGreatDoor
/- Contracts: the hall's prices. -/
noncomputable section
namespace Go.Proofs.YtflbffhahoblfaaGreatDoor
open Go Go.Den
set_option maxRecDepth 100000
theorem day_c {H : AHeap} {n : Int} : Ret Tryz.prog 69 [I n] H (I (whenL (outL n 0 99999) 3)) H := by
  refine fn_start Tryz.func69 rfl rfl rfl fun hc => ?_
  apply ct_seq
  apply ct_region
  apply seq_plain; exact do_assign rfl; exact rfl
  apply seq_nil
  apply ct_seq
  apply ct_region
  apply seq_plain; exact do_move rfl; exact rfl
  apply seq_call (ht := rfl); exact within89; exact rfl
  apply seq_plain; exact do_assign rfl; exact rfl
  apply seq_nil
  apply ct_ret
  exact fin_flat hc rfl rfl ⟨rfl, rfl⟩
end Go.Proofs.YtflbffhahoblfaaGreatDoor
/- Plain law: teams with the same figures. -/
noncomputable section
namespace Go.Proofs.YtflbffhahoblfaaGreatDoor
open Go Go.Den
set_option maxRecDepth 100000
def idxs (t : List Rw) (a : Fg) (i : Nat) : List Int := ((List.range i).filter fun j => decide (t[j]?.map figL = some a)).map fun (j : Nat) => (j : Int)
section
variable {t : List Rw} {a b : Fg} {i : Nat}
theorem idxs_succ (h : i < t.length) : idxs t a (i + 1) = if figL t[i] = a then idxs t a i ++ [(i : Int)] else idxs t a i := by
  unfold idxs
  rw [List.range_succ, List.filter_append, List.map_append]
  have e : t[i]?.map figL = some (figL t[i]) := by rw [List.getElem?_eq_getElem h]; rfl
  by_cases p : figL t[i] = a
  · have hp : decide (t[i]?.map figL = some a) = true := decide_eq_true (by rw [e, p])
    rw [if_pos p, List.filter_cons, if_pos hp]; rfl
  · have hp : ¬ decide (t[i]?.map figL = some a) = true := by
      rw [decide_eq_true_iff, e]; exact fun h => p (Option.some.inj h)
    rw [if_neg p, List.filter_cons, if_neg hp]; simp
theorem mem_idxs {k : Int} : k ∈ idxs t a i ↔ ∃ j, j < i ∧ k = (j : Int) ∧ t[j]?.map figL = some a := by
  unfold idxs
  rw [List.mem_map]
  constructor
  · rintro ⟨j, hj, rfl⟩
    rw [List.mem_filter, List.mem_range, decide_eq_true_iff] at hj
    exact ⟨j, hj.1, rfl, hj.2⟩
  · rintro ⟨j, h1, rfl, h2⟩
    exact ⟨j, by rw [List.mem_filter, List.mem_range, decide_eq_true_iff]; exact ⟨h1, h2⟩, rfl⟩
theorem idxs_ne {j : Nat} (hab : a ≠ b) (hne : idxs t a i ≠ []) : idxs t a i ≠ idxs t b j := fun e => by
  obtain ⟨k, r, hk⟩ := List.exists_cons_of_ne_nil hne
  have h1 : k ∈ idxs t a i := by rw [hk]; exact List.mem_cons_self ..
  have h2 : k ∈ idxs t b j := by rw [← e]; exact h1
  obtain ⟨u, _, rfl, hu⟩ := mem_idxs.1 h1
  obtain ⟨v, _, e2, hv⟩ := mem_idxs.1 h2
  have : u = v := by omega
  subst this
  rw [hu] at hv
  exact hab (Option.some.inj hv)
end
end Go.Proofs.YtflbffhahoblfaaGreatDoor
/- Contracts: rows are sorted by insertion. -/
noncomputable section
namespace Go.Proofs.YtflbffhahoblfaaGreatDoor
open Go Go.Den
set_option maxRecDepth 100000
theorem do_pred {P : Program} {l : EL} {h : AHeap} {x : Operand} {t t' : TypeId} {i : Nat} (hx : ev l x = some (.int .i64 ((i + 1 : Nat) : Int))) (hr : i < 9223372036854775807) : Does P l (.binOp .sub t x (.const (.int .i64 1)) t') h (.int .i64 (i : Int)) h := by
  have := do_sub (P := P) (l := l) (h := h) (t := t) (t' := t') (y := .const (.int .i64 1)) hx rfl (by omega)
  have e : ((i + 1 : Nat) : Int) - 1 = (i : Int) := by omega
  rw [e] at this
  exact this
end Go.Proofs.YtflbffhahoblfaaGreatDoor
