/- HallDepths: the law's own walk. -/
import Derived.Test.YtmcecjplgalcgaaGreatDoorBgB
import Derived.Test.YtmcecjplgalcgaaGreatDoorHkC
import Derived.Test.YtmcecjplgalcgaaGreatDoorBgH
import Derived.Test.YtmcecjplgalcgaaGreatDoorAsC
import Derived.Test.YtmcecjplgalcgaaGreatDoorPrL
import Derived.Test.YtmcecjplgalcgaaGreatDoorHaB
import Derived.Test.YtmcecjplgalcgaaGreatDoorSrL
import Derived.Test.YtmcecjplgalcgaaGreatDoorSxK
import Derived.Test.YtmcecjplgalcgaaGreatDoorStC
import Derived.Test.YtmcecjplgalcgaaGreatDoorSxZ
import Derived.Test.YtmcecjplgalcgaaGreatDoorAwake
import Derived.Test.YtmcecjplgalcgaaGreatDoorWoC
import Derived.Test.YtmcecjplgalcgaaGreatDoorAsF
import Derived.Test.YtmcecjplgalcgaaGreatDoorFxC
noncomputable section
namespace Go.Proofs.YtmcecjplgalcgaaGreatDoor
open Go Go.Den
set_option maxRecDepth 100000
theorem ext_more {H : AHeap} (hc : Closed H) {lo lo' : Nat} {L M : List (Option ABlk)} : Ext (ext H lo L) (ext H lo' (L ++ M)) := fun b y hb => by
 rw [ext_get hc] at hb ⊢
 by_cases h : b % 2 = 0 ∧ H.fresh ≤ b
 ·rw [if_pos h] at hb ⊢
  cases e : L[b / 2 - H.next]? with
  | none => rw [e] at hb; cases hb
  | some x => rw [getApp e]; rw [e] at hb; exact hb
 ·rw [if_neg h] at hb ⊢; exact hb
end Go.Proofs.YtmcecjplgalcgaaGreatDoor
/- Plain law: the uses of tables (TopNapUsed). -/
noncomputable section
namespace Go.Proofs.YtmcecjplgalcgaaGreatDoor
open Go Go.Den
set_option maxRecDepth 100000
/-! ### uses are sums over the own bookings -/
def sumB (l : List Bk) : Int := (l.map lenB).sum
theorem sumB_app {l m : List Bk} : sumB (l ++ m) = sumB l + sumB m := by unfold sumB; rw [List.map_append, List.sum_append]
theorem useI_own {n : Nat} {l : List Bk} {A : List Int} (hA : ∀ (j : Nat) (h : j < A.length), 0 ≤ A[j]) (hl : l.length = A.length) : ∀ i, i ≤ l.length → ∀ k (h : k < n), (useI n l A i)[k]'(by rw [useI_len]; exact h) = sumB (ownB l A k i)
 | 0, _, k, h => by simp [useI, ownB, sumB]
 | i + 1, hi, k, h => by
  have ih := useI_own (n := n) hA hl i (by omega)
  have h1 : i < l.length := by omega
  have h2 : i < A.length := by omega
  have e1 := useI_succ (n := n) h1 h2
  have e2 := ownB_succ (A := A) (n := k) h1
  rw [List.getElem?_eq_getElem h2] at e2
  have hn : A[i].toNat < n → (useI n l A i)[A[i].toNat]?.getD 0 = sumB (ownB l A A[i].toNat i) := fun hk => by
   rw [List.getElem?_eq_getElem (by rw [useI_len]; exact hk), Option.getD_some]
   exact ih _ hk
  have e3 : (useI n l A (i + 1))[k]'(by rw [useI_len]; exact h) = (useS (useI n l A i) A[i] l[i])[k]'(by unfold useS; rw [List.length_set, useI_len]; exact h) := by simp only [e1]
  rw [e3, e2]
  unfold useS
  rw [List.getElem_set]
  by_cases e : A[i].toNat = k
  ·have e4 : A[i] = (k : Int) := by have := hA i h2; omega
   rw [if_pos e, if_pos (by rw [e4]), sumB_app, hn (by omega), e]
   simp [sumB]
  ·rw [if_neg e, if_neg (by intro e5; have := Option.some.inj e5; omega)]
   exact ih k h
/-! ### the bookings of one table -/
theorem ownB_iff {l : List Bk} {A : List Int} {n : Nat} {x : Bk} : ∀ i, i ≤ l.length → (x ∈ ownB l A n i ↔ ∃ j, ∃ h : j < l.length, j < i ∧ A[j]? = some (n : Int) ∧ l[j] = x)
 | 0, _ => by simp [ownB]
 | i + 1, hi => by
  have h1 : i < l.length := by omega
  have ih := ownB_iff (l := l) (A := A) (n := n) (x := x) i (by omega)
  rw [ownB_succ h1]
  by_cases e : A[i]? = some (n : Int)
  ·rw [if_pos e, List.mem_append, ih, List.mem_singleton]
   constructor
   ·rintro (⟨j, h, g1, g2, g3⟩ | rfl)
    ·exact ⟨j, h, by omega, g2, g3⟩
    ·exact ⟨i, h1, by omega, e, rfl⟩
   ·rintro ⟨j, h, g1, g2, g3⟩
    by_cases ej : j = i
    ·subst ej; exact .inr g3.symm
    ·exact .inl ⟨j, h, by omega, g2, g3⟩
  ·rw [if_neg e, ih]
   constructor
   ·rintro ⟨j, h, g1, g2, g3⟩
    exact ⟨j, h, by omega, g2, g3⟩
   ·rintro ⟨j, h, g1, g2, g3⟩
    have : j ≠ i := by rintro rfl; exact e g2
    exact ⟨j, h, by omega, g2, g3⟩
theorem ownB_sep {l : List Bk} {A : List Int} {n : Nat} (hs : ∀ i k (h : i < l.length) (h2 : k < i), A[i]? = some (n : Int) → A[k]? = some (n : Int) → meetB l[i] (l[k]'(by omega)) = false) : ∀ i, i ≤ l.length → (ownB l A n i).Pairwise fun a b => meetB b a = false
 | 0, _ => .nil
 | i + 1, hi => by
  have h1 : i < l.length := by omega
  have ih := ownB_sep hs i (by omega)
  rw [ownB_succ h1]
  by_cases e : A[i]? = some (n : Int)
  ·rw [if_pos e]
   refine List.pairwise_append.2 ⟨ih, List.pairwise_singleton .., fun a ha b hb => ?_⟩
   rw [List.mem_singleton.1 hb]
   obtain ⟨j, h, g1, g2, rfl⟩ := (ownB_iff i (by omega)).1 ha
   exact hs i j h1 g1 e g2
  ·rw [if_neg e]; exact ih
/-! ### when a table is worn -/
def Seq (l : List Bk) : Prop := l.Pairwise fun a b => a.to ≤ b.frm
theorem sort_seq {T : List Bk} (ht : ∀ x ∈ T, x.frm < x.to) (hs : T.Pairwise fun a b => meetB b a = false) : Seq (isort ltB T) := by
 have hp := isort_perm (lt := ltB) T
 have h1 := isort_srt weakB T
 have h2 : (isort ltB T).Pairwise fun a b => meetB b a = false := (hp.pairwise_iff (fun {a b} h => by rw [meetB_comm]; exact h)).2 hs
 unfold Seq
 refine (List.Pairwise.and (R := fun a b : Bk => ltB b a = false) h1 h2).imp_of_mem fun {a b} ha hb hab => ?_
 obtain ⟨k1, k2⟩ := hab
 have k1 := ltB_f.1 k1
 have m1 := ht a (hp.mem_iff.1 ha)
 have m2 := ht b (hp.mem_iff.1 hb)
 have k2 : ¬ (b.frm < a.to ∧ a.frm < b.to) := by
  rw [← meetB_iff, k2]; simp
 omega
end Go.Proofs.YtmcecjplgalcgaaGreatDoor
/- Plain law: the first and the last quarters of tables, and the uses of kinds (TopNapUsed). -/
noncomputable section
namespace Go.Proofs.YtmcecjplgalcgaaGreatDoor
open Go Go.Den
set_option maxRecDepth 100000
/-! ### the first and the last quarter -/
section
variable {t : List Tb} {l : List Bk} {A : List Int}
theorem perm_sumB {l m : List Bk} (h : l.Perm m) : sumB l = sumB m := by
 unfold sumB
 induction h with
 | nil => rfl
 | cons x _ ih => simp only [List.map_cons, List.sum_cons, ih]
 | swap x y l => simp only [List.map_cons, List.sum_cons]; omega
 | trans _ _ h1 h2 => exact h1.trans h2
theorem sumB_pos {l : List Bk} (h : ∀ x ∈ l, x.frm < x.to) (hne : l ≠ []) : 0 < sumB l := by
 cases l with
 | nil => exact absurd rfl hne
 | cons x l =>
  have h0 := h x (by simp)
  have e : sumB (x :: l) = lenB x + sumB l := by simp [sumB]
  have h2 : ∀ m : List Bk, (∀ z ∈ m, z.frm < z.to) → 0 ≤ sumB m := fun m hm => by
   induction m with
   | nil => simp [sumB]
   | cons z m ih =>
    have h1 := ih fun u hu => hm u (List.mem_cons_of_mem _ hu)
    have h2 := hm z (by simp)
    have e : sumB (z :: m) = lenB z + sumB m := by simp [sumB]
    rw [e]; unfold lenB; omega
  have := h2 l fun u hu => h u (List.mem_cons_of_mem _ hu)
  rw [e]; unfold lenB; omega
end
/-! ### the uses of a kind -/
/-! ### a map from texts to sums -/
end Go.Proofs.YtmcecjplgalcgaaGreatDoor
/- Plain facts for HallUses: what tables are used, and when they are worn. -/
noncomputable section
namespace Go.Proofs.YtmcecjplgalcgaaGreatDoor
open Go Go.Den
def cntW (w : Int) (x : Bk) : Int := if x.frm ≤ w then min x.to (w + 1) - x.frm else 0
def cntL (w : Int) (l : List Bk) : Int := (l.map (cntW w)).sum
def insW (w : Int) (x : Bk) : Bool := decide (x.frm ≤ w) && decide (w < x.to)
theorem cntL_perm {l m : List Bk} (h : l.Perm m) (w : Int) : cntL w l = cntL w m := by
 unfold cntL
 induction h with
 | nil => rfl
 | cons x _ ih => simp only [List.map_cons, List.sum_cons, ih]
 | swap x y l => simp only [List.map_cons, List.sum_cons]; omega
 | trans _ _ h1 h2 => exact h1.trans h2
theorem cnt_none {w : Int} {l : List Bk} (h : ∀ x ∈ l, w < x.frm) : cntL w l = 0 := by
 unfold cntL
 induction l with
 | nil => rfl
 | cons a r ih =>
  rw [List.map_cons, List.sum_cons, ih fun x hx => h x (by simp [hx])]
  have := h a (by simp)
  unfold cntW
  rw [if_neg (by omega)]; rfl
theorem worn_seq : ∀ {l : List Bk} {lim : Int}, Seq l → (∀ x ∈ l, 0 ≤ x.frm ∧ x.frm < x.to) → 1 ≤ lim → (lim ≤ sumB l → (∃ x ∈ l, insW (wornL l lim) x = true) ∧ cntL (wornL l lim) l = lim ∧ 0 ≤ wornL l lim ∧ ∀ z : Int, (∀ x ∈ l, z ≤ x.frm) → z ≤ wornL l lim) ∧ (sumB l < lim → wornL l lim = -1)
 | [], lim, _, _, h1 => ⟨fun h => by simp [sumB] at h; omega, fun _ => rfl⟩
 | x :: r, lim, hs, ht, h1 => by
  have hx := ht x (by simp)
  have hsr := (List.pairwise_cons.1 hs).2
  have hxr := (List.pairwise_cons.1 hs).1
  have hsum : sumB (x :: r) = lenB x + sumB r := by simp [sumB]
  have hlen : lenB x = x.to - x.frm := rfl
  by_cases h : lim ≤ lenB x
  ·have e : wornL (x :: r) lim = x.frm + lim - 1 := if_pos h
   have hr : ∀ y ∈ r, x.frm + lim - 1 < y.frm := fun y hy => by have := hxr y hy; omega
   have hpos : 0 ≤ sumB r := by
    by_cases hr0 : r = []
    ·subst hr0; simp [sumB]
    ·have := sumB_pos (l := r) (fun y hy => (ht y (by simp [hy])).2) hr0; omega
   refine ⟨fun _ => ?_, fun h2 => by omega⟩
   rw [e]
   refine ⟨⟨x, by simp, by unfold insW; simp; omega⟩, ?_, by omega, fun z hz => by have := hz x (by simp); omega⟩
   unfold cntL
   rw [List.map_cons, List.sum_cons]
   have := cnt_none hr
   unfold cntL at this
   rw [this]
   unfold cntW
   rw [if_pos (by omega)]
   omega
  ·have e : wornL (x :: r) lim = wornL r (lim - lenB x) := if_neg h
   obtain ⟨i1', i2⟩ := worn_seq (l := r) (lim := lim - lenB x) hsr (fun y hy => ht y (by simp [hy])) (by omega)
   rw [e]
   refine ⟨fun h2 => ?_, fun h2 => i2 (by omega)⟩
   obtain ⟨⟨y, hy, hi⟩, hc, h0, hz⟩ := i1' (by omega)
   have hxw : x.to ≤ wornL r (lim - lenB x) := hz x.to hxr
   refine ⟨⟨y, by simp [hy], hi⟩, ?_, h0, fun z hz2 => by have := hz2 x (by simp); omega⟩
   unfold cntL at hc ⊢
   rw [List.map_cons, List.sum_cons, hc]
   unfold cntW
   rw [if_pos (by omega)]
   omega
theorem chk_sep {t : List Tb} {l : List Bk} {A : List Int} (h : chkA t l A = 0) (hl : A.length = l.length) (n : Nat) : (ownB l A n l.length).Pairwise fun a b => meetB b a = false := by
 refine ownB_sep (fun i k hi hk e1 e2 => ?_) _ (Nat.le_refl _)
 have h1 : chkI t l A i = 0 := by
  unfold chkA at h
  exact firstL_allZ h _ (List.mem_map.2 ⟨i, List.mem_range.2 (by omega), rfl⟩)
 rw [chkI_at hi (by omega)] at h1
 have e3 : A[i]'(by omega) = (n : Int) := by
  rw [List.getElem?_eq_getElem (show i < A.length by omega), Option.some.injEq] at e1; exact e1
 rw [e3] at h1
 split at h1
 ·exact absurd h1 (by decide)
 ·split at h1
  ·exact absurd h1 (by decide)
  ·split at h1
   ·exact absurd h1 (by decide)
   ·rename_i h4
    cases hm : meetB l[i] (l[k]'(by omega)) with
    | false => rfl
    | true =>
     exfalso
     apply h4
     rw [List.any_eq_true]
     refine ⟨k, List.mem_range.2 hk, ?_⟩
     rw [decide_eq_true e2, List.getElem?_eq_getElem (show k < l.length by omega)]
     rw [meetB_comm] at hm; simpa using hm
structure TabU (l : List Bk) (A : List Int) (lim : Int) (n : Nat) : Prop where
 low : -1 ≤ wornK l A lim n
 iff_ : 0 ≤ wornK l A lim n ↔ lim ≤ sumB (ownB l A n l.length)
 cnt : 0 ≤ wornK l A lim n → cntL (wornK l A lim n) (ownB l A n l.length) = lim
 ins : 0 ≤ wornK l A lim n → (ownB l A n l.length).any (insW (wornK l A lim n)) = true
 bd : wornK l A lim n ≤ 99999
theorem tab_u {t : List Tb} {l : List Bk} {A : List Int} {lim : Int} (hb : bothE t l = 0) (h : chkA t l A = 0) (hl : A.length = l.length) (h1 : 1 ≤ lim) (n : Nat) : TabU l A lim n := by
 have hok := (both_ok hb).ok
 have hsep := chk_sep h hl n
 have hin : ∀ x ∈ ownB l A n l.length, BkOk x := fun x hx => hok x (ownB_mem _ x hx)
 obtain ⟨own, ho⟩ : ∃ own, own = ownB l A n l.length := ⟨_, rfl⟩
 have eK : wornK l A lim n = wornL (isort ltB own) lim := by unfold wornK; rw [ho]
 rw [← ho] at hsep hin
 have hlt : ∀ x ∈ own, x.frm < x.to := fun x hx => (hin x hx).lt
 have hp := isort_perm (lt := ltB) own
 have hsq := sort_seq hlt hsep
 have hT : ∀ x ∈ isort ltB own, 0 ≤ x.frm ∧ x.frm < x.to := fun x hx => by
  have hx := hp.mem_iff.1 hx
  exact ⟨(hin x hx).f0, hlt x hx⟩
 have hto : ∀ x ∈ isort ltB own, x.to ≤ 99999 := fun x hx => (hin x (hp.mem_iff.1 hx)).t1
 obtain ⟨a1, a2⟩ := worn_seq hsq hT h1
 have es : sumB (isort ltB own) = sumB own := perm_sumB hp
 rw [es] at a1 a2
 by_cases hc : lim ≤ sumB own
 ·obtain ⟨⟨y, hy, hi⟩, hcn, h0, _⟩ := a1 hc
  refine ⟨by rw [eK]; omega, by rw [eK, ← ho]; exact ⟨fun _ => hc, fun _ => h0⟩, fun _ => ?_, fun _ => ?_, ?_⟩
  ·rw [eK, ← ho, ← cntL_perm hp]; exact hcn
  ·rw [eK, ← ho, List.any_eq_true]; exact ⟨y, hp.mem_iff.1 hy, hi⟩
  ·rw [eK]
   have := hto y hy
   unfold insW at hi
   simp at hi
   omega
 ·have e := a2 (by omega)
  refine ⟨by rw [eK, e]; omega, by rw [eK, ← ho, e]; omega, fun h0 => ?_, fun h0 => ?_, by rw [eK, e]; omega⟩
  ·rw [eK, e] at h0; omega
  ·rw [eK, e] at h0; omega
theorem cntW_bd {w : Int} {x : Bk} (h : BkOk x) : 0 ≤ cntW w x ∧ cntW w x ≤ 99999 := by
 have h1 := h.f0
 have h2 := h.lt
 have h3 := h.t1
 unfold cntW
 split <;> omega
theorem cntL_bd {w : Int} : ∀ {l : List Bk}, (∀ x ∈ l, BkOk x) → 0 ≤ cntL w l ∧ cntL w l ≤ 99999 * (l.length : Int)
 | [], _ => by simp [cntL]
 | x :: r, h => by
  have h1 := cntW_bd (w := w) (h x (by simp))
  have h2 := cntL_bd (w := w) (l := r) fun y hy => h y (by simp [hy])
  have e : cntL w (x :: r) = cntW w x + cntL w r := by simp [cntL]
  rw [e, List.length_cons]; omega
theorem sum_set : ∀ (u : List Int) (m : Nat) (v : Int), m < u.length → (u.set m v).sum = u.sum - u[m]?.getD 0 + v
 | a :: r, 0, v, _ => by simp; omega
 | a :: r, m + 1, v, h => by
  have := sum_set r m v (by simpa using h)
  simp only [List.set_cons_succ, List.sum_cons, List.getElem?_cons_succ]
  omega
theorem use_sum {n : Nat} {l : List Bk} {A : List Int} (hl : A.length = l.length) (hA : ∀ i (h : i < l.length) (h2 : i < A.length), 0 ≤ A[i] ∧ A[i] < n) : ∀ i, i ≤ l.length → (useI n l A i).sum = sumB (l.take i)
 | 0, _ => by simp [useI, sumB]
 | i + 1, h => by
  have hi : i < l.length := by omega
  have hiA : i < A.length := by omega
  rw [useI_succ hi hiA]
  unfold useS
  have hb := hA i hi hiA
  rw [sum_set _ _ _ (by rw [useI_len]; omega), use_sum hl hA i (by omega), List.take_succ_eq_append_getElem hi, sumB_app]
  simp only [sumB, List.map_cons, List.map_nil, List.sum_cons, List.sum_nil]
  omega
theorem use_all {t : List Tb} {l : List Bk} {A : List Int} (h : chkA t l A = 0) (hl : A.length = l.length) : (usedV t l A).sum = sumB l := by
 unfold usedV
 rw [use_sum hl (fun i h1 h2 => chkA_in h h1 h2) _ (Nat.le_refl _), List.take_length]
theorem take_sum {u : List Int} {i : Nat} (h : i < u.length) : (u.take (i + 1)).sum = (u.take i).sum + u[i] := by
 rw [List.take_succ_eq_append_getElem h, List.sum_append]; simp
theorem take_bd {u : List Int} {B : Int} (hB : 0 ≤ B) (hu : ∀ y ∈ u, 0 ≤ y ∧ y ≤ B) : ∀ i, i ≤ u.length → 0 ≤ (u.take i).sum ∧ (u.take i).sum ≤ B * (i : Int)
 | 0, _ => by simp
 | i + 1, h => by
  have ih := take_bd hB hu i (by omega)
  have hx := hu u[i] (List.getElem_mem (by omega))
  rw [take_sum (by omega)]
  have e : B * ((i + 1 : Nat) : Int) = B * (i : Int) + B := by rw [Int.natCast_succ, Int.mul_add, Int.mul_one]
  omega
theorem used_bd {t : List Tb} {l : List Bk} {A : List Int} (hb : bothE t l = 0) (hl : l.length ≤ 8) : ∀ y ∈ usedV t l A, 0 ≤ y ∧ y ≤ 799992 := fun y hy => by
 have := useI_bd (A := A) (n := t.length) (lenB_in hb) l.length y hy
 omega
end Go.Proofs.YtmcecjplgalcgaaGreatDoor
