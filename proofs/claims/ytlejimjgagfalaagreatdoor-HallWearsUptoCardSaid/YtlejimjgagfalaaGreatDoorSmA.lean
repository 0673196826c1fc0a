import Derived.Test.YtlejimjgagfalaaGreatDoorQlA
import Derived.Test.YtlejimjgagfalaaGreatDoorHaC
import Derived.Test.YtlejimjgagfalaaGreatDoorQaB
import Derived.Test.YtlejimjgagfalaaGreatDoorOpA
import Derived.Test.YtlejimjgagfalaaGreatDoorStA
noncomputable section
namespace Go.Proofs.YtlejimjgagfalaaGreatDoor
open Go Go.Den
set_option maxRecDepth 100000
theorem zkD {H : AHeap} {p : Option Addr} {c : Nat} {a : List Int} {i : Nat} (hp : SlAt H 1 i1 p a) (hn : a.length ≤ 1000000) :
  Ret Tryz.prog 284 [.slice p a.length c, I i] H (I (a[i]?.getD 0)) H := by
 refine zae Tryz.func284 rfl rfl rfl fun hc => ?_
 refine zst ?_;refine zq0 ?_;apply zaf;refine zai rfl (fun h1 => ?_) (fun h1 => ?_)
 ·have h1 : i < a.length := by simpa using h1
  obtain ⟨b1, o1, cs1, z1, s1, ro1, rfl, hg1, hw1⟩ := hp.out (by intro e; rw [e] at h1; simp at h1);refine zst ?_;refine zq2 ?_;refine zq3 ?_;refine zst ?_;refine zab hc rfl rfl ⟨?_, rfl⟩;rw [List.getElem?_eq_getElem h1]; rfl
 ·have h1 : ¬ i < a.length := by simpa using h1
  refine zst ?_;refine zab hc rfl rfl ⟨?_, rfl⟩;rw [List.getElem?_eq_none (by omega)]; rfl
theorem flatI1 : ∀ l : List Int, l.flatMap i1 = l.map I
 | [] => rfl
 | a :: r => by rw [List.flatMap_cons, flatI1 r]; rfl
theorem zdh {H : AHeap} {k n c : Nat} {neg : Bool} : renV (renOf H [nb H k]) 8 (packA [intQ neg (some ⟨nb H k, 0, none⟩) n c]) = some (intQ neg (some ⟨H.fresh, 0, none⟩) n c) := by
 simp [packA, renV, renL, zdE]
def ratN (neg : Bool) (u : Nat) : List UInt8 := if neg = true then 45 :: Lib.decDigits u else Lib.decDigits u
def ratQ (neg : Bool) (u d : Nat) : List UInt8 := if d = 1 then ratN neg u else ratN neg u ++ 47 :: Lib.decDigits d
theorem ratS_Q (n : Int) (d : Nat) : ratS n d = ratQ (decide (n < 0)) n.natAbs d := by
 unfold ratS ratQ ratA ratN;by_cases h : n < 0
 ·simp only [if_pos h, decide_eq_true h, if_true];split <;> rfl
 ·simp only [if_neg h, decide_eq_false h, Bool.false_eq_true, if_false]
theorem zcS (u : Nat) (h : 0 < (Lib.decDigits u).length) : ((Lib.decDigits u)[0]'h).toNat ≠ 45 ∧ ((Lib.decDigits u)[0]'h).toNat ≠ 47 := by
 have := List.all_eq_true.1 (za9 u) _ (List.getElem_mem h);have := zce.1 this;omega
theorem zmJ (neg : Bool) (u : Nat) : slashI (ratN neg u) = (ratN neg u).length := by
 cases neg with
 | true =>
  show slashI (45 :: Lib.decDigits u) = (45 :: Lib.decDigits u).length;simp only [slashI, List.length_cons]
  rw [zfb (za9 u)]; rfl
 | false => exact zfb (za9 u)
theorem zd3 (neg : Bool) (u d : Nat) : slashI (ratQ neg u d) = (ratN neg u).length := by
 unfold ratQ;split
 ·exact zmJ neg u
 ·cases neg with
  | true =>
   show slashI (45 :: (Lib.decDigits u ++ 47 :: Lib.decDigits d)) = (45 :: Lib.decDigits u).length;simp only [slashI, List.length_cons]
   rw [zfc (za9 u)]; rfl
  | false => exact zfc (za9 u)
theorem zeG (neg : Bool) (u : Nat) : ratQ neg u 1 = ratN neg u := if_pos rfl
theorem zc4 (neg : Bool) (u : Nat) {d : Nat} (h : d ≠ 1) : ratQ neg u d = ratN neg u ++ 47 :: Lib.decDigits d := if_neg h
theorem zk3 {H : AHeap} {j k n c n' c' : Nat} {neg neg' : Bool} (h : j ≠ k) : renV (renOf H [nb H j, nb H k]) 8 (packA [intQ neg (some ⟨nb H j, 0, none⟩) n c, intQ neg' (some ⟨nb H k, 0, none⟩) n' c']) = some (.tuple ⟨[intQ neg (some ⟨H.fresh, 0, none⟩) n c, intQ neg' (some ⟨H.fresh + 2, 0, none⟩) n' c']⟩) := by
 simp [packA, renV, renL, zfh h]
set_option maxHeartbeats 4000000 in
theorem quo_c {H : AHeap} {a b : Int} (h1 : -9223372036854775808 < a) (h2 : a ≤ 9223372036854775807) (hb : 0 < b) (hb2 : b ≤ 9223372036854775807) : Ret Tryz.prog 137 [.agg ⟨nI a⟩, .agg ⟨nI b⟩] H (.agg ⟨nI (a / b)⟩) H := by
 refine zae Tryz.func137 rfl rfl rfl fun hc => ?_
 refine zst ?_;refine zq17 ?_;apply zac (ht := rfl); exact znU; exact rfl;refine zq0 ?_;apply zaf;refine zah rfl ?_ ?_
 ·show decide (max (-1) (min 1 b) < 0) = false;simp; omega
 refine zst ?_;(iterate 2 (refine zq17 ?_));apply zac (ht := rfl); exact zlK (by assumption) (by assumption) (by assumption) (by assumption); exact rfl;refine zst ?_;refine zq32 ?_;refine zq29 ?_;refine zst ?_;refine zq17 ?_;refine zq29 ?_;apply zaV;refine zcp hc rfl rfl (by exact zaa rfl) (by exact rfl) (by exact rfl) (by exact rfl) (by exact ⟨rfl, rfl⟩)
abbrev nB (s : Int) : ABlk := .cells (nI s) 0 false false
set_option maxHeartbeats 4000000 in
theorem gcd_c {H : AHeap} {a b : Int} (ha1 : -9223372036854775808 < a) (ha2 : a ≤ 9223372036854775807) (hb1 : -9223372036854775808 < b) (hb2 : b ≤ 9223372036854775807) :
  Ret Tryz.prog 136 [.agg ⟨nI a⟩, .agg ⟨nI b⟩] H (.agg ⟨nI ((Nat.gcd a.natAbs b.natAbs : Nat) : Int)⟩) H := by
 refine zae Tryz.func136 rfl rfl rfl fun hc => ?_
 refine zst ?_;apply zax (by assumption); decide +kernel;refine zq13 ?_;apply zaC (ht := rfl); exact abs_c (by assumption) (by assumption); exact rfl;refine zq13 ?_;apply zaC (ht := rfl); exact abs_c (by assumption) (by assumption); exact rfl;refine zdg (k := 0) rfl (by decide +kernel) hc (by simp) (zav rfl rfl (zaa rfl) rfl rfl (zat _)) (fun L1 l1 o1 k1 => ?_);refine zdg (k := 1) rfl (by decide +kernel) hc (by rw [l1]; simp) (zav rfl rfl (zaa ((o1 1 (by decide)).trans rfl)) rfl rfl (zat _)) (fun L2 l2 o2 k2 => ?_);have k0 : L2[0]? = some (some (nB (a.natAbs : Int))) := (o2 0 (by decide)).trans k1;have k3 : L2[2]? = some (some (nB 0)) := (o2 2 (by decide)).trans ((o1 2 (by decide)).trans rfl);have hA : a.natAbs ≤ 9223372036854775807 := by omega
 have hB : b.natAbs ≤ 9223372036854775807 := by omega
 apply zaz;refine zst ?_;apply zar;simp only [List.map_nil, List.append_nil]
 refine zaA (α := Nat × Nat × List (Option ABlk)) (fun _ => [(2, .pointer (some ⟨nb H 0, 0, none⟩)), (3, .pointer (some ⟨nb H 1, 0, none⟩)), (4, .pointer (some ⟨nb H 2, 0, none⟩))]) (fun s => ext H H.fresh s.2.2)
  (fun s => s.2.2[0]? = some (some (nB (s.1 : Int))) ∧ s.2.2[1]? = some (some (nB (s.2.1 : Int))) ∧ s.2.2[2]? = some (some (nB 0)) ∧ s.1 ≤ 9223372036854775807 ∧ s.2.1 ≤ 9223372036854775807 ∧ Nat.gcd s.1 s.2.1 = Nat.gcd a.natAbs b.natAbs) (fun s => s.2.1) ?_ (a.natAbs, b.natAbs, L2) ⟨k0, k2, k3, hA, hB, rfl⟩ zsb (.refl _)
 rintro ⟨x, y, L⟩ ⟨x0, x1, x2, hx, hy, hg⟩ ih
 simp only at x0 x1 x2 hx hy hg
 dsimp only
 have hl2 : 2 < L.length := (List.getElem?_eq_some_iff.1 x2).1;refine zst ?_;refine zq34 ?_;apply zac (ht := rfl); exact znU; exact rfl;refine zq0 ?_;apply zaf;refine zai rfl (fun h => ?_) (fun h => ?_)
 ·have h : (0 : Int) < (y : Int) := by
   rcases Nat.eq_zero_or_pos y with e | e
   ·subst e; exact absurd h (by decide)
   ·omega
  have hy2 : (y : Int) ≤ 9223372036854775807 := by omega
  have hx1 : -9223372036854775808 < (x : Int) := by omega
  have hx2 : (x : Int) ≤ 9223372036854775807 := by omega
  refine zst ?_;(iterate 2 (refine zq34 ?_));apply zac (ht := rfl); exact zlK (by assumption) (by assumption) (by assumption) (by assumption); exact rfl;refine zst ?_;refine zkY (k := L.length) hc (by simp) (zav rfl rfl (zaa (getApp List.getElem?_concat_length)) rfl rfl (zat _)) (fun M1 m1 p1 q1 => ?_);have m1 : M1.length = L.length + 2 := by rw [m1]; simp
  have eL : (L ++ [some (nB 0)]).length = L.length + 1 := by simp
  have p6 : M1[(L ++ [some (nB 0)]).length]? = some (some (nB 0)) := (p1 _ (by rw [eL]; omega)).trans List.getElem?_concat_length;refine za7 hc (by rw [m1]; show (L ++ [some (nB 0)]).length < _; omega) (zav rfl rfl (zaa p6) rfl rfl (zat _)) (fun M2 m2 p2 q2 => ?_);have g0 : M2[0]? = some (some (nB (x : Int))) := (p2 0 (by show _ ≠ (L ++ [some (nB 0)]).length; omega)).trans ((p1 0 (by omega)).trans (getApp (getApp x0)));have g1 : M2[1]? = some (some (nB (y : Int))) := (p2 1 (by show _ ≠ (L ++ [some (nB 0)]).length; omega)).trans ((p1 1 (by omega)).trans (getApp (getApp x1)));have g2 : M2[2]? = some (some (nB 0)) := (p2 2 (by show _ ≠ (L ++ [some (nB 0)]).length; omega)).trans ((p1 2 (by omega)).trans (getApp (getApp x2)));have h1 : (M2.set 0 none)[1]? = some (some (nB (y : Int))) := by rw [List.getElem?_set_ne (by omega)]; exact g1
  have h6 : (M2.set 0 none)[(L ++ [some (nB 0)]).length]? = some (some (nB ((x : Int) % (y : Int)))) := by rw [List.getElem?_set_ne (by show _ ≠ (L ++ [some (nB 0)]).length; omega)]; exact q2
  skip;refine zqV (k := 0) hc (by omega) (by decide +kernel) ?_;(iterate 2 (apply sf_off (hc := by assumption) (hfree := rfl) (hLx := rfl) (hnl := rfl); exact zaw rfl (by exact zaa (by assumption)) rfl (by exact rfl); exact rfl));refine zpX hc rfl (by decide +kernel) (by decide +kernel) rfl g0 (zav rfl rfl (zaa g0) rfl rfl (zat _)) ?_;refine sf_ser0 (k' := 1) hc rfl (by decide +kernel) (by rw [List.length_set]; omega) (zav rfl rfl (zaa (by rw [List.getElem?_set_ne (by omega)]; exact g1)) rfl rfl (zat _)) ?_;apply zaz;simp only [List.map_nil, List.append_nil];have e : (x : Int) % (y : Int) = ((x % y : Nat) : Int) := by omega
  have hlt := Nat.mod_lt x (show 0 < y by omega);rw [e];have q0 : ((M2.set 0 (some (nB (y : Int)))).set 1 (some (nB ((x % y : Nat) : Int))))[0]? = some (some (nB (y : Int))) := by rw [List.getElem?_set_ne (by omega), List.getElem?_set_self (by omega)]
  have q1' : ((M2.set 0 (some (nB (y : Int)))).set 1 (some (nB ((x % y : Nat) : Int))))[1]? = some (some (nB ((x % y : Nat) : Int))) := List.getElem?_set_self (by rw [List.length_set]; omega);have q2' : ((M2.set 0 (some (nB (y : Int)))).set 1 (some (nB ((x % y : Nat) : Int))))[2]? = some (some (nB 0)) := by rw [List.getElem?_set_ne (by omega), List.getElem?_set_ne (by omega)]; exact g2
  exact zaN (l' := [(2, .pointer (some ⟨nb H 0, 0, none⟩)), (3, .pointer (some ⟨nb H 1, 0, none⟩)), (4, .pointer (some ⟨nb H 2, 0, none⟩))]) zsb (.refl _) (ih (y, x % y, _) hlt ⟨q0, q1', q2', hy, by show x % y ≤ _; omega, by rw [← hg]; show Nat.gcd y (x % y) = Nat.gcd x y; rw [Nat.gcd_comm y, ← Nat.gcd_rec, Nat.gcd_comm]⟩)
 ·have h : y = 0 := by
   rcases Nat.eq_zero_or_pos y with e | e
   ·exact e
   ·exfalso;have e1 : max (-1) (min 1 (y : Int)) = 1 := by omega
    rw [e1] at h; simp at h
  subst h;rw [Nat.gcd_zero_right] at hg;apply zap;apply zaq; exact rfl;refine zst ?_;refine zq34 ?_;apply zcJ (hc := by assumption); rotate_left; exact zav rfl rfl (by exact zaa (by assumption)) rfl rfl (zat _); rotate_left; exact (by assumption);apply zaV;rw [← hg];exact zcp hc rfl rfl (zaa (List.getElem?_set_self hl2)) rfl rfl rfl ⟨rfl, rfl⟩
abbrev fF (n d : Int) : List Value := [I n, .slice none 0 0, I d, .slice none 0 0]
def sgnN (n d : Int) : Int := if d < 0 then -n else n
def mkG (n d : Int) : Int := ((Nat.gcd n.natAbs d.natAbs : Nat) : Int)
def mkN (n d : Int) : Int := sgnN n d / mkG n d
def mkD (n d : Int) : Int := (d.natAbs : Int) / mkG n d
set_option maxHeartbeats 4000000 in
theorem make_c {H : AHeap} {n d : Int} (h1 : -9223372036854775808 < n) (h2 : n ≤ 9223372036854775807) (h3 : -9223372036854775808 < d) (h4 : d ≤ 9223372036854775807) (h0 : d ≠ 0) :
  Ret Tryz.prog 97 [.agg ⟨nI n⟩, .agg ⟨nI d⟩] H (.agg ⟨fF (mkN n d) (mkD n d)⟩) H := by
 refine zae Tryz.func97 rfl rfl rfl fun hc => ?_
 refine zst ?_;refine zq17 ?_;apply zac (ht := rfl); exact znU; exact rfl;refine zq0 ?_;apply zaf;refine ct_JX (ds := []) (α := List (Option ABlk)) (fun _ => [(2, .pointer (some ⟨nb H 0, 0, none⟩)), (3, .pointer (some ⟨nb H 1, 0, none⟩)), (4, .pointer (some ⟨nb H 2, 0, none⟩))]) (fun L => ext H H.fresh L) (fun L => L[0]? = some (some (nB (sgnN n d))) ∧ L[1]? = some (some (nB (d.natAbs : Int))) ∧ L[2]? = some (some (.cells (fF 0 0) 0 false false))) ?_ ?_
 ·refine zai rfl (fun u => ?_) (fun u => ?_)
  ·have hd : d < 0 := by
    have u : max (-1) (min 1 d) < 0 := by simpa using u
    omega
   apply zax (by assumption); decide +kernel;refine zq13 ?_;apply zaC (ht := rfl); exact neg_c (by assumption) (by assumption); exact rfl;refine zq13 ?_;apply zaC (ht := rfl); exact neg_c (by assumption) (by assumption); exact rfl;refine zdg (k := 0) rfl (by decide +kernel) hc (by simp) (zav rfl rfl (zaa rfl) rfl rfl (zat _)) (fun L1 l1 o1 k1 => ?_);refine zdg (k := 1) rfl (by decide +kernel) hc (by rw [l1]; simp) (zav rfl rfl (zaa ((o1 1 (by decide)).trans rfl)) rfl rfl (zat _)) (fun L2 l2 o2 k2 => ?_);apply zaz;simp only [List.map_nil, List.append_nil];have e1 : sgnN n d = -n := if_pos hd;have e2 : (d.natAbs : Int) = -d := by omega
   exact ziz L2 ⟨by rw [e1]; exact (o2 0 (by decide)).trans k1, by rw [e2]; exact k2, (o2 2 (by decide)).trans ((o1 2 (by decide)).trans rfl)⟩ zsb rfl
  ·have hd : ¬ d < 0 := by
    have u : ¬ max (-1) (min 1 d) < 0 := by simpa using u
    omega
   have e1 : sgnN n d = n := if_neg hd;have e2 : (d.natAbs : Int) = d := by omega
   apply zbb;exact ziz _ ⟨by rw [e1]; rfl, by rw [e2]; rfl, rfl⟩ zsb rfl
 ·rintro L ⟨x0, x1, x2⟩
  have hs1 : -9223372036854775808 < sgnN n d := by unfold sgnN; split <;> omega
  have hs2 : sgnN n d ≤ 9223372036854775807 := by unfold sgnN; split <;> omega
  have hd0 : 0 < (d.natAbs : Int) := by omega
  have hd1 : -9223372036854775808 < (d.natAbs : Int) := by omega
  have hd2 : (d.natAbs : Int) ≤ 9223372036854775807 := by omega
  have hgN : (sgnN n d).natAbs = n.natAbs := by unfold sgnN; split <;> omega
  have hgD : ((d.natAbs : Int)).natAbs = d.natAbs := by omega
  have hl2 : 2 < L.length := (List.getElem?_eq_some_iff.1 x2).1;refine zst ?_;refine zq34 ?_;apply zad; exact zcu rfl rfl rfl; exact rfl;refine zst ?_;apply zay (hd := rfl) (hl := rfl); exact zaw rfl (by exact zaa (by assumption)) rfl (by exact rfl); exact rfl;refine zq1 ?_;refine zst ?_;refine zai rfl (fun u => ?_) (fun u => ?_)
  ·have u : (d.natAbs : Int) = 1 := by simpa using u
   have u1 : d.natAbs = 1 := by omega
   have e1 : mkN n d = sgnN n d := by unfold mkN mkG; rw [u1, Nat.gcd_one_right]; simp
   have e2 : mkD n d = (d.natAbs : Int) := by unfold mkD mkG; rw [u1, Nat.gcd_one_right]; simp
   refine zst ?_;(iterate 2 (refine zq34 ?_));refine zq28 ?_;apply zcJ (hc := by assumption); rotate_left; exact zav rfl rfl (by exact zaa (by assumption)) rfl rfl (zat _); rotate_left; exact (by assumption);apply zaV;rw [e1, e2];exact zcp hc rfl rfl (zaa (List.getElem?_set_self hl2)) rfl rfl rfl ⟨rfl, rfl⟩
  ·have hg : 0 < mkG n d := by
    unfold mkG;have := Nat.gcd_pos_of_pos_right n.natAbs (show 0 < d.natAbs by omega);omega
   have hg2 : mkG n d ≤ 9223372036854775807 := by
    unfold mkG;have := Nat.gcd_le_right n.natAbs (show 0 < d.natAbs by omega);omega
   refine zst ?_;(iterate 2 (refine zq34 ?_));apply zac (ht := rfl); exact gcd_c (by assumption) (by assumption) (by assumption) (by assumption); exact rfl;refine zst ?_;refine zq16 ?_;apply zcj;refine zcH (l' := [(2, .pointer (some ⟨nb H 0, 0, none⟩)), (3, .pointer (some ⟨nb H 1, 0, none⟩)), (4, .pointer (some ⟨nb H 2, 0, none⟩)), (5, .pointer (some ⟨nb H L.length, 0, none⟩))]) (h' := ext H H.fresh (L ++ [some (nB (mkG n d))])) zsb (by rw [set_mid rfl, hgN, hgD]; exact .refl _) ?_;have k5 : (L ++ [some (nB (mkG n d))])[L.length]? = some (some (nB (mkG n d))) := List.getElem?_concat_length;apply zax (by assumption); decide +kernel;apply zaS (hfree := rfl); exact zaw rfl (by exact zaa (getApp (getApp (by assumption)))) rfl (by exact rfl); exact rfl;refine zq35 ?_;apply zaC (ht := rfl); exact quo_c (by assumption) (by assumption) (by assumption) (by assumption); exact rfl;apply zaS (hfree := rfl); exact zaw rfl (by exact zaa (getApp (getApp (by assumption)))) rfl (by exact rfl); exact rfl;refine zq35 ?_;apply zaC (ht := rfl); exact quo_c (by assumption) (by assumption) (by assumption) (by assumption); exact rfl;apply zau (hfree := rfl); intro _; exact ze1 rfl rfl rfl rfl; exact rfl;refine zdg (k := 2) rfl (by decide +kernel) hc (by simp; omega) (zav rfl rfl (zaa (getApp x2)) rfl rfl (zat _)) (fun L1 l1 o1 k1 => ?_);apply zaz;simp only [List.map_nil, List.append_nil];apply zaV;exact zcp hc rfl rfl (zaa k1) rfl rfl rfl ⟨rfl, rfl⟩
end Go.Proofs.YtlejimjgagfalaaGreatDoor
noncomputable section
namespace Go.Den
open Go.Sort
theorem zqb {Γ : Ga} {H : AHeap} {w : World} (hr : Rel Γ H w) (k : Nat) : Rel Γ H (w.drewN k) ∧ Adv Γ H w Γ H (w.drewN k) :=
 ⟨⟨hr.dom, hr.blk, hr.ownd, hr.sep⟩, ⟨fun _ _ => rfl, Nat.le_refl _, Nat.le_refl _, fun _ _ _ => rfl, fun _ h => .inr h, rfl, rfl, rfl, .refl _⟩⟩
theorem zmZ {B : Nat → Option BB} {Γ : Ga} {H : AHeap} {w : World} (hG : Glo B H) (hr : Rel Γ H w) (hg : Glob Γ) {g : Nat} {cs : List Value} (hB : B g = some (laidBB g cs)) (hlt : g < 1000) (hf : cs.all flatC = true) :
  ∃ e fz, w.heap[g]? = some (.cells cs.toArray e fz) := by
 have h1 := hG g _ hB
 have h2 : H.get (2 * g + 1) = some (.cells cs 0 false true) := by
  rw [AHeap.get_odd _ (by omega), show (2 * g + 1) / 2 = g by omega]; exact h1
 obtain ⟨i, o, k1, k2, k3⟩ := hr.blk _ _ h2;obtain ⟨i', m1, m2, m3, m4⟩ := hg g hlt;rw [k1] at m1; cases m1;obtain ⟨rc, e, fz, rfl, q1, q2, q3, q4, q5, q6, q7, q8⟩ := k3;rw [m2] at k2;have hs : rc.size = cs.length := by omega
 have : rc = cs.toArray := by
  refine Array.ext (by simp [hs]) fun j hj hj2 => ?_
  have hj3 : j < cs.length := by simpa using hj2
  obtain ⟨v', n1, n2⟩ := q8 j cs[j] (List.getElem?_eq_getElem hj3);have := vr_eq n2 (List.all_eq_true.1 hf _ (List.getElem_mem hj3));rw [m3, Nat.zero_add, Array.getElem?_eq_getElem hj, Option.some.injEq] at n1;simp [n1, this]
 subst this;exact ⟨e, fz, k2⟩
end Go.Den
namespace Go.Proofs.YtlejimjgagfalaaGreatDoor
open Go Go.Den Go.Sort
set_option maxRecDepth 100000
theorem zqj : B0 2 = some (laidBB 2 cs2) := rfl
theorem zqi : (Lib.pow10Tab.map fun z => Value.int .u64 z) = cs2 := by kernel_rfl
theorem zmL : Tryz.prog.globalNamed "internal/strconv.uint64pow10" = some 2 := by kernel_rfl
theorem itoa_c {H : AHeap} {n : Int} (hG : Glo B0 H) (h0 : -9223372036854775808 ≤ n) (h1 : n ≤ 9223372036854775807) : Ret Tryz.prog 215 [I n] H (.string (tx (Lib.itoa n))) H := by
 refine ⟨enters_of Tryz.func215 rfl rfl, fun Γ w args' hr hg ha => ?_⟩
 cases ha with
 | cons hv hn =>
  cases hn;cases hv;obtain ⟨e, fz, hh⟩ := zmZ hG hr hg zqj (by omega) (by rfl)
  have htab : Lib.TabIs Tryz.prog w "internal/strconv.uint64pow10" .u64 Lib.pow10Tab := by
   unfold Lib.TabIs World.var?;rw [zmL, zqi];simp only [Option.bind_some, hh]
  refine callsIn_wide.2 ((Tryz.strconv_Itoa n h0 h1 w htab).mono ?_)
  rintro e2 w' ⟨rfl, k, os, rfl⟩
  obtain ⟨r1, a1⟩ := zqb hr k;obtain ⟨r2, a2⟩ := zk6 r1 os;exact ⟨_, _, _, Γ, rfl, ⟨rfl, rfl⟩, r2, a1.trans a2, .string _⟩
theorem len64_c {H : AHeap} {x : Int} (h0 : 0 ≤ x) (h1 : x ≤ 18446744073709551615) : Ret Tryz.prog 164 [.int .u64 x] H (I (Lib.bitLen x.toNat : Nat)) H := by
 refine ⟨enters_of Tryz.func164 rfl rfl, fun Γ w args' hr hg ha => ?_⟩
 cases ha with
 | cons hv hn =>
  cases hn;cases hv;refine callsIn_wide.2 ((Tryz.bits_Len64 x w h0 h1).mono ?_)
  rintro e2 w' ⟨rfl, rfl⟩
  exact ⟨_, _, _, Γ, rfl, ⟨rfl, rfl⟩, hr, .refl _ _ _, .int _ _⟩
end Go.Proofs.YtlejimjgagfalaaGreatDoor
noncomputable section
namespace Go.Den
theorem zhU {P : Program} {l : EL} {h : AHeap} {t t' : TypeId} {x y : Operand} {p : Option Addr} {n c : Nat} (hx : ev l x = some (.slice p n c)) (hy : ev l y = some (.slice none 0 0)) (ht : (selOf P t).isSome = true) : Does P l (.binOp .neq t x y t') h (.bool (!p.isNone)) h := by
 refine zrH hx hy trivial ?_
 cases hs : selOf P t with
 | none => rw [hs] at ht; cases ht
 | some z =>
  obtain ⟨ti, e, ei, h1, h2, h3, h4, h5⟩ := zbI (n := z.1) (a := z.2) hs;unfold eqA;simp only [h1, h2];cases p <;> rfl
end Go.Den
namespace Go.Proofs.YtlejimjgagfalaaGreatDoor
open Go Go.Den
set_option maxRecDepth 100000
theorem zoV {H : AHeap} {n d : Int} : Ret Tryz.prog 182 [.agg ⟨fF n d⟩] H (.bool (decide (d = 1))) H := by
 refine zae Tryz.func182 rfl rfl rfl fun hc => ?_
 refine zst ?_;refine zq17 ?_;apply zad; exact zcu rfl rfl rfl; exact rfl;refine zst ?_;refine zq25 ?_;refine zq1 ?_;refine zst ?_;exact zab hc rfl rfl ⟨by rw [Bool.beq_eq_decide_eq]; rfl, rfl⟩
theorem size_c {H : AHeap} {n : Int} (h1 : -9223372036854775808 < n) (h2 : n ≤ 9223372036854775807) : Ret Tryz.prog 221 [I n] H (.int .u64 (n.natAbs : Int)) H := by
 refine zae Tryz.func221 rfl rfl rfl fun hc => ?_
 refine zst ?_;refine zq0 ?_;apply zaf;refine zai rfl (fun h => ?_) (fun h => ?_)
 ·have h : n < 0 := by simpa using h
  have e : IntKind.u64.wrap (-n) = (n.natAbs : Int) := by rw [wrap_u64 (by omega)]; omega
  refine zst ?_;apply zad; exact zrI rfl (by omega); exact rfl;apply zad; exact zd8 rfl rfl rfl; exact rfl;refine zst ?_;rw [e];exact zab hc rfl rfl ⟨rfl, rfl⟩
 ·have h : ¬ n < 0 := by simpa using h
  have e : IntKind.u64.wrap n = (n.natAbs : Int) := by rw [wrap_u64 (by omega)]; omega
  refine zst ?_;apply zad; exact zd8 rfl rfl rfl; exact rfl;refine zst ?_;rw [e];exact zab hc rfl rfl ⟨rfl, rfl⟩
theorem zqk {H : AHeap} : Ret Tryz.prog 184 [.agg ⟨nI 0⟩] H (.tuple ⟨[.bool false, .slice none 0 0]⟩) H := by
 refine zae Tryz.func184 rfl rfl rfl fun hc => ?_
 refine zst ?_;refine zq17 ?_;apply zad; exact zhU rfl rfl rfl; exact rfl;refine zst ?_;refine zah rfl rfl ?_;refine zst ?_;refine zq17 ?_;refine zq0 ?_;refine zst ?_;refine zam rfl rfl ?_;refine zst ?_;exact zab hc rfl rfl ⟨rfl, rfl⟩
theorem parts_c {H : AHeap} {n : Int} (h1 : -9223372036854775808 < n) (h2 : n ≤ 9223372036854775807) (h0 : n ≠ 0) :
  Ret Tryz.prog 184 [.agg ⟨nI n⟩] H (.tuple ⟨[.bool (decide (n < 0)), .slice (some ⟨H.fresh, 0, none⟩) 1 1]⟩) (H.add (.cells [.int .u64 (n.natAbs : Int)] 1 false false)) := by
 refine zae Tryz.func184 rfl rfl rfl fun hc => ?_
 refine zst ?_;refine zq17 ?_;apply zad; exact zhU rfl rfl rfl; exact rfl;refine zst ?_;refine zah rfl rfl ?_;refine zst ?_;refine zq17 ?_;refine zq0 ?_;refine zst ?_;refine zah rfl (by simpa using h0) ?_;refine zst ?_;apply zax (by assumption); decide +kernel;refine zq12 ?_;refine zq13 ?_;refine zq8 ?_;refine zq12 ?_;refine zq13 ?_;apply zaC (ht := rfl); exact size_c (by assumption) (by assumption); exact rfl;apply zcf (hfree := rfl); exact zaM rfl rfl rfl rfl rfl rfl rfl; exact rfl;(iterate 2 (refine zq14 ?_));apply zaz;apply zaV;exact zci (vs := [.bool (decide (n < 0)), .slice (some ⟨nb H 1, 0, none⟩) 1 1]) (k := 1) (cs := [.int .u64 (n.natAbs : Int)]) hc rfl rfl rfl (by simp [packA, renV, renL, zdE]) ⟨rfl, rfl⟩
def bitsN (n : Int) : Nat := if n = 0 then 0 else Lib.bitLen n.natAbs
theorem zlR {n : Int} (h1 : -9223372036854775808 < n) (h2 : n ≤ 9223372036854775807) : bitsN n ≤ 64 := by
 unfold bitsN;split
 ·omega
 ·exact Lib.bitLen_le _ 64 (Nat.le_refl _) (by omega)
theorem bits_c {H : AHeap} {n : Int} (h1 : -9223372036854775808 < n) (h2 : n ≤ 9223372036854775807) : Ret Tryz.prog 213 [.agg ⟨nI n⟩] H (I (bitsN n)) H := by
 refine zae Tryz.func213 rfl rfl rfl fun hc => ?_
 by_cases h0 : n = 0
 ·subst h0;refine zst ?_;refine zq17 ?_;apply zac (ht := rfl); exact zqk; exact rfl;refine zst ?_;refine zq0 ?_;apply zaf;refine zam rfl rfl ?_;refine zst ?_;exact zab hc rfl rfl ⟨rfl, rfl⟩
 ·have cp := fun L => parts_c (H := ext H H.fresh L) h1 h2 h0
  simp only [zal, za2] at cp;have e : bitsN n = Lib.bitLen ((n.natAbs : Int)).toNat := by unfold bitsN; rw [if_neg h0]; simp
  have u1 : 0 ≤ (n.natAbs : Int) := by omega
  have u2 : (n.natAbs : Int) ≤ 18446744073709551615 := by omega
  refine zst ?_;refine zq17 ?_;apply zac (ht := rfl); exact cp _; exact rfl;refine zst ?_;refine zq0 ?_;apply zaf;refine zah rfl rfl ?_;refine zst ?_;apply zad; exact zgi rfl rfl (by omega) (by omega); exact rfl;refine zq0 ?_;refine zst ?_;apply zad; exact zgi rfl rfl (by omega) (by omega); exact rfl;apply zad; exact zaR rfl rfl rfl (by exact rfl); exact rfl;refine zq17 ?_;apply zac (ht := rfl); exact len64_c u1 u2; exact rfl;refine zq0 ?_;refine zst ?_;have e2 : IntKind.i64.wrap (64 * ((1 - 1 : Nat) : Int)) = 0 := by decide
  have e3 := zlR h1 h2;refine zab hc rfl rfl ⟨?_, rfl⟩;rw [e2, Int.zero_add, ← e];show wrapI _ _ = _;rw [wrapI, wrap_i64 (by omega)]
theorem zrx {H : AHeap} {n : Int} (h1 : -9223372036854775808 < n) (h2 : n ≤ 9223372036854775807) : Ret Tryz.prog 181 [.agg ⟨nI n⟩] H (.bool false) H := by
 refine zae Tryz.func181 rfl rfl rfl fun hc => ?_
 have e : decide ((bitsN n : Int) > 1800) = false := decide_eq_false (by have := zlR h1 h2; omega);refine zst ?_;refine zq17 ?_;apply zac (ht := rfl); exact bits_c (by assumption) (by assumption); exact rfl;refine zq0 ?_;refine zs1 ?_;rw [e];refine zst ?_;exact zab hc rfl rfl ⟨rfl, rfl⟩
theorem large_c {H : AHeap} {n d : Int} (h1 : -9223372036854775808 < n) (h2 : n ≤ 9223372036854775807) (h3 : -9223372036854775808 < d) (h4 : d ≤ 9223372036854775807) : Ret Tryz.prog 132 [.agg ⟨fF n d⟩] H (.bool false) H := by
 refine zae Tryz.func132 rfl rfl rfl fun hc => ?_
 refine zst ?_;refine zq17 ?_;apply zac (ht := rfl); exact zrx (by assumption) (by assumption); exact rfl;refine zst ?_;refine zq25 ?_;apply zaW (hg := rfl) (hl := rfl) (ht := rfl); exact zrx (by assumption) (by assumption); exact rfl;refine zst ?_;exact zab hc rfl rfl ⟨rfl, rfl⟩
theorem zkW {H : AHeap} {n : Int} (hG : Glo B0 H) (h0 : -9223372036854775808 ≤ n) (h1 : n ≤ 9223372036854775807) : Ret Tryz.prog 183 [.agg ⟨nI n⟩] H (.string (tx (Lib.itoa n))) H := by
 refine zae Tryz.func183 rfl rfl rfl fun hc => ?_
 have ci := fun lo L => itoa_c (H := ext H lo L) (Glo.ext hG) h0 h1
 refine zst ?_;refine zq17 ?_;apply zad; exact zcu rfl rfl rfl; exact rfl;apply zaf;refine zam rfl rfl ?_;refine zst ?_;refine zq17 ?_;apply zac (ht := rfl); exact ci _ _; exact rfl;refine zst ?_;exact zab hc rfl rfl ⟨rfl, rfl⟩
theorem zmU {n d : Int} (h0 : d ≠ 0) : 0 < mkG n d := by
 unfold mkG;have := Nat.gcd_pos_of_pos_right n.natAbs (show 0 < d.natAbs by omega);omega
theorem mkD_pos {n d : Int} (h0 : d ≠ 0) : 1 ≤ mkD n d := by
 have hg := zmU (n := n) h0
 have : mkG n d ≤ (d.natAbs : Int) := by
  unfold mkG;have := Nat.gcd_le_right n.natAbs (show 0 < d.natAbs by omega);omega
 unfold mkD;exact (Int.le_ediv_iff_mul_le hg).2 (by omega)
theorem mkD_le {n d : Int} : mkD n d ≤ (d.natAbs : Int) := by
 unfold mkD mkG;exact Int.ediv_le_self _ (by omega)
theorem mkN_abs {n d : Int} : (mkN n d).natAbs ≤ n.natAbs := by
 have e : (sgnN n d).natAbs = n.natAbs := by unfold sgnN; split <;> omega
 unfold mkN;rw [← e];exact Int.natAbs_ediv_le_natAbs _ _
theorem zlp {n : Int} (h1 : -9223372036854775808 < n) (h2 : n ≤ 9223372036854775807) : (Lib.itoa n).length ≤ 20 := by
 unfold Lib.itoa;split
 ·have := za8 n.natAbs 19 (Nat.lt_of_le_of_lt (show n.natAbs ≤ 9223372036854775807 by omega) (by decide)) (by omega);simp only [List.length_cons]; omega
 ·have := za8 n.toNat 19 (Nat.lt_of_le_of_lt (show n.toNat ≤ 9223372036854775807 by omega) (by decide)) (by omega);omega
def ofS (n d : Int) : List UInt8 := ratS (mkN n d) (mkD n d).toNat
theorem text_c {H : AHeap} {n d : Int} (hG : Glo B0 H) (h1 : -9223372036854775808 < n) (h2 : n ≤ 9223372036854775807) (h3 : 1 ≤ d) (h4 : d ≤ 9223372036854775807) :
  Ret Tryz.prog 133 [.agg ⟨fF n d⟩] H (.string (tx (ratS n d.toNat))) H := by
 refine zae Tryz.func133 rfl rfl rfl fun hc => ?_
 have cn := fun lo L => zkW (H := ext H lo L) (n := n) (Glo.ext hG) (by omega) h2
 have cd := fun lo L => zkW (H := ext H lo L) (n := d) (Glo.ext hG) (by omega) h4
 refine zst ?_;refine zq17 ?_;apply zac (ht := rfl); exact zoV; exact rfl;apply zaf;refine zai rfl (fun u => ?_) (fun u => ?_)
 ·have u : d = 1 := of_decide_eq_true u;subst u;refine zst ?_;refine zq17 ?_;apply zac (ht := rfl); exact cn _ _; exact rfl;refine zst ?_;exact zab hc rfl rfl ⟨by rw [show (1 : Int).toNat = 1 from rfl, zqe]; rfl, rfl⟩
 ·have u : d ≠ 1 := of_decide_eq_false u;refine zst ?_;apply zax (by assumption); decide +kernel;refine zq12 ?_;refine zq13 ?_;apply zaC (ht := rfl); exact cn _ _; exact rfl
  skip;have l1 := zlp h1 h2;have l2 := zlp (n := d) (by omega) h4;apply zau (hfree := rfl); intro _; exact zeY (a := Lib.itoa n) (b := [47]) rfl rfl (by simp only [List.length_singleton]; omega); exact rfl;refine zq12 ?_;refine zq13 ?_;apply zaC (ht := rfl); exact cd _ _; exact rfl
  skip;apply zau (hfree := rfl); intro _; exact zeY (a := Lib.itoa n ++ [47]) (b := Lib.itoa d) rfl rfl (by simp only [List.length_append, List.length_singleton]; omega); exact rfl;refine zq14 ?_;apply zaz;apply zaV;refine zab hc rfl rfl ⟨?_, rfl⟩;rw [zoe n (show d.toNat ≠ 1 by omega), show (d.toNat : Int) = d by omega];simp [packA]
theorem zp7 {H : AHeap} {n d : Int} (hG : Glo B0 H) (h1 : -9223372036854775808 < n) (h2 : n ≤ 9223372036854775807) (h3 : 1 ≤ d) (h4 : d ≤ 9223372036854775807) :
  Ret Tryz.prog 96 [.agg ⟨fF n d⟩] H (.tuple ⟨[.string (tx (ratS n d.toNat)), I 0]⟩) H := by
 refine zae Tryz.func96 rfl rfl rfl fun hc => ?_
 have ct := fun lo L => text_c (H := ext H lo L) (n := n) (d := d) (Glo.ext hG) h1 h2 h3 h4
 have cl := fun lo L => large_c (H := ext H lo L) (n := n) (d := d) h1 h2 (by omega) h4
 refine zst ?_;refine zq17 ?_;apply zac (ht := rfl); exact cl _ _; exact rfl;apply zaf;refine zah rfl rfl ?_;refine zst ?_;refine zq17 ?_;apply zac (ht := rfl); exact ct _ _; exact rfl;refine zst ?_;exact zab hc rfl rfl ⟨rfl, rfl⟩
theorem of_c {H : AHeap} {n d : Int} (hG : Glo B0 H) (h1 : -9223372036854775808 < n) (h2 : n ≤ 9223372036854775807) (h3 : -9223372036854775808 < d) (h4 : d ≤ 9223372036854775807) (h0 : d ≠ 0) :
  Ret Tryz.prog 56 [I n, I d] H (.tuple ⟨[.string (tx (ofS n d)), I 0]⟩) H := by
 refine zae Tryz.func56 rfl rfl rfl fun hc => ?_
 have ed := mkD_le (n := n) (d := d);have en := mkN_abs (n := n) (d := d);have ep := mkD_pos (n := n) h0;have cr := fun lo L => zp7 (H := ext H lo L) (n := mkN n d) (d := mkD n d) (Glo.ext hG) (by omega) (by omega) ep (by omega)
 have cm := fun lo L => make_c (H := ext H lo L) h1 h2 h3 h4 h0
 refine zst ?_;refine zq0 ?_;apply zaf;refine zah rfl (decide_eq_false h0) ?_;refine zst ?_;apply zac (ht := rfl); exact zoC; exact rfl;refine zst ?_;apply zac (ht := rfl); exact zoC; exact rfl;apply zac (ht := rfl); exact cm _ _; exact rfl
 skip;apply zac (ht := rfl); exact cr _ _; exact rfl;refine zst ?_;exact zab hc rfl rfl ⟨rfl, rfl⟩
abbrev t1 (s : List UInt8) : List Value := [.string (tx s)]
theorem zbF : ∀ (l : List Int) (i : Nat) (v : Int), i < l.length → valW (l.set i v) = valW l + (v - l[i]?.getD 0) * 1000000000 ^ i
 | a :: r, 0, v, _ => by simp [valW]; omega
 | a :: r, i + 1, v, h => by
  have ih := zbF r i v (by simpa using h);simp only [List.set_cons_succ, valW, List.getElem?_cons_succ];rw [ih, Int.pow_succ];have e : (v - r[i]?.getD 0) * (1000000000 ^ i * 1000000000) = 1000000000 * ((v - r[i]?.getD 0) * 1000000000 ^ i) := by rw [← Int.mul_assoc, Int.mul_comm]
  omega
theorem ziW : ∀ (l : List Int) (v : Int), valW (l ++ [v]) = valW l + v * 1000000000 ^ l.length
 | [], v => by simp [valW]
 | a :: r, v => by
  have ih := ziW r v;simp only [List.cons_append, valW, List.length_cons];rw [ih, Int.pow_succ];have e : v * (1000000000 ^ r.length * 1000000000) = 1000000000 * (v * 1000000000 ^ r.length) := by rw [← Int.mul_assoc, Int.mul_comm]
  omega
theorem znF (n : Nat) : valW (List.replicate n 0) = 0 := by
 induction n with
 | zero => rfl
 | succ n ih => simp [List.replicate_succ, valW, ih]
end Go.Proofs.YtlejimjgagfalaaGreatDoor
noncomputable section
namespace Go.Den
theorem zdV {P : Program} {l : EL} {h : AHeap} {t t' : TypeId} {x y : Operand} {a b : Nat} (hx : ev l x = some (.int .i64 (a : Int))) (hy : ev l y = some (.int .i64 (b : Int))) (hlt : a + b < 9223372036854775808) : Does P l (.binOp .add t x y t') h (.int .i64 ((a + b : Nat) : Int)) h := by
 have := zlI (P := P) (h := h) (t := t) (t' := t') hx hy (by omega)
 rwa [show (a : Int) + (b : Int) = ((a + b : Nat) : Int) by omega] at this
end Go.Den
namespace Go.Proofs.YtlejimjgagfalaaGreatDoor
open Go Go.Den
set_option maxRecDepth 100000
end Go.Proofs.YtlejimjgagfalaaGreatDoor
