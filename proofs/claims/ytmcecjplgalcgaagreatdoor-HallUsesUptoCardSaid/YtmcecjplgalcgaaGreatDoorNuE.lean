/- Small numbers of the package num: Gcd. -/
import Derived.Test.YtmcecjplgalcgaaGreatDoorNuC
import Derived.Test.YtmcecjplgalcgaaGreatDoorPrL
import Derived.Test.YtmcecjplgalcgaaGreatDoorSxZ
noncomputable section
namespace Go.Proofs.YtmcecjplgalcgaaGreatDoor
open Go Go.Den
set_option maxRecDepth 100000
abbrev nB (s : Int) : ABlk := .cells (nI s) 0 false false
set_option maxHeartbeats 4000000 in
theorem gcd_c {H : AHeap} {a b : Int} (ha1 : -9223372036854775808 < a) (ha2 : a ≤ 9223372036854775807) (hb1 : -9223372036854775808 < b) (hb2 : b ≤ 9223372036854775807) :
  Ret Tryz.prog 145 [.agg ⟨nI a⟩, .agg ⟨nI b⟩] H (.agg ⟨nI ((Nat.gcd a.natAbs b.natAbs : Nat) : Int)⟩) H := by
 refine fn_start Tryz.func145 rfl rfl rfl fun hc => ?_
 apply ct_seq
 apply ct_region
 iterate 2 (apply seq_newP; exact do_box rfl rfl rfl; exact rfl)
 apply seq_newP; exact do_alloc rfl rfl; exact rfl
 apply seq_nil
 apply ct_seq
 apply ct_draw (by assumption); decide +kernel
 apply sd_look (hfree := rfl); exact do_load rfl (by exact ext_get_new rfl) rfl (by exact rfl); exact rfl
 apply sd_call (ht := rfl); exact abs_c (by assumption) (by assumption); exact rfl
 apply sd_look (hfree := rfl); exact do_load rfl (by exact ext_get_new rfl) rfl (by exact rfl); exact rfl
 apply sd_call (ht := rfl); exact abs_c (by assumption) (by assumption); exact rfl
 refine sd_putQ (k := 0) rfl (by decide +kernel) hc (by simp) (do_store rfl rfl (ext_get_new rfl) rfl rfl (nb_own _)) (fun L1 l1 o1 k1 => ?_)
 refine sd_putQ (k := 1) rfl (by decide +kernel) hc (by rw [l1]; simp) (do_store rfl rfl (ext_get_new ((o1 1 (by decide)).trans rfl)) rfl rfl (nb_own _)) (fun L2 l2 o2 k2 => ?_)
 have k0 : L2[0]? = some (some (nB (a.natAbs : Int))) := (o2 0 (by decide)).trans k1
 have k3 : L2[2]? = some (some (nB 0)) := (o2 2 (by decide)).trans ((o1 2 (by decide)).trans rfl)
 have hA : a.natAbs ≤ 9223372036854775807 := by omega
 have hB : b.natAbs ≤ 9223372036854775807 := by omega
 apply sd_nil
 apply ct_seq
 apply ct_block
 apply ct_loop
 simp only [List.map_nil, List.append_nil]
 refine lt_meas (α := Nat × Nat × List (Option ABlk)) (fun _ => [(2, .pointer (some ⟨nb H 0, 0, none⟩)), (3, .pointer (some ⟨nb H 1, 0, none⟩)), (4, .pointer (some ⟨nb H 2, 0, none⟩))]) (fun s => ext H H.fresh s.2.2)
  (fun s => s.2.2[0]? = some (some (nB (s.1 : Int))) ∧ s.2.2[1]? = some (some (nB (s.2.1 : Int))) ∧ s.2.2[2]? = some (some (nB 0)) ∧ s.1 ≤ 9223372036854775807 ∧ s.2.1 ≤ 9223372036854775807 ∧ Nat.gcd s.1 s.2.1 = Nat.gcd a.natAbs b.natAbs) (fun s => s.2.1) ?_ (a.natAbs, b.natAbs, L2) ⟨k0, k2, k3, hA, hB, rfl⟩ (by repeat (first | exact sub_nil | apply sub_cons rfl)) (.refl _)
 rintro ⟨x, y, L⟩ ⟨x0, x1, x2, hx, hy, hg⟩ ih
 simp only at x0 x1 x2 hx hy hg
 dsimp only
 have hl2 : 2 < L.length := (List.getElem?_eq_some_iff.1 x2).1
 iterate 2 (apply ct_seq)
 apply ct_region
 apply seq_plain; exact do_load rfl (by exact ext_get_new (by assumption)) rfl (by exact rfl); exact rfl
 apply seq_call (ht := rfl); exact sign_c; exact rfl
 apply seq_plain; exact do_binInt rfl rfl rfl trivial; exact rfl
 apply seq_nil
 refine ct_cond rfl (fun h => ?_) (fun h => ?_)
 ·have h : (0 : Int) < (y : Int) := by
   rcases Nat.eq_zero_or_pos y with e | e
   ·subst e; exact absurd h (by decide)
   ·omega
  have hy2 : (y : Int) ≤ 9223372036854775807 := by omega
  have hx1 : -9223372036854775808 < (x : Int) := by omega
  have hx2 : (x : Int) ≤ 9223372036854775807 := by omega
  apply ct_skip
  apply ct_block
  apply ct_seq
  apply ct_region
  iterate 2 (apply seq_plain; exact do_load rfl (by exact ext_get_new (by assumption)) rfl (by exact rfl); exact rfl)
  apply seq_call (ht := rfl); exact divMod_c (by assumption) (by assumption) (by assumption) (by assumption); exact rfl
  apply seq_plain; exact do_move rfl; exact rfl
  iterate 2 (apply seq_plain; exact do_extract rfl rfl; exact rfl)
  iterate 2 (apply seq_newP; exact do_alloc rfl rfl; exact rfl)
  refine seq_putQ (k := L.length) hc (by simp) (do_store rfl rfl (ext_get_new (getApp List.getElem?_concat_length)) rfl rfl (nb_own _)) (fun M1 m1 p1 q1 => ?_)
  have m1 : M1.length = L.length + 2 := by rw [m1]; simp
  have eL : (L ++ [some (nB 0)]).length = L.length + 1 := by simp
  have p6 : M1[(L ++ [some (nB 0)]).length]? = some (some (nB 0)) := (p1 _ (by rw [eL]; omega)).trans List.getElem?_concat_length
  refine seq_putQC hc (by rw [m1]; show (L ++ [some (nB 0)]).length < _; omega) (do_store rfl rfl (ext_get_new p6) rfl rfl (nb_own _)) (fun M2 m2 p2 q2 => ?_)
  have g0 : M2[0]? = some (some (nB (x : Int))) := (p2 0 (by show _ ≠ (L ++ [some (nB 0)]).length; omega)).trans ((p1 0 (by omega)).trans (getApp (getApp x0)))
  have g1 : M2[1]? = some (some (nB (y : Int))) := (p2 1 (by show _ ≠ (L ++ [some (nB 0)]).length; omega)).trans ((p1 1 (by omega)).trans (getApp (getApp x1)))
  have g2 : M2[2]? = some (some (nB 0)) := (p2 2 (by show _ ≠ (L ++ [some (nB 0)]).length; omega)).trans ((p1 2 (by omega)).trans (getApp (getApp x2)))
  have h1 : (M2.set 0 none)[1]? = some (some (nB (y : Int))) := by rw [List.getElem?_set_ne (by omega)]; exact g1
  have h6 : (M2.set 0 none)[(L ++ [some (nB 0)]).length]? = some (some (nB ((x : Int) % (y : Int)))) := by rw [List.getElem?_set_ne (by show _ ≠ (L ++ [some (nB 0)]).length; omega)]; exact q2
  skip
  refine ct_drawF (k := 0) hc (by omega) (by decide +kernel) ?_
  iterate 2 (apply sf_off (hc := by assumption) (hfree := rfl) (hLx := rfl) (hnl := rfl); exact do_load rfl (by exact ext_get_new (by assumption)) rfl (by exact rfl); exact rfl)
  refine sf_turn0 hc rfl (by decide +kernel) (by decide +kernel) rfl g0 (do_store rfl rfl (ext_get_new g0) rfl rfl (nb_own _)) ?_
  refine sf_ser0 (k' := 1) hc rfl (by decide +kernel) (by rw [List.length_set]; omega) (do_store rfl rfl (ext_get_new (by rw [List.getElem?_set_ne (by omega)]; exact g1)) rfl rfl (nb_own _)) ?_
  apply sd_nil
  simp only [List.map_nil, List.append_nil]
  have e : (x : Int) % (y : Int) = ((x % y : Nat) : Int) := by omega
  have hlt := Nat.mod_lt x (show 0 < y by omega)
  rw [e]
  have q0 : ((M2.set 0 (some (nB (y : Int)))).set 1 (some (nB ((x % y : Nat) : Int))))[0]? = some (some (nB (y : Int))) := by rw [List.getElem?_set_ne (by omega), List.getElem?_set_self (by omega)]
  have q1' : ((M2.set 0 (some (nB (y : Int)))).set 1 (some (nB ((x % y : Nat) : Int))))[1]? = some (some (nB ((x % y : Nat) : Int))) := List.getElem?_set_self (by rw [List.length_set]; omega)
  have q2' : ((M2.set 0 (some (nB (y : Int)))).set 1 (some (nB ((x % y : Nat) : Int))))[2]? = some (some (nB 0)) := by rw [List.getElem?_set_ne (by omega), List.getElem?_set_ne (by omega)]; exact g2
  exact lt_to (l' := [(2, .pointer (some ⟨nb H 0, 0, none⟩)), (3, .pointer (some ⟨nb H 1, 0, none⟩)), (4, .pointer (some ⟨nb H 2, 0, none⟩))]) (by repeat (first | exact sub_nil | apply sub_cons rfl)) (.refl _) (ih (y, x % y, _) hlt ⟨q0, q1', q2', hy, by show x % y ≤ _; omega, by rw [← hg]; show Nat.gcd y (x % y) = Nat.gcd x y; rw [Nat.gcd_comm y, ← Nat.gcd_rec, Nat.gcd_comm]⟩)
 ·have h : y = 0 := by
   rcases Nat.eq_zero_or_pos y with e | e
   ·exact e
   ·exfalso
    have e1 : max (-1) (min 1 (y : Int)) = 1 := by omega
    rw [e1] at h; simp at h
  subst h
  rw [Nat.gcd_zero_right] at hg
  apply ct_exit
  apply exit_eq; exact rfl
  apply ct_seq
  apply ct_region
  apply seq_plain; exact do_load rfl (by exact ext_get_new (by assumption)) rfl (by exact rfl); exact rfl
  apply seq_putC (hc := by assumption); rotate_left; exact do_store rfl rfl (by exact ext_get_new (by assumption)) rfl rfl (nb_own _); rotate_left; exact (by assumption)
  apply ct_ret
  rw [← hg]
  exact fin_cell hc rfl rfl (ext_get_new (List.getElem?_set_self hl2)) rfl rfl rfl ⟨rfl, rfl⟩
end Go.Proofs.YtmcecjplgalcgaaGreatDoor
/- Small numbers of the package num: quotients in lowest terms. -/
noncomputable section
namespace Go.Proofs.YtmcecjplgalcgaaGreatDoor
open Go Go.Den
set_option maxRecDepth 100000
abbrev fF (n d : Int) : List Value := [I n, .slice none 0 0, I d, .slice none 0 0]
def sgnN (n d : Int) : Int := if d < 0 then -n else n
def mkG (n d : Int) : Int := ((Nat.gcd n.natAbs d.natAbs : Nat) : Int)
def mkN (n d : Int) : Int := sgnN n d / mkG n d
def mkD (n d : Int) : Int := (d.natAbs : Int) / mkG n d
set_option maxHeartbeats 4000000 in
theorem make_c {H : AHeap} {n d : Int} (h1 : -9223372036854775808 < n) (h2 : n ≤ 9223372036854775807) (h3 : -9223372036854775808 < d) (h4 : d ≤ 9223372036854775807) (h0 : d ≠ 0) :
  Ret Tryz.prog 93 [.agg ⟨nI n⟩, .agg ⟨nI d⟩] H (.agg ⟨fF (mkN n d) (mkD n d)⟩) H := by
 refine fn_start Tryz.func93 rfl rfl rfl fun hc => ?_
 apply ct_seq
 apply ct_region
 iterate 2 (apply seq_newP; exact do_box rfl rfl rfl; exact rfl)
 apply seq_newP; exact do_alloc rfl rfl; exact rfl
 apply seq_nil
 iterate 2 (apply ct_seq)
 apply ct_region
 apply seq_plain; exact do_load rfl (by exact ext_get_new rfl) rfl (by exact rfl); exact rfl
 apply seq_call (ht := rfl); exact sign_c; exact rfl
 apply seq_plain; exact do_binInt rfl rfl rfl trivial; exact rfl
 apply seq_nil
 refine ct_JX (ds := []) (α := List (Option ABlk)) (fun _ => [(2, .pointer (some ⟨nb H 0, 0, none⟩)), (3, .pointer (some ⟨nb H 1, 0, none⟩)), (4, .pointer (some ⟨nb H 2, 0, none⟩))]) (fun L => ext H H.fresh L) (fun L => L[0]? = some (some (nB (sgnN n d))) ∧ L[1]? = some (some (nB (d.natAbs : Int))) ∧ L[2]? = some (some (.cells (fF 0 0) 0 false false))) ?_ ?_
 ·refine ct_cond rfl (fun u => ?_) (fun u => ?_)
  ·have hd : d < 0 := by
    have u : max (-1) (min 1 d) < 0 := by simpa using u
    omega
   apply ct_draw (by assumption); decide +kernel
   apply sd_look (hfree := rfl); exact do_load rfl (by exact ext_get_new rfl) rfl (by exact rfl); exact rfl
   apply sd_call (ht := rfl); exact neg_c (by assumption) (by assumption); exact rfl
   apply sd_look (hfree := rfl); exact do_load rfl (by exact ext_get_new rfl) rfl (by exact rfl); exact rfl
   apply sd_call (ht := rfl); exact neg_c (by assumption) (by assumption); exact rfl
   refine sd_putQ (k := 0) rfl (by decide +kernel) hc (by simp) (do_store rfl rfl (ext_get_new rfl) rfl rfl (nb_own _)) (fun L1 l1 o1 k1 => ?_)
   refine sd_putQ (k := 1) rfl (by decide +kernel) hc (by rw [l1]; simp) (do_store rfl rfl (ext_get_new ((o1 1 (by decide)).trans rfl)) rfl rfl (nb_own _)) (fun L2 l2 o2 k2 => ?_)
   apply sd_nil
   simp only [List.map_nil, List.append_nil]
   have e1 : sgnN n d = -n := if_pos hd
   have e2 : (d.natAbs : Int) = -d := by omega
   exact jx_of L2 ⟨by rw [e1]; exact (o2 0 (by decide)).trans k1, by rw [e2]; exact k2, (o2 2 (by decide)).trans ((o1 2 (by decide)).trans rfl)⟩ (by repeat (first | exact sub_nil | apply sub_cons rfl)) rfl
  ·have hd : ¬ d < 0 := by
    have u : ¬ max (-1) (min 1 d) < 0 := by simpa using u
    omega
   have e1 : sgnN n d = n := if_neg hd
   have e2 : (d.natAbs : Int) = d := by omega
   apply ct_skip
   exact jx_of _ ⟨by rw [e1]; rfl, by rw [e2]; rfl, rfl⟩ (by repeat (first | exact sub_nil | apply sub_cons rfl)) rfl
 ·rintro L ⟨x0, x1, x2⟩
  have hs1 : -9223372036854775808 < sgnN n d := by unfold sgnN; split <;> omega
  have hs2 : sgnN n d ≤ 9223372036854775807 := by unfold sgnN; split <;> omega
  have hd0 : 0 < (d.natAbs : Int) := by omega
  have hd1 : -9223372036854775808 < (d.natAbs : Int) := by omega
  have hd2 : (d.natAbs : Int) ≤ 9223372036854775807 := by omega
  have hgN : (sgnN n d).natAbs = n.natAbs := by unfold sgnN; split <;> omega
  have hgD : ((d.natAbs : Int)).natAbs = d.natAbs := by omega
  have hl2 : 2 < L.length := (List.getElem?_eq_some_iff.1 x2).1
  iterate 2 (apply ct_seq)
  apply ct_region
  apply seq_plain; exact do_fieldAddr rfl rfl; exact rfl
  apply seq_plain; exact do_load rfl (by exact ext_get_new (by assumption)) rfl (by exact rfl); exact rfl
  apply seq_plain; exact do_eqlNilS rfl rfl rfl; exact rfl
  apply seq_plain; exact do_move rfl; exact rfl
  apply seq_guard (hd := rfl) (hl := rfl); exact do_fieldAddr rfl rfl; exact rfl
  apply seq_guard (hd := rfl) (hl := rfl); exact do_load rfl (by exact ext_get_new (by assumption)) rfl (by exact rfl); exact rfl
  apply seq_guard (hd := rfl) (hl := rfl); exact do_binInt rfl rfl rfl trivial; exact rfl
  apply seq_plain; exact do_pick_t rfl rfl; exact rfl
  apply seq_nil
  refine ct_cond rfl (fun u => ?_) (fun u => ?_)
  ·have u : (d.natAbs : Int) = 1 := by simpa using u
   have u1 : d.natAbs = 1 := by omega
   have e1 : mkN n d = sgnN n d := by unfold mkN mkG; rw [u1, Nat.gcd_one_right]; simp
   have e2 : mkD n d = (d.natAbs : Int) := by unfold mkD mkG; rw [u1, Nat.gcd_one_right]; simp
   apply ct_seq
   apply ct_region
   iterate 2 (apply seq_plain; exact do_load rfl (by exact ext_get_new (by assumption)) rfl (by exact rfl); exact rfl)
   apply seq_plain; exact do_build rfl rfl rfl rfl; exact rfl
   apply seq_putC (hc := by assumption); rotate_left; exact do_store rfl rfl (by exact ext_get_new (by assumption)) rfl rfl (nb_own _); rotate_left; exact (by assumption)
   apply ct_ret
   rw [e1, e2]
   exact fin_cell hc rfl rfl (ext_get_new (List.getElem?_set_self hl2)) rfl rfl rfl ⟨rfl, rfl⟩
  ·have hg : 0 < mkG n d := by
    unfold mkG
    have := Nat.gcd_pos_of_pos_right n.natAbs (show 0 < d.natAbs by omega)
    omega
   have hg2 : mkG n d ≤ 9223372036854775807 := by
    unfold mkG
    have := Nat.gcd_le_right n.natAbs (show 0 < d.natAbs by omega)
    omega
   apply ct_skip
   apply ct_seq
   apply ct_region
   iterate 2 (apply seq_plain; exact do_load rfl (by exact ext_get_new (by assumption)) rfl (by exact rfl); exact rfl)
   apply seq_call (ht := rfl); exact gcd_c (by assumption) (by assumption) (by assumption) (by assumption); exact rfl
   apply seq_newP; exact do_alloc rfl rfl; exact rfl
   apply seq_putC (hc := by assumption); rotate_left; exact do_store rfl rfl (by exact ext_get_new List.getElem?_concat_length) rfl rfl (nb_own _); rotate_left; exact (by simp)
   apply ct_seq
   refine ct_to (l' := [(2, .pointer (some ⟨nb H 0, 0, none⟩)), (3, .pointer (some ⟨nb H 1, 0, none⟩)), (4, .pointer (some ⟨nb H 2, 0, none⟩)), (5, .pointer (some ⟨nb H L.length, 0, none⟩))]) (h' := ext H H.fresh (L ++ [some (nB (mkG n d))])) (by repeat (first | exact sub_nil | apply sub_cons rfl)) (by rw [set_mid rfl, hgN, hgD]; exact .refl _) ?_
   have k5 : (L ++ [some (nB (mkG n d))])[L.length]? = some (some (nB (mkG n d))) := List.getElem?_concat_length
   apply ct_draw (by assumption); decide +kernel
   apply sd_look (hfree := rfl); exact do_load rfl (by exact ext_get_new (getApp (getApp (by assumption)))) rfl (by exact rfl); exact rfl
   apply sd_look (hfree := rfl); exact do_load rfl (by exact ext_get_new (getApp (by assumption))) rfl (by exact rfl); exact rfl
   apply sd_call (ht := rfl); exact quo_c (by assumption) (by assumption) (by assumption) (by assumption); exact rfl
   apply sd_look (hfree := rfl); exact do_load rfl (by exact ext_get_new (getApp (getApp (by assumption)))) rfl (by exact rfl); exact rfl
   apply sd_look (hfree := rfl); exact do_load rfl (by exact ext_get_new (getApp (by assumption))) rfl (by exact rfl); exact rfl
   apply sd_call (ht := rfl); exact quo_c (by assumption) (by assumption) (by assumption) (by assumption); exact rfl
   apply sd_plain (hfree := rfl); intro _; exact do_build rfl rfl rfl rfl; exact rfl
   refine sd_putQ (k := 2) rfl (by decide +kernel) hc (by simp; omega) (do_store rfl rfl (ext_get_new (getApp x2)) rfl rfl (nb_own _)) (fun L1 l1 o1 k1 => ?_)
   apply sd_nil
   simp only [List.map_nil, List.append_nil]
   apply ct_ret
   exact fin_cell hc rfl rfl (ext_get_new k1) rfl rfl rfl ⟨rfl, rfl⟩
end Go.Proofs.YtmcecjplgalcgaaGreatDoor
