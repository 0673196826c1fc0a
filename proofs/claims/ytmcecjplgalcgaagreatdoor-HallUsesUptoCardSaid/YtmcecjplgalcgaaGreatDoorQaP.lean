/- The reference's numbers: numerator and denominator. -/
import Derived.Test.YtmcecjplgalcgaaGreatDoorQaC
import Derived.Test.YtmcecjplgalcgaaGreatDoorAsC
import Derived.Test.YtmcecjplgalcgaaGreatDoorPrL
import Derived.Test.YtmcecjplgalcgaaGreatDoorHaB
import Derived.Test.YtmcecjplgalcgaaGreatDoorSrL
import Derived.Test.YtmcecjplgalcgaaGreatDoorSxK
import Derived.Test.YtmcecjplgalcgaaGreatDoorStC
import Derived.Test.YtmcecjplgalcgaaGreatDoorAwake
import Derived.Test.YtmcecjplgalcgaaGreatDoorQaO
import Derived.Test.YtmcecjplgalcgaaGreatDoorQaM
noncomputable section
namespace Go.Proofs.YtmcecjplgalcgaaGreatDoor
open Go Go.Den
set_option maxRecDepth 100000
def ratN (neg : Bool) (u : Nat) : List UInt8 := if neg = true then 45 :: Lib.decDigits u else Lib.decDigits u
def ratQ (neg : Bool) (u d : Nat) : List UInt8 := if d = 1 then ratN neg u else ratN neg u ++ 47 :: Lib.decDigits d
theorem ratS_Q (n : Int) (d : Nat) : ratS n d = ratQ (decide (n < 0)) n.natAbs d := by
 unfold ratS ratQ ratA ratN
 by_cases h : n < 0
 ·simp only [if_pos h, decide_eq_true h, if_true]
  split <;> rfl
 ·simp only [if_neg h, decide_eq_false h, Bool.false_eq_true, if_false]
theorem decDigits_zero (u : Nat) (h : 0 < (Lib.decDigits u).length) : ((Lib.decDigits u)[0]'h).toNat ≠ 45 ∧ ((Lib.decDigits u)[0]'h).toNat ≠ 47 := by
 have := List.all_eq_true.1 (decDigits_dig u) _ (List.getElem_mem h)
 have := isDig_iff.1 this
 omega
theorem ratN_num (neg : Bool) {u : Nat} (h : u < 1000000000000000000) : NumT (ratN neg u) neg u := by
 have hp := decDigits_pos u
 cases neg with
 | true => exact ⟨by simp [ratN], rfl, by simp [ratN], h⟩
 | false =>
  refine ⟨by simp [ratN]; omega, ?_, by simp [ratN], h⟩
  have := (decDigits_zero u (by omega)).1
  show (((Lib.decDigits u)[0].toNat : Int) == 45) = false
  simp; omega
theorem ratN_slash (neg : Bool) (u : Nat) : slashI (ratN neg u) = (ratN neg u).length := by
 cases neg with
 | true =>
  show slashI (45 :: Lib.decDigits u) = (45 :: Lib.decDigits u).length
  simp only [slashI, List.length_cons]
  rw [slashI_dig (decDigits_dig u)]; rfl
 | false => exact slashI_dig (decDigits_dig u)
theorem ratQ_slash (neg : Bool) (u d : Nat) : slashI (ratQ neg u d) = (ratN neg u).length := by
 unfold ratQ
 split
 ·exact ratN_slash neg u
 ·cases neg with
  | true =>
   show slashI (45 :: (Lib.decDigits u ++ 47 :: Lib.decDigits d)) = (45 :: Lib.decDigits u).length
   simp only [slashI, List.length_cons]
   rw [slashI_app (decDigits_dig u)]; rfl
  | false => exact slashI_app (decDigits_dig u)
theorem ratQ_one (neg : Bool) (u : Nat) : ratQ neg u 1 = ratN neg u := if_pos rfl
theorem ratQ_more (neg : Bool) (u : Nat) {d : Nat} (h : d ≠ 1) : ratQ neg u d = ratN neg u ++ 47 :: Lib.decDigits d := if_neg h
theorem ratN_len (neg : Bool) {u : Nat} (h : u < 1000000000000000000) : (ratN neg u).length ≤ 19 := (ratN_num neg h).len
theorem ren_new2 {H : AHeap} {j k n c n' c' : Nat} {neg neg' : Bool} (h : j ≠ k) : renV (renOf H [nb H j, nb H k]) 8 (packA [intQ neg (some ⟨nb H j, 0, none⟩) n c, intQ neg' (some ⟨nb H k, 0, none⟩) n' c']) = some (.tuple ⟨[intQ neg (some ⟨H.fresh, 0, none⟩) n c, intQ neg' (some ⟨H.fresh + 2, 0, none⟩) n' c']⟩) := by
 simp [packA, renV, renL, renOf_two1 h]
abbrev wB (u : Nat) : ABlk := .cells ((wL u).map I) 1 true false
set_option maxHeartbeats 4000000 in
theorem partsQ_c {H : AHeap} {neg : Bool} {u d : Nat} (hu : u < 1000000000000000000) (hd : d < 1000000000000000000) (hd1 : 1 ≤ d) :
  Ret Tryz.prog 52 [.string (tx (ratQ neg u d))] H (.tuple ⟨[intQ (neg && decide (0 < u)) (some ⟨H.fresh, 0, none⟩) (wN u) (wL u).length, intQ false (some ⟨H.fresh + 2, 0, none⟩) (wN d) (wL d).length]⟩) ((H.add (wB u)).add (wB d)) := by
 refine fn_start Tryz.func52 rfl rfl rfl fun hc => ?_
 have hS := ratQ_slash neg u d
 have hL := ratN_len neg hu
 have hLd := decDigits_len d 18 (Nat.lt_of_lt_of_le hd (by decide)) (by omega)
 have cp := fun lo L => parse_c (H := ext H lo L) (ratN_num neg hu)
 have cw := fun lo L => whole1_c (H := ext H lo L)
 have cd := fun lo L => parse_c (H := ext H lo L) (ratN_num false hd)
 by_cases h1 : d = 1
 ·subst h1
  rw [ratQ_one] at hS ⊢
  simp only [ext_fresh, ext_add] at cp cw
  apply ct_seq
  apply ct_region
  iterate 2 (apply seq_newP; exact do_alloc rfl rfl; exact rfl)
  apply seq_nil
  apply ct_seq
  apply ct_region
  apply seq_plain; exact do_move rfl; exact rfl
  apply seq_plain; exact do_assign rfl; exact rfl
  apply seq_nil
  apply ct_seq
  apply ct_region
  apply seq_plain; exact do_move rfl; exact rfl
  apply seq_call (ht := rfl); exact slash_c (by omega); exact rfl
  apply seq_plain; exact do_assign rfl; exact rfl
  apply seq_nil
  iterate 2 (apply ct_seq)
  apply ct_region
  iterate 2 (apply seq_plain; exact do_move rfl; exact rfl)
  apply seq_plain; exact do_lenB rfl rfl rfl; exact rfl
  apply seq_plain; exact do_binInt rfl rfl rfl trivial; exact rfl
  apply seq_nil
  rw [hS]
  refine ct_cond_t rfl (by simp) ?_
  apply ct_seq
  apply ct_region
  apply seq_plain; exact do_move rfl; exact rfl
  apply seq_call (ht := rfl); exact cp _ _; exact rfl
  skip
  apply seq_call (ht := rfl); exact cw _ _; exact rfl
  apply seq_put (hc := by assumption); rotate_left; exact do_store rfl rfl (by exact ext_get_new rfl) rfl rfl (nb_own _); rotate_left; exact Nat.le_of_ble_eq_true rfl
  apply seq_putC (hc := by assumption); rotate_left; exact do_store rfl rfl (by exact ext_get_new rfl) rfl rfl (nb_own _); rotate_left; exact Nat.le_of_ble_eq_true rfl
  apply ct_ret
  exact fin_twoC (vs := [intQ (neg && decide (0 < u)) (some ⟨nb H 2, 0, none⟩) (wN u) (wL u).length, intQ false (some ⟨nb H 3, 0, none⟩) 1 1]) (j := 2) (k := 3) hc (res_cell2 rfl rfl (ext_get_new rfl) rfl rfl rfl (ext_get_new rfl) rfl rfl) rfl rfl (by decide) ints_flat rfl (ren_new2 (by decide)) ⟨rfl, rfl⟩
 ·rw [ratQ_more neg u h1] at hS ⊢
  have hl : (ratN neg u ++ 47 :: Lib.decDigits d).length = (ratN neg u).length + 1 + (Lib.decDigits d).length := by simp; omega
  have et : (ratN neg u ++ 47 :: Lib.decDigits d).take (ratN neg u).length = ratN neg u := by simp
  have ed : (ratN neg u ++ 47 :: Lib.decDigits d).drop ((ratN neg u).length + 1) = ratN false d := by
   rw [← List.drop_drop]; simp [ratN]
  obtain ⟨s, hs⟩ : ∃ s, s = ratN neg u ++ 47 :: Lib.decDigits d := ⟨_, rfl⟩
  rw [← hs] at hS hl et ed ⊢
  apply ct_seq
  apply ct_region
  iterate 2 (apply seq_newP; exact do_alloc rfl rfl; exact rfl)
  apply seq_nil
  apply ct_seq
  apply ct_region
  apply seq_plain; exact do_move rfl; exact rfl
  apply seq_plain; exact do_assign rfl; exact rfl
  apply seq_nil
  apply ct_seq
  apply ct_region
  apply seq_plain; exact do_move rfl; exact rfl
  apply seq_call (ht := rfl); exact slash_c (by omega); exact rfl
  apply seq_plain; exact do_assign rfl; exact rfl
  apply seq_nil
  iterate 2 (apply ct_seq)
  apply ct_region
  iterate 2 (apply seq_plain; exact do_move rfl; exact rfl)
  apply seq_plain; exact do_lenB rfl rfl rfl; exact rfl
  apply seq_plain; exact do_binInt rfl rfl rfl trivial; exact rfl
  apply seq_nil
  rw [hS]
  refine ct_cond_f rfl (by simp; omega) ?_
  apply ct_skip
  apply ct_seq
  apply ct_draw (by assumption); decide +kernel
  iterate 2 (apply sd_plain (hfree := rfl); intro _; exact do_move rfl; exact rfl)
  apply sd_look (hfree := rfl); exact do_strTo (ratN neg u).length rfl rfl rfl rfl (by omega); exact rfl
  rw [et]
  refine sd_callN (v := fun b => intQ (neg && decide (0 < u)) (some ⟨b, 0, none⟩) (wN u) (wL u).length) rfl rfl (by decide +kernel) (cp _ _) rfl ?_
  iterate 2 (apply sd_plain (hfree := rfl); intro _; exact do_move rfl; exact rfl)
  apply sd_plain (hfree := rfl); intro _; exact do_succ rfl (by omega); exact rfl
  apply sd_look (hfree := rfl); exact do_strFrom ((ratN neg u).length + 1) rfl rfl rfl (by omega) (by omega); exact rfl
  rw [ed]
  refine sd_callN (v := fun b => intQ (false && decide (0 < d)) (some ⟨b, 0, none⟩) (wN d) (wL d).length) rfl rfl (by decide +kernel) (cd _ _) rfl ?_
  skip
  refine sd_put (k := 0) rfl (by decide +kernel) hc (by simp) (do_store rfl rfl (ext_get_new rfl) rfl rfl (nb_own _)) ?_
  refine sd_put (k := 1) rfl (by decide +kernel) hc (by simp) (do_store rfl rfl (ext_get_new rfl) rfl rfl (nb_own _)) ?_
  apply sd_nil
  apply ct_ret
  exact fin_twoC (vs := [intQ (neg && decide (0 < u)) (some ⟨nb H 2, 0, none⟩) (wN u) (wL u).length, intQ (false && decide (0 < d)) (some ⟨nb H 3, 0, none⟩) (wN d) (wL d).length]) (j := 2) (k := 3) hc (res_cell2 rfl rfl (ext_get_new rfl) rfl rfl rfl (ext_get_new rfl) rfl rfl) rfl rfl (by decide) ints_flat ints_flat (ren_new2 (by decide)) ⟨rfl, rfl⟩
end Go.Proofs.YtmcecjplgalcgaaGreatDoor
/- The reference's numbers: sums of opposite numbers. -/
noncomputable section
namespace Go.Proofs.YtmcecjplgalcgaaGreatDoor
open Go Go.Den
set_option maxRecDepth 100000
theorem cmpWT_self (a : List Int) : ∀ k, cmpWT a a k = 0
 | 0 => rfl
 | k + 1 => by simp only [cmpWT, cmpWT_self a k]; rw [if_neg (by omega), if_neg (by omega)]
theorem cmpW_self (a : List Int) : cmpW a a = 0 := by
 unfold cmpW
 rw [if_neg (by simp), cmpWT_self]
def prW (x : List Int) (d : Int) : List Int := (muC x d x.length).take (trimN (muC x d x.length))
theorem prW_len (x : List Int) (d : Int) : (prW x d).length = trimN (muC x d x.length) := by
 unfold prW
 rw [List.length_take]
 have := trimN_le (muC x d x.length)
 omega
theorem trimAt_prefix : ∀ (l : List Int) (k : Nat), k ≤ l.length → trimAt (l.take (trimAt l k)) (trimAt l k) = trimAt l k
 | l, 0, _ => rfl
 | l, k + 1, h => by
  by_cases e : l[k]? = some 0
  ·have e1 : trimAt l (k + 1) = trimAt l k := by simp only [trimAt]; rw [if_pos e]
   rw [e1]; exact trimAt_prefix l k (by omega)
  ·have e1 : trimAt l (k + 1) = k + 1 := by simp only [trimAt]; rw [if_neg e]
   rw [e1]
   simp only [trimAt]
   rw [if_neg]
   rw [List.getElem?_take, if_pos (by omega)]; exact e
theorem prW_trim (x : List Int) (d : Int) : trimN (prW x d) = (prW x d).length := by
 rw [prW_len]
 unfold trimN
 rw [prW_len]
 have := trimAt_prefix (muC x d x.length) (muC x d x.length).length (Nat.le_refl _)
 exact this
abbrev muB (x : List Int) (d : Int) : ABlk := .cells ((muC x d x.length).map I) 1 false false
theorem prW_at {H : AHeap} {b : Nat} {x : List Int} {d : Int} {z : Nat} {s ro : Bool} (h : H.get b = some (.cells ((muC x d x.length).map I) z s ro)) : SlAt H 1 i1 (some ⟨b, 0, none⟩) (prW x d) :=
 (slAt_map (g := I) h).take _
set_option maxHeartbeats 4000000 in
theorem times_c {H : AHeap} {p q : Option Addr} {c e : Nat} {x : List Int} {d : Int} {ng ng' : Bool} (hp : SlAt H 1 i1 p x) (hq : SlAt H 1 i1 q [d]) (hn : x.length ≤ 500) (hx : DigL x) (hd0 : 0 ≤ d) (hd : d < 1000000000) :
  Ret Tryz.prog 55 [intQ ng p x.length c, intQ ng' q 1 e] H (intQ ((ng != ng') && decide (0 < (prW x d).length)) (some ⟨H.fresh, 0, none⟩) (prW x d).length (x.length + 1)) (H.add (muB x d)) := by
 refine fn_start Tryz.func55 rfl rfl rfl fun hc => ?_
 have cm := fun lo L => mulOne_c (H := ext H lo L) (c := c) (e := e) (hp.ext (ext_Ext hc)) (hq.ext (ext_Ext hc)) hn hx hd0 hd
 have cs := fun lo (L : List (Option ABlk)) (k : Nat) (hk : L[k]? = some (some (muB x d))) => signed_c (H := ext H lo L) (neg := (ng != ng')) (q := some ⟨nb H k, 0, none⟩) (c := x.length + 1) (l := prW x d) (prW_at (ext_get_new hk)) (OldS.new (List.getElem?_eq_some_iff.1 hk).1) ⟨by rw [prW_len]; have := trimN_le (muC x d x.length); rw [muC_len] at this; exact this, (fun e => by cases e), (fun _ e => by cases e; rfl)⟩ (by rw [prW_len]; have := trimN_le (muC x d x.length); rw [muC_len] at this; omega)
 rw [prW_trim] at cs
 rw [← prW_len] at cm
 apply ct_seq
 apply ct_region
 iterate 2 (apply seq_newP; exact do_box rfl rfl rfl; exact rfl)
 apply seq_newP; exact do_alloc rfl rfl; exact rfl
 apply seq_nil
 apply ct_seq
 apply ct_draw (by assumption); decide +kernel
 apply sd_plain (hfree := rfl); intro _; exact do_fieldAddr rfl rfl; exact rfl
 apply sd_look (hfree := rfl); exact do_load rfl (by exact ext_get_new rfl) rfl (by exact rfl); exact rfl
 apply sd_plain (hfree := rfl); intro _; exact do_fieldAddr rfl rfl; exact rfl
 apply sd_look (hfree := rfl); exact do_load rfl (by exact ext_get_new rfl) rfl (by exact rfl); exact rfl
 apply sd_plain (hfree := rfl); intro _; exact do_neq rfl rfl trivial rfl; exact rfl
 apply sd_plain (hfree := rfl); intro _; exact do_fieldAddr rfl rfl; exact rfl
 apply sd_look (hfree := rfl); exact do_load rfl (by exact ext_get_new rfl) rfl (by exact rfl); exact rfl
 apply sd_plain (hfree := rfl); intro _; exact do_fieldAddr rfl rfl; exact rfl
 apply sd_look (hfree := rfl); exact do_load rfl (by exact ext_get_new rfl) rfl (by exact rfl); exact rfl
 refine sd_callN (v := fun b => .slice (some ⟨b, 0, none⟩) (prW x d).length (x.length + 1)) rfl rfl (by decide +kernel) (cm _ _) rfl ?_
 apply sd_callM (ht := rfl) (hw := rfl); decide +kernel; exact cs _ _ 3 rfl; exact rfl
 refine sd_put (k := 2) rfl (by decide +kernel) hc (by simp) (do_store rfl rfl (ext_get_new rfl) rfl rfl (nb_own _)) ?_
 apply sd_nil
 apply ct_ret
 exact fin_oneR (vs := [intQ ((ng != ng') && decide (0 < (prW x d).length)) (some ⟨nb H 3, 0, none⟩) (prW x d).length (x.length + 1)]) (k := 3) hc (res_cell rfl rfl (ext_get_new rfl) rfl rfl) rfl ints_flat ren_new1 ⟨rfl, rfl⟩
set_option maxHeartbeats 4000000 in
theorem plusOpp_c {H : AHeap} {p q : Option Addr} {c e : Nat} {x : List Int} {ng : Bool} (hp : SlAt H 1 i1 p x) (hq : SlAt H 1 i1 q x) (hn : x.length ≤ 500) (hne : x ≠ []) :
  Ret Tryz.prog 54 [intQ ng p x.length c, intQ (!ng) q x.length e] H (intQ false (some ⟨H.fresh, 0, none⟩) 0 x.length) (H.add (.cells ((List.replicate x.length (0 : Int)).map I) 1 true false)) := by
 refine fn_start Tryz.func54 rfl rfl rfl fun hc => ?_
 have cc := fun lo L => compareDigits_c (H := ext H lo L) (c := c) (e := e) (hp.ext (ext_Ext hc)) (hq.ext (ext_Ext hc)) (by omega) (by omega)
 rw [cmpW_self] at cc
 have cb := fun lo L => subSame_c (H := ext H lo L) (c := c) (e := e) (hp.ext (ext_Ext hc)) (hq.ext (ext_Ext hc)) (by omega) hne
 have cs := fun lo (L : List (Option ABlk)) (k : Nat) (hk : L[k]? = some (some (.cells ((List.replicate x.length (0 : Int)).map I) 1 true false))) => signed_c (H := ext H lo L) (neg := ng) (q := some ⟨nb H k, 0, none⟩) (c := x.length) (l := []) SlAt.nil (OldS.new (List.getElem?_eq_some_iff.1 hk).1) ⟨Nat.zero_le _, (fun e => by cases e), (fun _ e => by cases e; rfl)⟩ (by simp)
 have en : (ng && decide (0 < trimN [])) = false := by simp [trimN, trimAt]
 rw [en] at cs
 have eb : (ng == !ng) = false := by cases ng <;> rfl
 apply ct_seq
 apply ct_region
 iterate 2 (apply seq_newP; exact do_box rfl rfl rfl; exact rfl)
 apply seq_newP; exact do_alloc rfl rfl; exact rfl
 apply seq_nil
 iterate 2 (apply ct_seq)
 apply ct_region
 apply seq_plain; exact do_fieldAddr rfl rfl; exact rfl
 apply seq_plain; exact do_load rfl (by exact ext_get_new rfl) rfl (by exact rfl); exact rfl
 apply seq_plain; exact do_fieldAddr rfl rfl; exact rfl
 apply seq_plain; exact do_load rfl (by exact ext_get_new rfl) rfl (by exact rfl); exact rfl
 apply seq_plain; exact do_eql rfl rfl trivial rfl; exact rfl
 rw [eb]
 apply seq_nil
 refine ct_cond_f rfl rfl ?_
 apply ct_skip
 iterate 2 (apply ct_seq)
 apply ct_region
 apply seq_plain; exact do_fieldAddr rfl rfl; exact rfl
 apply seq_plain; exact do_load rfl (by exact ext_get_new rfl) rfl (by exact rfl); exact rfl
 apply seq_plain; exact do_fieldAddr rfl rfl; exact rfl
 apply seq_plain; exact do_load rfl (by exact ext_get_new rfl) rfl (by exact rfl); exact rfl
 apply seq_call (ht := rfl); exact cc _ _; exact rfl
 apply seq_plain; exact do_binInt rfl rfl rfl trivial; exact rfl
 apply seq_nil
 refine ct_cond_t rfl rfl ?_
 apply ct_seq
 apply ct_draw (by assumption); decide +kernel
 apply sd_plain (hfree := rfl); intro _; exact do_fieldAddr rfl rfl; exact rfl
 apply sd_look (hfree := rfl); exact do_load rfl (by exact ext_get_new rfl) rfl (by exact rfl); exact rfl
 apply sd_plain (hfree := rfl); intro _; exact do_fieldAddr rfl rfl; exact rfl
 apply sd_look (hfree := rfl); exact do_load rfl (by exact ext_get_new rfl) rfl (by exact rfl); exact rfl
 apply sd_plain (hfree := rfl); intro _; exact do_fieldAddr rfl rfl; exact rfl
 apply sd_look (hfree := rfl); exact do_load rfl (by exact ext_get_new rfl) rfl (by exact rfl); exact rfl
 refine sd_callN (v := fun b => .slice (some ⟨b, 0, none⟩) 0 x.length) rfl rfl (by decide +kernel) (cb _ _) rfl ?_
 apply sd_callM (ht := rfl) (hw := rfl); decide +kernel; exact cs _ _ 3 rfl; exact rfl
 refine sd_put (k := 2) rfl (by decide +kernel) hc (by simp) (do_store rfl rfl (ext_get_new rfl) rfl rfl (nb_own _)) ?_
 apply sd_nil
 apply ct_ret
 exact fin_oneR (vs := [intQ false (some ⟨nb H 3, 0, none⟩) 0 x.length]) (k := 3) hc (res_cell rfl rfl (ext_get_new rfl) rfl rfl) rfl ints_flat ren_new1 ⟨rfl, rfl⟩
end Go.Proofs.YtmcecjplgalcgaaGreatDoor
