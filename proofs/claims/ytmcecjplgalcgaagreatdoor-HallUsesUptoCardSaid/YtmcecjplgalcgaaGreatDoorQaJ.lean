/- The reference's numbers: digits are compared, and divided by a digit. -/
import Derived.Test.YtmcecjplgalcgaaGreatDoorQaB
import Derived.Test.YtmcecjplgalcgaaGreatDoorAsC
import Derived.Test.YtmcecjplgalcgaaGreatDoorPrL
import Derived.Test.YtmcecjplgalcgaaGreatDoorHaB
import Derived.Test.YtmcecjplgalcgaaGreatDoorSrL
import Derived.Test.YtmcecjplgalcgaaGreatDoorSxK
import Derived.Test.YtmcecjplgalcgaaGreatDoorStC
import Derived.Test.YtmcecjplgalcgaaGreatDoorAwake
import Derived.Test.YtmcecjplgalcgaaGreatDoorNuC
noncomputable section
namespace Go.Proofs.YtmcecjplgalcgaaGreatDoor
open Go Go.Den
set_option maxRecDepth 100000
def cmpWT (a b : List Int) : Nat → Int
 | 0 => 0
 | k + 1 => if a[k]?.getD 0 < b[k]?.getD 0 then -1 else if a[k]?.getD 0 > b[k]?.getD 0 then 1 else cmpWT a b k
def cmpW (a b : List Int) : Int := if a.length ≠ b.length then (if a.length < b.length then -1 else 1) else cmpWT a b a.length
set_option maxHeartbeats 4000000 in
theorem compareDigits_c {H : AHeap} {p q : Option Addr} {c e : Nat} {a b : List Int} (hp : SlAt H 1 i1 p a) (hq : SlAt H 1 i1 q b) (ha : a.length < 1000000000000) (hb : b.length < 1000000000000) :
  Ret Tryz.prog 109 [.slice p a.length c, .slice q b.length e] H (I (cmpW a b)) H := by
 refine fn_start Tryz.func109 rfl rfl rfl fun hc => ?_
 apply ct_seq
 apply ct_region
 apply seq_plain; exact do_assign rfl; exact rfl
 apply seq_nil
 iterate 2 (apply ct_seq)
 apply ct_region
 apply seq_plain; exact do_move rfl; exact rfl
 apply seq_plain; exact do_lenS rfl rfl rfl; exact rfl
 apply seq_plain; exact do_move rfl; exact rfl
 apply seq_plain; exact do_lenS rfl rfl rfl; exact rfl
 apply seq_plain; exact do_binInt rfl rfl rfl trivial; exact rfl
 apply seq_nil
 refine ct_cond rfl (fun h1 => ?_) (fun h1 => ?_)
 ·have h1 : a.length ≠ b.length := by intro e; rw [e] at h1; simp at h1
  iterate 2 (apply ct_seq)
  apply ct_region
  apply seq_plain; exact do_move rfl; exact rfl
  apply seq_plain; exact do_lenS rfl rfl rfl; exact rfl
  apply seq_plain; exact do_move rfl; exact rfl
  apply seq_plain; exact do_lenS rfl rfl rfl; exact rfl
  apply seq_plain; exact do_binInt rfl rfl rfl trivial; exact rfl
  apply seq_nil
  refine ct_cond rfl (fun h2 => ?_) (fun h2 => ?_)
  ·have h2 : a.length < b.length := by simpa using h2
   apply ct_seq
   apply ct_region
   apply seq_plain; exact do_assign rfl; exact rfl
   apply seq_nil
   apply ct_ret
   refine fin_flat hc rfl rfl ⟨?_, rfl⟩
   unfold cmpW; rw [if_pos h1, if_pos h2]; rfl
  ·have h2 : ¬ a.length < b.length := by simpa using h2
   apply ct_skip
   apply ct_seq
   apply ct_region
   apply seq_plain; exact do_assign rfl; exact rfl
   apply seq_nil
   apply ct_ret
   refine fin_flat hc rfl rfl ⟨?_, rfl⟩
   unfold cmpW; rw [if_pos h1, if_neg h2]; rfl
 have h1 : a.length = b.length := by
  rcases Nat.lt_trichotomy a.length b.length with h | h | h
  ·exfalso; simp at h1; omega
  ·exact h
  ·exfalso; simp at h1; omega
 have eR : cmpW a b = cmpWT a b a.length := if_neg (by omega)
 rw [eR]
 apply ct_skip
 iterate 2 (apply ct_seq)
 apply ct_region
 apply seq_plain; exact do_move rfl; exact rfl
 apply seq_plain; exact do_lenS rfl rfl rfl; exact rfl
 apply seq_plain; exact do_sub rfl rfl (by omega); exact rfl
 apply seq_plain; exact do_assign rfl; exact rfl
 apply seq_nil
 apply ct_block
 apply ct_loop
 refine lt_meas (α := Nat) (fun k => [(0, .slice p a.length c), (1, .slice q b.length e), (5, I ((k : Int) - 1))]) (fun _ => ext H H.fresh []) (fun k => k ≤ a.length ∧ cmpWT a b k = cmpWT a b a.length) (fun k => k) (fun k hk ih => ?_) a.length ⟨Nat.le_refl _, rfl⟩ (by repeat (first | exact sub_nil | apply sub_cons rfl)) (.refl _)
 obtain ⟨hk, hJ⟩ := hk
 rcases k with _ | k
 ·apply ct_seq
  apply ct_seq
  apply ct_region
  apply seq_plain; exact do_move rfl; exact rfl
  apply seq_plain; exact do_binInt rfl rfl rfl trivial; exact rfl
  apply seq_nil
  refine ct_cond_f rfl rfl ?_
  apply ct_exit
  apply exit_eq; exact rfl
  apply ct_seq
  apply ct_region
  apply seq_plain; exact do_assign rfl; exact rfl
  apply seq_nil
  apply ct_ret
  refine fin_flat hc rfl rfl ⟨?_, rfl⟩
  rw [← hJ]; rfl
 ·obtain ⟨b1, o1, cs1, z1, s1, ro1, rfl, hg1, hw1⟩ := hp.out (by intro e; rw [e] at hk; simp at hk)
  obtain ⟨b2, o2, cs2, z2, s2, ro2, rfl, hg2, hw2⟩ := hq.out (by intro e; rw [e] at h1; simp at h1; rw [h1] at hk; simp at hk)
  have hka : k < a.length := by omega
  have hkb : k < b.length := by omega
  have e1 : ((k + 1 : Nat) : Int) - 1 = (k : Int) := by omega
  have ea : a[k]?.getD 0 = a[k] := by rw [List.getElem?_eq_getElem hka]; rfl
  have eb : b[k]?.getD 0 = b[k] := by rw [List.getElem?_eq_getElem hkb]; rfl
  have eJ : cmpWT a b (k + 1) = if a[k] < b[k] then -1 else if a[k] > b[k] then 1 else cmpWT a b k := by simp only [cmpWT, ea, eb]
  rw [eJ] at hJ
  have ih' := ih k (by omega)
  rw [e1]
  iterate 2 (apply ct_seq)
  apply ct_region
  apply seq_plain; exact do_move rfl; exact rfl
  apply seq_plain; exact do_binInt rfl rfl rfl trivial; exact rfl
  apply seq_nil
  refine ct_cond_t rfl (decide_eq_true (by omega)) ?_
  apply ct_skip
  apply ct_seq
  apply ct_block
  iterate 2 (apply ct_seq)
  apply ct_draw (by assumption); decide +kernel
  iterate 2 (apply sd_plain (hfree := rfl); intro _; exact do_move rfl; exact rfl)
  apply sd_plain (hfree := rfl); intro _; exact do_indexAddrS rfl rfl rfl (by exact idx_nat (by omega)); exact rfl
  apply sd_look (hfree := rfl); exact do_load rfl (by exact ext_get_old (by assumption) (by assumption)) rfl (by exact pt_sl0 (by assumption) (by omega)); exact rfl
  iterate 2 (apply sd_plain (hfree := rfl); intro _; exact do_move rfl; exact rfl)
  apply sd_plain (hfree := rfl); intro _; exact do_indexAddrS rfl rfl rfl (by exact idx_nat (by omega)); exact rfl
  apply sd_look (hfree := rfl); exact do_load rfl (by exact ext_get_old (by assumption) (by assumption)) rfl (by exact pt_sl0 (by assumption) (by omega)); exact rfl
  apply sd_plain (hfree := rfl); intro _; exact do_binInt rfl rfl rfl trivial; exact rfl
  apply sd_nil
  refine ct_cond rfl (fun u1 => ?_) (fun u1 => ?_)
  ·have u1 : a[k] < b[k] := by simpa using u1
   rw [if_pos u1] at hJ
   apply ct_seq
   apply ct_region
   apply seq_plain; exact do_assign rfl; exact rfl
   apply seq_nil
   apply ct_ret
   refine fin_flat hc rfl rfl ⟨?_, rfl⟩
   rw [← hJ]; rfl
  ·have u1 : ¬ a[k] < b[k] := by simpa using u1
   rw [if_neg u1] at hJ
   apply ct_skip
   apply ct_seq
   apply ct_draw (by assumption); decide +kernel
   iterate 2 (apply sd_plain (hfree := rfl); intro _; exact do_move rfl; exact rfl)
   apply sd_plain (hfree := rfl); intro _; exact do_indexAddrS rfl rfl rfl (by exact idx_nat (by omega)); exact rfl
   apply sd_look (hfree := rfl); exact do_load rfl (by exact ext_get_old (by assumption) (by assumption)) rfl (by exact pt_sl0 (by assumption) (by omega)); exact rfl
   iterate 2 (apply sd_plain (hfree := rfl); intro _; exact do_move rfl; exact rfl)
   apply sd_plain (hfree := rfl); intro _; exact do_indexAddrS rfl rfl rfl (by exact idx_nat (by omega)); exact rfl
   apply sd_look (hfree := rfl); exact do_load rfl (by exact ext_get_old (by assumption) (by assumption)) rfl (by exact pt_sl0 (by assumption) (by omega)); exact rfl
   apply sd_plain (hfree := rfl); intro _; exact do_binInt rfl rfl rfl trivial; exact rfl
   apply sd_nil
   refine ct_cond rfl (fun u2 => ?_) (fun u2 => ?_)
   ·have u2 : a[k] > b[k] := by simpa using u2
    rw [if_pos u2] at hJ
    apply ct_seq
    apply ct_region
    apply seq_plain; exact do_assign rfl; exact rfl
    apply seq_nil
    apply ct_ret
    refine fin_flat hc rfl rfl ⟨?_, rfl⟩
    rw [← hJ]; rfl
   ·have u2 : ¬ a[k] > b[k] := by simpa using u2
    rw [if_neg u2] at hJ
    apply ct_skip
    apply ct_region
    apply seq_plain; exact do_move rfl; exact rfl
    apply seq_plain; exact do_sub rfl rfl (by omega); exact rfl
    apply seq_plain; exact do_assign rfl; exact rfl
    apply seq_nil
    exact lt_to (by repeat (first | exact sub_nil | apply sub_cons rfl)) (.refl _) (ih' ⟨by omega, hJ⟩)
end Go.Proofs.YtmcecjplgalcgaaGreatDoor
/- The reference's numbers: digits are multiplied; equal digits are subtracted. -/
noncomputable section
namespace Go.Proofs.YtmcecjplgalcgaaGreatDoor
open Go Go.Den
set_option maxRecDepth 100000
theorem digit_c {H : AHeap} {p : Option Addr} {c : Nat} {a : List Int} {i : Nat} (hp : SlAt H 1 i1 p a) (hn : a.length ≤ 1000000) :
  Ret Tryz.prog 151 [.slice p a.length c, I i] H (I (a[i]?.getD 0)) H := by
 refine fn_start Tryz.func151 rfl rfl rfl fun hc => ?_
 apply ct_seq
 apply ct_region
 apply seq_plain; exact do_assign rfl; exact rfl
 apply seq_nil
 iterate 2 (apply ct_seq)
 apply ct_region
 iterate 2 (apply seq_plain; exact do_move rfl; exact rfl)
 apply seq_plain; exact do_lenS rfl rfl rfl; exact rfl
 apply seq_plain; exact do_binInt rfl rfl rfl trivial; exact rfl
 apply seq_nil
 refine ct_cond rfl (fun h1 => ?_) (fun h1 => ?_)
 ·have h1 : i < a.length := by simpa using h1
  obtain ⟨b1, o1, cs1, z1, s1, ro1, rfl, hg1, hw1⟩ := hp.out (by intro e; rw [e] at h1; simp at h1)
  apply ct_seq
  apply ct_region
  iterate 2 (apply seq_plain; exact do_move rfl; exact rfl)
  apply seq_plain; exact do_indexAddrS rfl rfl rfl (by exact idx_nat (by omega)); exact rfl
  apply seq_plain; exact do_load rfl (by exact ext_get_old (by assumption) (by assumption)) rfl (by exact pt_sl0 (by assumption) (by omega)); exact rfl
  apply seq_plain; exact do_assign rfl; exact rfl
  apply seq_nil
  apply ct_ret
  refine fin_flat hc rfl rfl ⟨?_, rfl⟩
  rw [List.getElem?_eq_getElem h1]; rfl
 ·have h1 : ¬ i < a.length := by simpa using h1
  apply ct_skip
  apply ct_seq
  apply ct_region
  apply seq_plain; exact do_assign rfl; exact rfl
  apply seq_nil
  apply ct_ret
  refine fin_flat hc rfl rfl ⟨?_, rfl⟩
  rw [List.getElem?_eq_none (by omega)]; rfl
theorem flatI1 : ∀ l : List Int, l.flatMap i1 = l.map I
 | [] => rfl
 | a :: r => by rw [List.flatMap_cons, flatI1 r]; rfl
theorem trim_zeros : ∀ n k : Nat, trimAt (List.replicate n 0) k = if k ≤ n then 0 else k
 | n, 0 => by simp [trimAt]
 | n, k + 1 => by
  simp only [trimAt, List.getElem?_replicate, trim_zeros n k]
  by_cases h : k < n
  ·rw [if_pos h, if_pos rfl, if_pos (by omega), if_pos (by omega)]
  ·rw [if_neg h, if_neg (by simp), if_neg (by omega)]
theorem trimN_zeros (n : Nat) : trimN (List.replicate n 0) = 0 := by
 unfold trimN; rw [trim_zeros, List.length_replicate, if_pos (Nat.le_refl _)]
set_option maxHeartbeats 4000000 in
theorem subSame_c {H : AHeap} {p q : Option Addr} {c e : Nat} {a : List Int} (hp : SlAt H 1 i1 p a) (hq : SlAt H 1 i1 q a) (hn : a.length ≤ 1000) (hne : a ≠ []) :
  Ret Tryz.prog 110 [.slice p a.length c, .slice q a.length e] H (.slice (some ⟨H.fresh, 0, none⟩) 0 a.length) (H.add (.cells ((List.replicate a.length (0 : Int)).map I) 1 true false)) := by
 refine fn_start Tryz.func110 rfl rfl rfl fun hc => ?_
 apply ct_seq
 apply ct_region
 apply seq_plain; exact do_assign rfl; exact rfl
 apply seq_nil
 apply ct_seq
 apply ct_region
 apply seq_plain; exact do_assign rfl; exact rfl
 apply seq_nil
 apply ct_seq
 apply ct_region
 apply seq_plain; exact do_assign rfl; exact rfl
 apply seq_nil
 iterate 2 (apply ct_seq)
 apply ct_region
 apply seq_plain; exact do_assign rfl; exact rfl
 apply seq_nil
 apply ct_block
 apply ct_loop
 refine lt_meas (α := Nat × Value × List (Option ABlk)) (fun s => [(0, .slice p a.length c), (1, .slice q a.length e), (5, s.2.1), (6, I 0), (7, I s.1)]) (fun s => ext H H.fresh s.2.2) (fun s => s.1 ≤ a.length ∧ Lst H s.2.2 1 i1 0 s.2.1 (List.replicate s.1 (0 : Int))) (fun s => a.length - s.1) (fun s hJ ih => ?_) (0, .slice none 0 0, []) ⟨Nat.zero_le _, Lst.nil⟩ (by repeat (first | exact sub_nil | apply sub_cons rfl)) (.refl _)
 obtain ⟨i, v, L⟩ := s
 obtain ⟨hi, hv⟩ := hJ
 simp only at hi hv ih ⊢
 have ih' := fun i' v' L' a1 a2 => ih (i', v', L') a1 a2
 simp only at ih'
 clear ih
 iterate 2 (apply ct_seq)
 apply ct_region
 iterate 2 (apply seq_plain; exact do_move rfl; exact rfl)
 apply seq_plain; exact do_lenS rfl rfl rfl; exact rfl
 apply seq_plain; exact do_binInt rfl rfl rfl trivial; exact rfl
 apply seq_nil
 refine ct_cond rfl (fun h1 => ?_) (fun h1 => ?_)
 ·have h1 : i < a.length := by simpa using h1
  obtain ⟨b1, o1, cs1, z1, s1, ro1, rfl, hg1, hw1⟩ := hp.out hne
  obtain ⟨b2, o2, cs2, z2, s2, ro2, rfl, hg2, hw2⟩ := hq.out hne
  have cdg := fun lo L => digit_c (H := ext H lo L) (c := e) (i := i) (hq.ext (ext_Ext hc)) (by omega)
  have ed : a[i]?.getD 0 = a[i] := by rw [List.getElem?_eq_getElem h1]; rfl
  rw [ed] at cdg
  apply ct_skip
  apply ct_seq
  apply ct_block
  apply ct_seq
  apply ct_draw (by assumption); decide +kernel
  iterate 2 (apply sd_plain (hfree := rfl); intro _; exact do_move rfl; exact rfl)
  apply sd_plain (hfree := rfl); intro _; exact do_indexAddrS rfl rfl rfl (by exact idx_nat (by omega)); exact rfl
  apply sd_look (hfree := rfl); exact do_load rfl (by exact ext_get_old (by assumption) (by assumption)) rfl (by exact pt_sl0 (by assumption) (by omega)); exact rfl
  iterate 2 (apply sd_plain (hfree := rfl); intro _; exact do_move rfl; exact rfl)
  apply sd_call (ht := rfl); exact cdg _ _; exact rfl
  apply sd_plain (hfree := rfl); intro _; exact do_sub rfl rfl (by omega); exact rfl
  apply sd_plain (hfree := rfl); intro _; exact do_move rfl; exact rfl
  apply sd_plain (hfree := rfl); intro _; exact do_sub rfl rfl (by omega); exact rfl
  apply sd_plain (hfree := rfl); intro _; exact do_assign rfl; exact rfl
  apply sd_nil
  apply ct_seq
  apply ct_region
  apply seq_plain; exact do_assign rfl; exact rfl
  apply seq_nil
  iterate 2 (apply ct_seq)
  apply ct_region
  apply seq_plain; exact do_move rfl; exact rfl
  apply seq_plain; exact do_binInt rfl rfl rfl trivial; exact rfl
  apply seq_nil
  have e0 : a[i] - a[i] - 0 = 0 := by omega
  rw [e0]
  refine ct_cond_f rfl rfl ?_
  apply ct_skip
  apply ct_region
  iterate 2 (apply seq_plain; exact do_move rfl; exact rfl)
  apply seq_newS; exact do_buildSlice rfl rfl rfl rfl rfl rfl rfl; exact rfl
  refine seq_grow (f := i1) (m := 1) (xs := [(0 : Int)]) (k0 := 0) hc ((hv.app _).app _) (Nat.zero_le _) (fun _ => rfl) (fun _ => rfl) rfl rfl rfl rfl rfl rfl (ext_get_new List.getElem?_concat_length) rfl (by simp) (by show (2 * ((List.replicate i (0 : Int)).length + 1) + 1000) * 8 ≤ 2 ^ 48; rw [List.length_replicate]; omega) (Nat.ne_of_beq_eq_false rfl) (Nat.ne_of_beq_eq_false rfl) rfl (fun v' L3 hv' hst3 hlen3 => ?_)
  rw [← List.replicate_succ'] at hv'
  apply seq_plain; exact do_assign rfl; exact rfl
  apply seq_nil
  apply ct_region
  apply seq_plain; exact do_move rfl; exact rfl
  apply seq_plain; exact do_succ rfl (by omega); exact rfl
  apply seq_plain; exact do_assign rfl; exact rfl
  apply seq_nil
  exact lt_to (by repeat (first | exact sub_nil | apply sub_cons rfl)) (.refl _) (ih' (i + 1) v' L3 (by omega) ⟨by omega, hv'⟩)
 ·have h1 : i = a.length := by simp at h1; omega
  subst h1
  rcases hv.out with ⟨e, _⟩ | ⟨_, kk, hk1, rfl, hL⟩
  ·exact absurd (List.length_eq_zero_iff.1 (by simpa using e)) hne
  have fk : kk < L.length := (List.getElem?_eq_some_iff.1 hL).1
  have ct := fun lo => trim_c (H := ext H lo L) (q := some ⟨nb H kk, 0, none⟩) (c := (List.replicate a.length (0 : Int)).length) (l := List.replicate a.length (0 : Int)) (slAt_flat (fun _ => rfl) (ext_get_new hL)) (OldS.new fk) ⟨Nat.le_refl _, (fun e => by cases e), (fun _ e => by cases e; rfl)⟩ (by rw [List.length_replicate]; omega)
  rw [trimN_zeros] at ct
  apply ct_exit
  apply exit_eq; exact rfl
  apply ct_seq
  apply ct_region
  apply seq_plain; exact do_move rfl; exact rfl
  apply seq_call (ht := rfl); exact ct _; exact rfl
  apply seq_plain; exact do_assign rfl; exact rfl
  apply seq_nil
  apply ct_ret
  rw [flatI1] at hL
  refine fin_one (vs := [.slice (some ⟨nb H kk, 0, none⟩) 0 (List.replicate a.length (0 : Int)).length]) (k := kk) hc rfl hL ints_flat (v := .slice (some ⟨H.fresh, 0, none⟩) 0 a.length) (by simp [packA, renV, renOf_new]) ⟨rfl, rfl⟩
end Go.Proofs.YtmcecjplgalcgaaGreatDoor
