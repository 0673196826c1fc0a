/- The reference's numbers: digits are divided by a digit. -/
import Derived.Test.YtmcecjplgalcgaaGreatDoorQaJ
import Derived.Test.YtmcecjplgalcgaaGreatDoorAsC
import Derived.Test.YtmcecjplgalcgaaGreatDoorPrL
import Derived.Test.YtmcecjplgalcgaaGreatDoorHaB
import Derived.Test.YtmcecjplgalcgaaGreatDoorSrL
import Derived.Test.YtmcecjplgalcgaaGreatDoorSxK
import Derived.Test.YtmcecjplgalcgaaGreatDoorStC
import Derived.Test.YtmcecjplgalcgaaGreatDoorAwake
import Derived.Test.YtmcecjplgalcgaaGreatDoorNuC
noncomputable section
namespace Go.Proofs.YtmcecjplgalcgaaGreatDoor
open Go Go.Den
set_option maxRecDepth 100000
structure DigL (a : List Int) : Prop where
 bd : ∀ x ∈ a, 0 ≤ x ∧ x < 1000000000
def dvR (a : List Int) (d : Int) : Nat → Int
 | 0 => 0
 | j + 1 => (dvR a d j * 1000000000 + a[a.length - (j + 1)]?.getD 0) % d
def dvS (a : List Int) (d : Int) (j : Nat) : Int := dvR a d j * 1000000000 + a[a.length - (j + 1)]?.getD 0
def dvQ (a : List Int) (d : Int) : Nat → List Int
 | 0 => List.replicate a.length 0
 | j + 1 => (dvQ a d j).set (a.length - (j + 1)) (dvS a d j / d)
theorem dvQ_len (a : List Int) (d : Int) : ∀ j, (dvQ a d j).length = a.length
 | 0 => by simp [dvQ]
 | j + 1 => by simp [dvQ, dvQ_len a d j]
theorem dvR_bd {a : List Int} {d : Int} (hd : 0 < d) : ∀ j, 0 ≤ dvR a d j ∧ dvR a d j < d
 | 0 => ⟨Int.le_refl _, hd⟩
 | j + 1 => ⟨Int.emod_nonneg _ (by omega), Int.emod_lt_of_pos _ hd⟩
theorem dvS_bd {a : List Int} {d : Int} (ha : DigL a) (hd : 0 < d) (hd2 : d < 1000000000) (j : Nat) : 0 ≤ dvS a d j ∧ dvS a d j < d * 1000000000 := by
 obtain ⟨h1, h2⟩ := dvR_bd (a := a) hd j
 unfold dvS
 have h3 : 0 ≤ a[a.length - (j + 1)]?.getD 0 ∧ a[a.length - (j + 1)]?.getD 0 < 1000000000 := by
  cases h : a[a.length - (j + 1)]? with
  | none => exact ⟨by simp, by simp⟩
  | some x => exact ha.bd x (List.mem_of_getElem? h)
 omega
theorem mkInts {P : Program} [PC P] {l : EL} {h : AHeap} {t : TypeId} {a : Operand} {n : Nat} {e : TypeId} (ha : ev l a = some (I n)) (hn : n ≤ 1000) (hs : selOf P t = some (1, false)) (he : (tyOf P t).map (·.und) = some (.slice e)) (hz : zerOf P e = some [I 0]) (hby : (tyOf P e).map (·.bytes) = some 8) :
  Does P l (.makeSlice t a a) h (.slice (some ⟨h.fresh, 0, none⟩) n n) (h.add (.cells ((List.replicate n (0 : Int)).map I) 1 false false)) := by
 rw [← repl_map (g := I)]
 exact do_makeSlice ha ha hs he hz hby (Nat.le_refl _) (by omega) (by omega)
set_option maxHeartbeats 4000000 in
theorem divDigit_c {H : AHeap} {p : Option Addr} {c : Nat} {a : List Int} {d : Int} (hp : SlAt H 1 i1 p a) (hn : a.length ≤ 1000) (ha : DigL a) (hd : 0 < d) (hd2 : d < 1000000000) :
  Ret Tryz.prog 148 [.slice p a.length c, I d] H (.tuple ⟨[.slice (some ⟨H.fresh, 0, none⟩) (trimN (dvQ a d a.length)) a.length, I (dvR a d a.length)]⟩) (H.add (.cells ((dvQ a d a.length).map I) 1 false false)) := by
 refine fn_start Tryz.func148 rfl rfl rfl fun hc => ?_
 apply ct_seq
 apply ct_region
 iterate 2 (apply seq_plain; exact do_assign rfl; exact rfl)
 apply seq_nil
 apply ct_seq
 apply ct_region
 apply seq_plain; exact do_move rfl; exact rfl
 apply seq_plain; exact do_lenS rfl rfl rfl; exact rfl
 apply seq_newS; exact mkInts rfl hn rfl rfl rfl rfl; exact rfl
 apply seq_plain; exact do_assign rfl; exact rfl
 apply seq_nil
 apply ct_seq
 apply ct_region
 apply seq_plain; exact do_assign rfl; exact rfl
 apply seq_nil
 iterate 2 (apply ct_seq)
 apply ct_region
 apply seq_plain; exact do_move rfl; exact rfl
 apply seq_plain; exact do_lenS rfl rfl rfl; exact rfl
 apply seq_plain; exact do_sub rfl rfl (by omega); exact rfl
 apply seq_plain; exact do_assign rfl; exact rfl
 apply seq_nil
 apply ct_block
 apply ct_loop
 refine lt_meas (α := Nat) (fun j => [(0, .slice p a.length c), (1, I d), (6, .slice (some ⟨nb H 0, 0, none⟩) a.length a.length), (7, I (dvR a d j)), (8, I ((a.length : Int) - (j : Int) - 1))]) (fun j => ext H H.fresh [some (.cells ((dvQ a d j).map I) 1 false false)]) (fun j => j ≤ a.length) (fun j => a.length - j) (fun j hj ih => ?_) 0 (Nat.zero_le _) ?_ (.refl _)
 rotate_left
 ·rw [show ((a.length : Int) - ((0 : Nat) : Int) - 1) = (a.length : Int) - 1 by omega]
  (repeat (first | exact sub_nil | apply sub_cons rfl))
 rcases Nat.lt_or_ge j a.length with h1 | h1
 ·obtain ⟨b1, o1, cs1, z1, s1, ro1, rfl, hg1, hw1⟩ := hp.out (by intro e; rw [e] at h1; simp at h1)
  obtain ⟨i, hi⟩ : ∃ i, i = a.length - (j + 1) := ⟨_, rfl⟩
  have hia : i < a.length := by omega
  have e1 : (a.length : Int) - (j : Int) - 1 = (i : Int) := by omega
  have ei : a[a.length - (j + 1)]?.getD 0 = a[i] := by rw [← hi, List.getElem?_eq_getElem hia]; rfl
  obtain ⟨r1, r2⟩ := dvR_bd (a := a) hd j
  obtain ⟨s1', s2'⟩ := dvS_bd ha hd hd2 j
  have eS : dvS a d j = dvR a d j * 1000000000 + a[i] := by unfold dvS; rw [ei]
  have eR : dvR a d (j + 1) = dvS a d j % d := rfl
  have eQ : dvQ a d (j + 1) = (dvQ a d j).set i (dvS a d j / d) := by rw [hi]; rfl
  have ih' := ih (j + 1) (by omega) (by omega)
  have eQl := dvQ_len a d j
  obtain ⟨R, hR⟩ : ∃ R, R = dvR a d j := ⟨_, rfl⟩
  obtain ⟨S, hS⟩ : ∃ S, S = dvS a d j := ⟨_, rfl⟩
  rw [← hR] at r1 r2 eS ⊢
  rw [← hS] at s1' s2' eS eR eQ
  have m1 : -9223372036854775808 ≤ R * 1000000000 ∧ R * 1000000000 ≤ 9223372036854775807 := by omega
  have m2 : -9223372036854775808 < S := by omega
  have m3 : S ≤ 9223372036854775807 := by omega
  have t1 : S.tdiv d = S / d := Int.tdiv_eq_ediv_of_nonneg s1'
  have t2 : S.tmod d = S % d := Int.tmod_eq_emod_of_nonneg s1'
  rw [e1]
  iterate 2 (apply ct_seq)
  apply ct_region
  apply seq_plain; exact do_move rfl; exact rfl
  apply seq_plain; exact do_binInt rfl rfl rfl trivial; exact rfl
  apply seq_nil
  refine ct_cond_t rfl (decide_eq_true (by omega)) ?_
  apply ct_skip
  apply ct_seq
  apply ct_block
  apply ct_seq
  apply ct_region
  apply seq_plain; exact do_move rfl; exact rfl
  apply seq_plain; exact do_mul rfl rfl (by assumption); exact rfl
  iterate 2 (apply seq_plain; exact do_move rfl; exact rfl)
  apply seq_plain; exact do_indexAddrS rfl rfl rfl (by exact idx_nat (by omega)); exact rfl
  apply seq_plain; exact do_load rfl (by exact ext_get_old (by assumption) (by assumption)) rfl (by exact pt_sl0 (by assumption) (by omega)); exact rfl
  apply seq_plain; exact do_add rfl rfl (by omega); exact rfl
  apply seq_plain; exact do_assign rfl; exact rfl
  apply seq_nil
  apply ct_seq
  apply ct_region
  iterate 4 (apply seq_plain; exact do_move rfl; exact rfl)
  rw [← eS]
  apply seq_plain; exact do_quoI rfl rfl (by assumption) (by assumption) (by assumption); exact rfl
  apply seq_plain; exact do_indexAddrS rfl rfl rfl (by exact idx_nat (by omega)); exact rfl
  rw [t1]
  apply seq_putC (hc := by assumption); rotate_left; exact do_store rfl rfl (ext_get_new rfl) rfl (stl_map (by rw [eQl]; exact hia) rfl rfl) (nb_own _); rotate_left; exact Nat.le_of_ble_eq_true rfl
  apply ct_region
  iterate 2 (apply seq_plain; exact do_move rfl; exact rfl)
  apply seq_plain; exact do_rem rfl rfl (by omega); exact rfl
  apply seq_plain; exact do_assign rfl; exact rfl
  apply seq_nil
  apply ct_region
  apply seq_plain; exact do_move rfl; exact rfl
  apply seq_plain; exact do_sub rfl rfl (by omega); exact rfl
  apply seq_plain; exact do_assign rfl; exact rfl
  apply seq_nil
  have e2 : (i : Int) - 1 = (a.length : Int) - ((j + 1 : Nat) : Int) - 1 := by omega
  rw [t2, ← eR, ← eQ, e2]
  exact lt_to (by repeat (first | exact sub_nil | apply sub_cons rfl)) (.refl _) ih'
 ·have h2 : j = a.length := by omega
  subst h2
  have e1 : (a.length : Int) - (a.length : Int) - 1 = -1 := by omega
  have ct := fun lo => trim_c (H := ext H lo [some (.cells ((dvQ a d a.length).map I) 1 false false)]) (q := some ⟨nb H 0, 0, none⟩) (c := a.length) (l := dvQ a d a.length) (slAt_map (ext_get_new rfl)) (OldS.new (by simp)) ⟨by rw [dvQ_len]; exact Nat.le_refl _, (fun e => by cases e), (fun _ e => by cases e; rfl)⟩ (by rw [dvQ_len]; omega)
  rw [dvQ_len] at ct
  rw [e1]
  iterate 2 (apply ct_seq)
  apply ct_region
  apply seq_plain; exact do_move rfl; exact rfl
  apply seq_plain; exact do_binInt rfl rfl rfl trivial; exact rfl
  apply seq_nil
  refine ct_cond_f rfl rfl ?_
  apply ct_exit
  apply exit_eq; exact rfl
  apply ct_seq
  apply ct_region
  apply seq_plain; exact do_move rfl; exact rfl
  apply seq_call (ht := rfl); exact ct _; exact rfl
  apply seq_plain; exact do_move rfl; exact rfl
  iterate 2 (apply seq_plain; exact do_assign rfl; exact rfl)
  apply seq_nil
  apply ct_ret
  exact fin_one (vs := [.slice (some ⟨nb H 0, 0, none⟩) (trimN (dvQ a d a.length)) a.length, I (dvR a d a.length)]) (k := 0) hc rfl rfl ints_flat (by simp [packA, renV, renL, renOf_new]) ⟨rfl, rfl⟩
end Go.Proofs.YtmcecjplgalcgaaGreatDoor
/- The reference's numbers: digits are multiplied by a digit. -/
noncomputable section
namespace Go.Proofs.YtmcecjplgalcgaaGreatDoor
open Go Go.Den
set_option maxRecDepth 100000
def muC (x : List Int) (d : Int) : Nat → List Int
 | 0 => List.replicate (x.length + 1) 0
 | i + 1 =>
  let t := (muC x d i)
  let y := t[i]?.getD 0 + x[i]?.getD 0 * d + 0
  let t2 := t.set i (y % 1000000000)
  t2.set (i + 1) (t2[i + 1]?.getD 0 + y / 1000000000)
theorem muC_len (x : List Int) (d : Int) : ∀ i, (muC x d i).length = x.length + 1
 | 0 => by simp [muC]
 | i + 1 => by simp [muC, muC_len x d i]
theorem muC_bd {x : List Int} {d : Int} (hx : DigL x) (hd0 : 0 ≤ d) (hd : d < 1000000000) : ∀ i, i ≤ x.length → (∀ k, i ≤ k → 0 ≤ (muC x d i)[k]?.getD 0 ∧ (muC x d i)[k]?.getD 0 < 1000000000) ∧ (∀ k, i < k → (muC x d i)[k]?.getD 0 = 0)
 | 0, _ => by
  have e : ∀ k : Nat, (muC x d 0)[k]?.getD 0 = 0 := fun (k : Nat) => by
   simp only [muC, List.getElem?_replicate]
   split <;> rfl
  exact ⟨fun k _ => by rw [e k]; omega, fun k _ => e k⟩
 | i + 1, h => by
  obtain ⟨ih1, ih2⟩ := muC_bd hx hd0 hd i (by omega)
  have hl := muC_len x d i
  have hxi := hx.bd x[i] (List.getElem_mem (by omega))
  have ex : x[i]?.getD 0 = x[i] := by rw [List.getElem?_eq_getElem (show i < x.length by omega)]; rfl
  have h1 := ih1 i (Nat.le_refl _)
  have hm : 0 ≤ x[i] * d ∧ x[i] * d ≤ 999999999 * 999999999 := by
   refine ⟨Int.mul_nonneg hxi.1 hd0, Int.mul_le_mul (by omega) (by omega) hd0 (by omega)⟩
  have h2 := ih2 (i + 1) (by omega)
  have key : ∀ k, i + 1 ≤ k → (muC x d (i + 1))[k]?.getD 0 = if k = i + 1 then ((muC x d i)[i]?.getD 0 + x[i] * d + 0) / 1000000000 else 0 := fun k hk => by
   simp only [muC, ex]
   by_cases e : k = i + 1
   ·subst e
    rw [if_pos rfl, List.getElem?_set_self (by rw [List.length_set, hl]; omega)]
    simp only [Option.getD_some]
    rw [List.getElem?_set_ne (by omega), h2]; omega
   ·rw [if_neg e, List.getElem?_set_ne (by omega), List.getElem?_set_ne (by omega)]
    exact ih2 k (by omega)
  refine ⟨fun k hk => ?_, fun k hk => ?_⟩
  ·rw [key k hk]
   split <;> omega
  ·rw [key k (by omega), if_neg (by omega)]
set_option maxHeartbeats 4000000 in
theorem mulOne_c {H : AHeap} {p q : Option Addr} {c e : Nat} {x : List Int} {d : Int} (hp : SlAt H 1 i1 p x) (hq : SlAt H 1 i1 q [d]) (hn : x.length ≤ 500) (hx : DigL x) (hd0 : 0 ≤ d) (hd : d < 1000000000) :
  Ret Tryz.prog 111 [.slice p x.length c, .slice q 1 e] H (.slice (some ⟨H.fresh, 0, none⟩) (trimN (muC x d x.length)) (x.length + 1)) (H.add (.cells ((muC x d x.length).map I) 1 false false)) := by
 refine fn_start Tryz.func111 rfl rfl rfl fun hc => ?_
 obtain ⟨b2, o2, cs2, z2, s2, ro2, rfl, hg2, hw2⟩ := hq.out (by simp)
 have hV : pt false 1 cs2 (o2 + 0 * 1) = some (I d) := pt_sl0 (n := 1) (g := I) (i := 0) hw2 (by simp)
 have eN : (x.length : Int) + ((1 : Nat) : Int) = ((x.length + 1 : Nat) : Int) := by omega
 apply ct_seq
 apply ct_region
 apply seq_plain; exact do_assign rfl; exact rfl
 apply seq_nil
 apply ct_seq
 apply ct_region
 apply seq_plain; exact do_move rfl; exact rfl
 apply seq_plain; exact do_lenS rfl rfl rfl; exact rfl
 apply seq_plain; exact do_move rfl; exact rfl
 apply seq_plain; exact do_lenS rfl rfl rfl; exact rfl
 apply seq_plain; exact do_add rfl rfl (by omega); exact rfl
 rw [eN]
 apply seq_newS; exact mkInts rfl (by omega) rfl rfl rfl rfl; exact rfl
 apply seq_plain; exact do_assign rfl; exact rfl
 apply seq_nil
 iterate 2 (apply ct_seq)
 apply ct_region
 apply seq_plain; exact do_assign rfl; exact rfl
 apply seq_nil
 apply ct_block
 apply ct_loop
 refine lt_meas (α := Nat) (fun i => [(0, .slice p x.length c), (1, .slice (some ⟨b2, o2, none⟩) 1 e), (5, .slice (some ⟨nb H 0, 0, none⟩) (x.length + 1) (x.length + 1)), (6, I i)]) (fun i => ext H H.fresh [some (.cells ((muC x d i).map I) 1 false false)]) (fun i => i ≤ x.length) (fun i => x.length - i) (fun i hi ih => ?_) 0 (Nat.zero_le _) (by repeat (first | exact sub_nil | apply sub_cons rfl)) (.refl _)
 iterate 2 (apply ct_seq)
 apply ct_region
 iterate 2 (apply seq_plain; exact do_move rfl; exact rfl)
 apply seq_plain; exact do_lenS rfl rfl rfl; exact rfl
 apply seq_plain; exact do_binInt rfl rfl rfl trivial; exact rfl
 apply seq_nil
 refine ct_cond rfl (fun h1 => ?_) (fun h1 => ?_)
 ·have h1 : i < x.length := by simpa using h1
  obtain ⟨b1, o1, cs1, z1, s1, ro1, rfl, hg1, hw1⟩ := hp.out (by intro e; rw [e] at h1; simp at h1)
  obtain ⟨B1, B2⟩ := muC_bd hx hd0 hd i (by omega)
  have hl := muC_len x d i
  have t0 := B1 i (Nat.le_refl _)
  have t1' := B2 (i + 1) (by omega)
  have et : (muC x d i)[i]?.getD 0 = (muC x d i)[i]'(by omega) := by rw [List.getElem?_eq_getElem (show i < (muC x d i).length by omega)]; rfl
  have hxi := hx.bd x[i] (List.getElem_mem h1)
  have ex : x[i]?.getD 0 = x[i] := by rw [List.getElem?_eq_getElem h1]; rfl
  have hm : -9223372036854775808 ≤ x[i] * d ∧ x[i] * d ≤ 9223372036854775807 := by
   have a1 := Int.mul_nonneg hxi.1 hd0
   have a2 : x[i] * d ≤ 999999999 * 999999999 := Int.mul_le_mul (by omega) (by omega) hd0 (by omega)
   omega
  have hm0 := Int.mul_nonneg hxi.1 hd0
  have hm2 : x[i] * d ≤ 999999999 * 999999999 := Int.mul_le_mul (by omega) (by omega) hd0 (by omega)
  have ih' := ih (i + 1) (by omega) (by omega)
  apply ct_skip
  apply ct_seq
  apply ct_block
  apply ct_seq
  apply ct_region
  apply seq_plain; exact do_assign rfl; exact rfl
  apply seq_nil
  iterate 2 (apply ct_seq)
  apply ct_region
  apply seq_plain; exact do_assign rfl; exact rfl
  apply seq_nil
  apply ct_block
  apply ct_loop
  apply lt_step
  iterate 2 (apply ct_seq)
  apply ct_region
  iterate 2 (apply seq_plain; exact do_move rfl; exact rfl)
  apply seq_plain; exact do_lenS rfl rfl rfl; exact rfl
  apply seq_plain; exact do_binInt rfl rfl rfl trivial; exact rfl
  apply seq_nil
  refine ct_cond_t rfl rfl ?_
  apply ct_skip
  apply ct_seq
  apply ct_block
  apply ct_seq
  apply ct_draw (by assumption); decide +kernel
  iterate 3 (apply sd_plain (hfree := rfl); intro _; exact do_move rfl; exact rfl)
  apply sd_plain (hfree := rfl); intro _; exact do_add rfl rfl (by omega); exact rfl
  apply sd_plain (hfree := rfl); intro _; exact do_indexAddrS rfl rfl rfl (by exact idx_int (by omega)); exact rfl
  apply sd_look (hfree := rfl); exact do_load rfl (by exact ext_get_new rfl) rfl (by exact pt_map (by omega)); exact rfl
  iterate 2 (apply sd_plain (hfree := rfl); intro _; exact do_move rfl; exact rfl)
  apply sd_plain (hfree := rfl); intro _; exact do_indexAddrS rfl rfl rfl (by exact idx_nat (by omega)); exact rfl
  apply sd_look (hfree := rfl); exact do_load rfl (by exact ext_get_old (by assumption) (by assumption)) rfl (by exact pt_sl0 (by assumption) (by omega)); exact rfl
  iterate 2 (apply sd_plain (hfree := rfl); intro _; exact do_move rfl; exact rfl)
  apply sd_plain (hfree := rfl); intro _; exact do_indexAddrS rfl rfl rfl (by exact rfl); exact rfl
  apply sd_look (hfree := rfl); exact do_load rfl (by exact ext_get_old (by assumption) (by assumption)) rfl (by exact (by assumption)); exact rfl
  apply sd_plain (hfree := rfl); intro _; exact do_mul rfl rfl (by assumption); exact rfl
  apply sd_plain (hfree := rfl); intro _; exact do_binInt rfl rfl rfl trivial; exact rfl
  apply sd_plain (hfree := rfl); intro _; exact do_move rfl; exact rfl
  apply sd_plain (hfree := rfl); intro _; exact do_binInt rfl rfl rfl trivial; exact rfl
  apply sd_plain (hfree := rfl); intro _; exact do_assign rfl; exact rfl
  apply sd_nil
  apply ct_seq
  apply ct_region
  iterate 3 (apply seq_plain; exact do_move rfl; exact rfl)
  apply seq_plain; exact do_add rfl rfl (by omega); exact rfl
  apply seq_plain; exact do_move rfl; exact rfl
  apply seq_plain; exact do_rem rfl rfl (by omega); exact rfl
  apply seq_plain; exact do_indexAddrS rfl rfl rfl (by exact idx_int (by omega)); exact rfl
  obtain ⟨Y, hY⟩ : ∃ Y, Y = (muC x d i)[i]?.getD 0 + x[i]?.getD 0 * d + 0 := ⟨_, rfl⟩
  have eS : muC x d (i + 1) = ((muC x d i).set i (Y % 1000000000)).set (i + 1) (((muC x d i).set i (Y % 1000000000))[i + 1]?.getD 0 + Y / 1000000000) := by rw [hY]; rfl
  have ei0 : ((i : Int) + 0).toNat = i := by omega
  have eg : (muC x d i)[((i : Int) + 0).toNat]'(by omega) = (muC x d i)[i]?.getD 0 := by rw [et]; simp only [ei0]
  have hY0 : 0 ≤ Y := by rw [hY, ex]; omega
  have hY1 : Y < 1000000000000000000 := by rw [hY, ex]; omega
  have eW : IntKind.i64.wrap (IntKind.i64.wrap ((muC x d i)[((i : Int) + 0).toNat]'(by omega) + x[i] * d) + 0) = Y := by
   rw [eg, wrap_i64 (n := (muC x d i)[i]?.getD 0 + x[i] * d) (by omega), Int.add_zero, wrap_i64 (by omega), hY, ex, Int.add_zero]
  have eW2 : wrapI IntKind.i64 (IntKind.i64.wrap ((muC x d i)[((i : Int) + 0).toNat]'(by omega) + x[i] * d) + 0) = I Y := by rw [wrapI, eW]
  have eY : Y.tmod 1000000000 = Y % 1000000000 := Int.tmod_eq_emod_of_nonneg hY0
  have eYd : Y.tdiv 1000000000 = Y / 1000000000 := Int.tdiv_eq_ediv_of_nonneg hY0
  rw [eW, eW2, eY]
  refine seqL_to (l' := [(0, .slice (some ⟨b1, o1, none⟩) x.length c), (1, .slice (some ⟨b2, o2, none⟩) 1 e), (5, .slice (some ⟨nb H 0, 0, none⟩) (x.length + 1) (x.length + 1)), (6, I i), (7, I 0), (8, I 0), (9, I Y), (51, I (Y % 1000000000)), (52, .pointer (some ⟨nb H 0, 0 + i * 1, none⟩))]) (by repeat (first | exact sub_nil | apply sub_cons rfl)) (.refl _) (by simp) ?_
  clear eW eW2 eg et
  obtain ⟨T2, hT2⟩ : ∃ T2, T2 = (muC x d i).set i (Y % 1000000000) := ⟨_, rfl⟩
  have hl2 : T2.length = x.length + 1 := by rw [hT2, List.length_set, hl]
  have hT2v : T2[i + 1]?.getD 0 = 0 := by rw [hT2, List.getElem?_set_ne (by omega)]; exact t1'
  have hT2g : T2[i + 1]'(by omega) = 0 := by rw [List.getElem?_eq_getElem (show i + 1 < T2.length by omega)] at hT2v; exact hT2v
  rw [← hT2, hT2v] at eS
  apply seq_putC (hc := by assumption); rotate_left; exact do_store rfl rfl (ext_get_new rfl) rfl (stl_map (by omega) rfl rfl) (nb_own _); rotate_left; exact Nat.le_of_ble_eq_true rfl
  rw [← hT2]
  have b0 : (0 : Int) < 1000000000 := by omega
  have b1' : -9223372036854775808 < Y := by omega
  have b2' : Y ≤ 9223372036854775807 := by omega
  have eT : T2[((i : Int) + ((1 : Nat) : Int)).toNat]'(by omega) = 0 := hT2g
  have hq : 0 ≤ Y / 1000000000 ∧ Y / 1000000000 < 1000000000 := by omega
  apply ct_region
  apply seq_plain; exact do_move rfl; exact rfl
  apply seq_plain; exact do_quoI rfl rfl (by assumption) (by assumption) (by assumption); exact rfl
  apply seq_plain; exact do_assign rfl; exact rfl
  apply seq_nil
  apply ct_region
  apply seq_plain; exact do_move rfl; exact rfl
  apply seq_plain; exact do_add rfl rfl (by omega); exact rfl
  apply seq_plain; exact do_assign rfl; exact rfl
  apply seq_nil
  apply lt_step
  rw [eYd]
  iterate 2 (apply ct_seq)
  apply ct_region
  iterate 2 (apply seq_plain; exact do_move rfl; exact rfl)
  apply seq_plain; exact do_lenS rfl rfl rfl; exact rfl
  apply seq_plain; exact do_binInt rfl rfl rfl trivial; exact rfl
  apply seq_nil
  refine ct_cond_f rfl rfl ?_
  apply ct_exit
  apply exit_eq; exact rfl
  apply ct_region
  iterate 3 (apply seq_plain; exact do_move rfl; exact rfl)
  apply seq_plain; exact do_lenS rfl rfl rfl; exact rfl
  apply seq_plain; exact do_add rfl rfl (by omega); exact rfl
  iterate 3 (apply seq_plain; exact do_move rfl; exact rfl)
  apply seq_plain; exact do_lenS rfl rfl rfl; exact rfl
  apply seq_plain; exact do_add rfl rfl (by omega); exact rfl
  apply seq_plain; exact do_indexAddrS rfl rfl rfl (by exact idx_nat (by omega)); exact rfl
  apply seq_plain; exact do_load rfl (by exact ext_get_new rfl) rfl (by exact pt_map (by omega)); exact rfl
  apply seq_plain; exact do_move rfl; exact rfl
  apply seq_plain; exact do_add rfl rfl (by omega); exact rfl
  apply seq_plain; exact do_indexAddrS rfl rfl rfl (by exact idx_nat (by omega)); exact rfl
  rw [hT2g]
  apply seq_putC (hc := by assumption); rotate_left; exact do_store rfl rfl (ext_get_new rfl) rfl (stl_map (by omega) rfl rfl) (nb_own _); rotate_left; exact Nat.le_of_ble_eq_true rfl
  apply ct_region
  apply seq_plain; exact do_move rfl; exact rfl
  apply seq_plain; exact do_succ rfl (by omega); exact rfl
  apply seq_plain; exact do_assign rfl; exact rfl
  apply seq_nil
  rw [← eS]
  exact lt_to (by repeat (first | exact sub_nil | apply sub_cons rfl)) (.refl _) ih'
 ·have h1 : i = x.length := by simp at h1; omega
  subst h1
  have ct := fun lo => trim_c (H := ext H lo [some (.cells ((muC x d x.length).map I) 1 false false)]) (q := some ⟨nb H 0, 0, none⟩) (c := x.length + 1) (l := muC x d x.length) (slAt_map (ext_get_new rfl)) (OldS.new (by simp)) ⟨by rw [muC_len]; exact Nat.le_refl _, (fun e => by cases e), (fun _ e => by cases e; rfl)⟩ (by rw [muC_len]; omega)
  rw [muC_len] at ct
  apply ct_exit
  apply exit_eq; exact rfl
  apply ct_seq
  apply ct_region
  apply seq_plain; exact do_move rfl; exact rfl
  apply seq_call (ht := rfl); exact ct _; exact rfl
  apply seq_plain; exact do_assign rfl; exact rfl
  apply seq_nil
  apply ct_ret
  exact fin_one (vs := [.slice (some ⟨nb H 0, 0, none⟩) (trimN (muC x d x.length)) (x.length + 1)]) (k := 0) hc rfl rfl ints_flat (by simp [packA, renV, renOf_new]) ⟨rfl, rfl⟩
end Go.Proofs.YtmcecjplgalcgaaGreatDoor
