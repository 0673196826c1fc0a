/- The reference's numbers: decimal texts are read. -/
import Derived.Test.YtmcecjplgalcgaaGreatDoorQaB
noncomputable section
namespace Go.Proofs.YtmcecjplgalcgaaGreatDoor
open Go Go.Den
set_option maxRecDepth 100000
def wL (u : Nat) : List Int := if u < 1000000000 then [(u : Int)] else [((u % 1000000000 : Nat) : Int), ((u / 1000000000 : Nat) : Int)]
def wN (u : Nat) : Nat := if u = 0 then 0 else (wL u).length
theorem wL_small {u : Nat} (h : u < 1000000000) : wL u = [(u : Int)] := if_pos h
theorem wL_big {u : Nat} (h : 1000000000 ≤ u) : wL u = [((u % 1000000000 : Nat) : Int), ((u / 1000000000 : Nat) : Int)] := if_neg (by omega)
theorem trimN_wL (u : Nat) : trimN (wL u) = wN u := by
 unfold trimN wN
 rcases Nat.lt_or_ge u 1000000000 with h | h
 ·rw [wL_small h]
  by_cases h0 : u = 0
  ·subst h0; rfl
  ·simp [trimAt, h0]
 ·rw [wL_big h]
  have : u / 1000000000 ≠ 0 := by omega
  have h0 : u ≠ 0 := by omega
  have h2 : ((u / 1000000000 : Nat) : Int) ≠ 0 := by omega
  simp only [List.length_cons, List.length_nil, trimAt, if_neg h0]
  rw [if_neg]
  simp only [List.getElem?_cons_succ, List.getElem?_cons_zero, Option.some.injEq]
  exact h2
theorem wN_pos {u : Nat} : decide (0 < wN u) = decide (0 < u) := by
 unfold wN
 split
 ·rename_i h; subst h; rfl
 ·have : 0 < (wL u).length := by unfold wL; split <;> simp
  rw [Bool.eq_iff_iff, decide_eq_true_iff, decide_eq_true_iff]; omega
theorem ren_new1 {H : AHeap} {k n c : Nat} {neg : Bool} : renV (renOf H [nb H k]) 8 (packA [intQ neg (some ⟨nb H k, 0, none⟩) n c]) = some (intQ neg (some ⟨H.fresh, 0, none⟩) n c) := by
 simp [packA, renV, renL, renOf_new]
structure NumT (s : List UInt8) (neg : Bool) (u : Nat) : Prop where
 pos : 0 < s.length
 neg_ : (((s[0]'pos).toNat : Int) == 45) = neg
 cut : (if neg = true then s.drop 1 else s) = Lib.decDigits u
 bd : u < 1000000000000000000
theorem NumT.len {s : List UInt8} {neg : Bool} {u : Nat} (h : NumT s neg u) : s.length ≤ 19 := by
 have h1 := decDigits_len u 18 (Nat.lt_of_lt_of_le h.bd (by decide)) (by omega)
 have h2 := h.cut
 split at h2
 ·have := congrArg List.length h2
  rw [List.length_drop] at this; omega
 ·rw [h2]; omega
set_option maxHeartbeats 4000000 in
theorem parse_c {H : AHeap} {s : List UInt8} {neg : Bool} {u : Nat} (h : NumT s neg u) :
  Ret Tryz.prog 102 [.string (tx s)] H (intQ (neg && decide (0 < u)) (some ⟨H.fresh, 0, none⟩) (wN u) (wL u).length) (H.add (.cells ((wL u).map I) 1 true false)) := by
 refine fn_start Tryz.func102 rfl rfl rfl fun hc => ?_
 have hlen := h.len
 have hd := decDigits_dig u
 have hl := decDigits_len u 18 (Nat.lt_of_lt_of_le h.bd (by decide)) (by omega)
 have hp := decDigits_pos u
 have hv := decDigits_val u
 have h9 := fun q => @decDigits_len9 u q
 have h9' := fun q => @decDigits_len9' u q
 have hq := fun q => @decDigits_parts u q
 have h0 := h.pos
 have e0 : decide ((s.length : Int) > 0) = true := decide_eq_true (by omega)
 have e1 : (((s[0]'h0).toNat : Int) == 45) = neg := h.neg_
 have ecut := h.cut
 have hbd := h.bd
 obtain ⟨D, hD⟩ : ∃ D, D = Lib.decDigits u := ⟨_, rfl⟩
 rw [← hD] at ecut hd hl hp hv h9 h9' hq
 clear h hD
 apply ct_seq
 apply ct_region
 apply seq_newP; exact do_alloc rfl rfl; exact rfl
 apply seq_nil
 apply ct_seq
 apply ct_region
 apply seq_plain; exact do_move rfl; exact rfl
 apply seq_plain; exact do_lenB rfl rfl rfl; exact rfl
 apply seq_plain; exact do_binInt rfl rfl rfl trivial; exact rfl
 apply seq_plain; exact do_move rfl; exact rfl
 rw [e0]
 apply seq_guard (hd := rfl) (hl := rfl); exact do_move rfl; exact rfl
 apply seq_guard (hd := rfl) (hl := rfl); exact do_indexB rfl rfl rfl (by exact idx_nat (by omega)) (by omega); exact rfl
 apply seq_guard (hd := rfl) (hl := rfl); exact do_binInt rfl rfl rfl trivial; exact rfl
 apply seq_plain; exact do_pick_t rfl rfl; exact rfl
 apply seq_plain; exact do_assign rfl; exact rfl
 apply seq_nil
 iterate 2 (apply ct_seq)
 apply ct_region
 apply seq_plain; exact do_move rfl; exact rfl
 apply seq_nil
 rw [e1]
 skip
 refine ct_J [(0, .string (tx D)), (2, .pointer (some ⟨nb H 0, 0, none⟩)), (3, .bool neg)] (ds := []) (h := ext H H.fresh [some (.cells [.bool false, .slice none 0 0] 0 false false)]) ?_ ?_
 ·refine ct_cond rfl (fun u1 => ?_) (fun u1 => ?_)
  ·subst u1
   rw [if_pos rfl] at ecut
   apply ct_region
   apply seq_plain; exact do_move rfl; exact rfl
   apply seq_plain; exact do_strFrom 1 rfl rfl rfl rfl (by omega); exact rfl
   rw [ecut]
   apply seq_plain; exact do_assign rfl; exact rfl
   apply seq_nil
   exact jp_of (by repeat (first | exact sub_nil | apply sub_cons rfl))
  ·subst u1
   rw [if_neg (by simp)] at ecut
   subst ecut
   apply ct_skip
   exact jp_of (by repeat (first | exact sub_nil | apply sub_cons rfl))
 apply ct_seq
 apply ct_region
 apply seq_plain; exact do_assign rfl; exact rfl
 apply seq_nil
 apply ct_seq
 apply ct_block
 apply ct_loop
 apply lt_step
 rcases Nat.lt_or_ge u 1000000000 with hu | hu
 ·have hD9 : D.length ≤ 9 := by
   rcases Nat.lt_or_ge 9 D.length with q | q
   ·have := h9' q; omega
   ·exact q
  have e2 : decide ((D.length : Int) > 9) = false := decide_eq_false (by omega)
  iterate 2 (apply ct_seq)
  apply ct_region
  apply seq_plain; exact do_move rfl; exact rfl
  apply seq_plain; exact do_lenB rfl rfl rfl; exact rfl
  apply seq_plain; exact do_binInt rfl rfl rfl trivial; exact rfl
  apply seq_nil
  refine ct_cond_f rfl e2 ?_
  apply ct_exit
  apply exit_eq; exact rfl
  apply ct_seq
  apply ct_region
  iterate 3 (apply seq_plain; exact do_move rfl; exact rfl)
  apply seq_call (ht := rfl); exact value_c (by omega) (by assumption); exact rfl
  apply seq_newS; exact do_buildSlice rfl rfl rfl rfl rfl rfl rfl; exact rfl
  rw [hv]
  refine seq_grow (f := i1) (m := 1) (xs := [(u : Int)]) (k0 := 1) hc Lst.nil (by simp) (fun _ => rfl) (fun _ => rfl) rfl rfl rfl rfl rfl rfl (ext_get_new rfl) rfl (by simp) (Nat.le_of_ble_eq_true rfl) (Nat.ne_of_beq_eq_false rfl) (Nat.ne_of_beq_eq_false rfl) rfl (fun v' L3 hv' hst3 hlen3 => ?_)
  rcases hv'.out with ⟨e, _⟩ | ⟨_, kk, hk1, rfl, hkL⟩
  ·simp at e
  have f0 : L3[0]? = some (some (.cells [.bool false, .slice none 0 0] 0 false false)) := hst3 0 _ (by omega) rfl
  have fl : 0 < L3.length := (List.getElem?_eq_some_iff.1 f0).1
  have fk : kk < L3.length := (List.getElem?_eq_some_iff.1 hkL).1
  have sg := fun lo => signed_c (H := ext H lo L3) (neg := neg) (q := some ⟨nb H kk, 0, none⟩) (c := 1) (l := [(u : Int)]) (slAt_flat (fun _ => rfl) (ext_get_new hkL)) (OldS.new fk) ⟨Nat.le_refl _, (fun e => by cases e), (fun _ e => by cases e; rfl)⟩ (by simp)
  rw [← wL_small hu, trimN_wL, wN_pos, wL_small hu] at sg
  apply seq_call (ht := rfl); exact sg _; exact rfl
  apply seq_putC (hc := by assumption); rotate_left; exact do_store rfl rfl (by exact ext_get_new (by assumption)) rfl rfl (nb_own _); rotate_left; exact (by assumption)
  apply ct_ret
  refine fin_oneR (vs := [intQ (neg && decide (0 < u)) (some ⟨nb H kk, 0, none⟩) (wN u) 1]) (k := kk) hc (res_cell rfl rfl (ext_get_new (List.getElem?_set_self fl)) rfl rfl) (by rw [List.getElem?_set_ne (by omega)]; exact hkL) rfl ren_new1 ?_
  rw [wL_small hu]
  exact ⟨rfl, rfl⟩
 ·have hD9 : 9 < D.length := h9 (by omega)
  have e2 : decide ((D.length : Int) > 9) = true := decide_eq_true (by omega)
  obtain ⟨v1, v2⟩ := hq hD9
  have d1 := all_drop hd (D.length - 9)
  have d2 := all_take hd (D.length - 9)
  have l1 : (D.drop (D.length - 9)).length = 9 := by rw [List.length_drop]; omega
  have l2 : (D.take (D.length - 9)).length ≤ 9 := by rw [List.length_take]; omega
  have e3 : decide (((D.take (D.length - 9)).length : Int) > 9) = false := decide_eq_false (by omega)
  iterate 2 (apply ct_seq)
  apply ct_region
  apply seq_plain; exact do_move rfl; exact rfl
  apply seq_plain; exact do_lenB rfl rfl rfl; exact rfl
  apply seq_plain; exact do_binInt rfl rfl rfl trivial; exact rfl
  apply seq_nil
  refine ct_cond_t rfl e2 ?_
  apply ct_skip
  apply ct_block
  apply ct_seq
  apply ct_region
  iterate 3 (apply seq_plain; exact do_move rfl; exact rfl)
  apply seq_plain; exact do_lenB rfl rfl rfl; exact rfl
  apply seq_plain; exact do_sub rfl rfl (by omega); exact rfl
  apply seq_plain; exact do_strFrom (D.length - 9) rfl rfl rfl (by omega) (by omega); exact rfl
  apply seq_call (ht := rfl); exact value_c (by omega) (by assumption); exact rfl
  apply seq_newS; exact do_buildSlice rfl rfl rfl rfl rfl rfl rfl; exact rfl
  rw [v1]
  refine seq_grow (f := i1) (m := 1) (xs := [((u % 1000000000 : Nat) : Int)]) (k0 := 1) hc Lst.nil (by simp) (fun _ => rfl) (fun _ => rfl) rfl rfl rfl rfl rfl rfl (ext_get_new rfl) rfl (by simp) (Nat.le_of_ble_eq_true rfl) (Nat.ne_of_beq_eq_false rfl) (Nat.ne_of_beq_eq_false rfl) rfl (fun v1' L1 hv1' hst1 hlen1 => ?_)
  apply seq_plain; exact do_assign rfl; exact rfl
  apply seq_nil
  apply ct_region
  iterate 2 (apply seq_plain; exact do_move rfl; exact rfl)
  apply seq_plain; exact do_lenB rfl rfl rfl; exact rfl
  apply seq_plain; exact do_sub rfl rfl (by omega); exact rfl
  apply seq_plain; exact do_strTo (D.length - 9) rfl rfl rfl (by omega) (by omega); exact rfl
  apply seq_plain; exact do_assign rfl; exact rfl
  apply seq_nil
  apply lt_step
  iterate 2 (apply ct_seq)
  apply ct_region
  apply seq_plain; exact do_move rfl; exact rfl
  apply seq_plain; exact do_lenB rfl rfl rfl; exact rfl
  apply seq_plain; exact do_binInt rfl rfl rfl trivial; exact rfl
  apply seq_nil
  refine ct_cond_f rfl e3 ?_
  apply ct_exit
  apply exit_eq; exact rfl
  apply ct_seq
  apply ct_region
  iterate 3 (apply seq_plain; exact do_move rfl; exact rfl)
  apply seq_call (ht := rfl); exact value_c (by omega) (by assumption); exact rfl
  apply seq_newS; exact do_buildSlice rfl rfl rfl rfl rfl rfl rfl; exact rfl
  rw [v2]
  have f1 : L1[0]? = some (some (.cells [.bool false, .slice none 0 0] 0 false false)) := hst1 0 _ (by omega) rfl
  refine seq_grow (f := i1) (m := 1) (xs := [((u / 1000000000 : Nat) : Int)]) (k0 := 1) hc (hv1'.app _) (by rw [List.length_append]; simp) (fun _ => rfl) (fun _ => rfl) rfl rfl rfl rfl rfl rfl (ext_get_new List.getElem?_concat_length) rfl (by simp) (Nat.le_of_ble_eq_true rfl) (Nat.ne_of_beq_eq_false rfl) (Nat.ne_of_beq_eq_false rfl) rfl (fun v' L3 hv' hst3 hlen3 => ?_)
  rcases hv'.out with ⟨e, _⟩ | ⟨_, kk, hk1, rfl, hkL⟩
  ·simp at e
  have f0 : L3[0]? = some (some (.cells [.bool false, .slice none 0 0] 0 false false)) := hst3 0 _ (by omega) (getApp f1)
  have fl : 0 < L3.length := (List.getElem?_eq_some_iff.1 f0).1
  have fk : kk < L3.length := (List.getElem?_eq_some_iff.1 hkL).1
  have sg := fun lo => signed_c (H := ext H lo L3) (neg := neg) (q := some ⟨nb H kk, 0, none⟩) (c := 2) (l := [((u % 1000000000 : Nat) : Int), ((u / 1000000000 : Nat) : Int)]) (slAt_flat (fun _ => rfl) (ext_get_new hkL)) (OldS.new fk) ⟨Nat.le_refl _, (fun e => by cases e), (fun _ e => by cases e; rfl)⟩ (by simp)
  rw [← wL_big hu, trimN_wL, wN_pos, wL_big hu] at sg
  apply seq_call (ht := rfl); exact sg _; exact rfl
  apply seq_putC (hc := by assumption); rotate_left; exact do_store rfl rfl (by exact ext_get_new (by assumption)) rfl rfl (nb_own _); rotate_left; exact (by assumption)
  apply ct_ret
  refine fin_oneR (vs := [intQ (neg && decide (0 < u)) (some ⟨nb H kk, 0, none⟩) (wN u) 2]) (k := kk) hc (res_cell rfl rfl (ext_get_new (List.getElem?_set_self fl)) rfl rfl) (by rw [List.getElem?_set_ne (by omega)]; exact hkL) rfl ren_new1 ?_
  rw [wL_big hu]
  exact ⟨rfl, rfl⟩
end Go.Proofs.YtmcecjplgalcgaaGreatDoor
