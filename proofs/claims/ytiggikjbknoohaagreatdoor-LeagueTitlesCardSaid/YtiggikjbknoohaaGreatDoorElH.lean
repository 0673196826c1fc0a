/- Contracts: the best set of teams that proves it (the reference's). -/
import Derived.Test.YtiggikjbknoohaaGreatDoorElG
noncomputable section
namespace Go.Proofs.YtiggikjbknoohaaGreatDoor
open Go Go.Den
set_option maxRecDepth 10000

set_option maxHeartbeats 4000000 in
theorem refEliminated_c {H : AHeap} {q r : Option Addr} {c d : Nat} {pts : List Int} {opn : List (Int × Int)} {tm : Nat} (hs : SlAt H 1 i1 q pts) (ht : SlAt H 2 p2 r opn) (hg : GoodR pts opn) (htm : tm < pts.length) (h8 : pts.length ≤ 8) :
    Ret Tryz.prog 65 [Rv q pts.length c r opn.length d, I tm] H (lstV H.fresh (bestL pts opn tm)) (lstH H 1 i1 (bestL pts opn tm)) := by
  have hlen := hg.len
  have h256 := hpow h8
  have hk2 : (0 : Int) ≤ (tm : Int) := by omega
  have hk3 : (tm : Int) < pts.length := by omega
  refine fn_start Tryz.func65 rfl rfl rfl fun hc => ?_
  apply ct_seq
  apply ct_region
  apply seq_newP; exact do_box rfl rfl rfl; exact rfl
  apply seq_plain; exact do_assign rfl; exact rfl
  apply seq_nil
  apply ct_seq
  apply ct_region
  apply seq_plain; exact do_assign rfl; exact rfl
  apply seq_nil
  apply ct_seq
  apply ct_seq
  apply ct_region
  apply seq_plain; exact do_assign rfl; exact rfl
  apply seq_nil
  apply ct_block
  apply ct_loop
  generalize hN : (2 : Nat) ^ pts.length = N at h256
  refine lt_meas (α := Nat × Value × List (Option ABlk)) (fun a => [(1, I tm), (2, .pointer (some ⟨nb H 0, 0, none⟩)), (5, a.2.1), (6, I a.1)]) (fun a => ext H H.fresh a.2.2)
    (fun a => a.1 ≤ N ∧ Lst H a.2.2 1 i1 1 a.2.1 (bestTo pts opn tm a.1) ∧ a.2.2[0]? = some (some (.cells [.slice q pts.length c, .slice r opn.length d] 0 false false))) (fun a => N - a.1) (fun a ha ih => ?_) (1, .slice none 0 0, _) ⟨by have := Nat.two_pow_pos pts.length; omega, by rw [bestTo_one]; exact .nil, rfl⟩ (by repeat (first | exact sub_nil | apply sub_cons rfl)) (.refl _)
  obtain ⟨k, vb, L⟩ := a
  obtain ⟨hk, hb, hbox⟩ := ha
  simp only at hk hb hbox ih ⊢
  have ih' := fun k' v' L' a1 a2 a3 a4 => ih (k', v', L') a1 ⟨a2, a3, a4⟩
  simp only at ih'
  clear ih
  have hL0 : 0 < L.length := (List.getElem?_eq_some_iff.1 hbox).1
  apply ct_seq
  apply ct_seq
  apply ct_region
  apply seq_plain; exact do_move rfl; exact rfl
  apply seq_plain; exact do_fieldAddr rfl rfl; exact rfl
  apply seq_plain; exact do_load rfl (by exact ext_get_new (by assumption)) rfl (by exact rfl); exact rfl
  apply seq_plain; exact do_lenS rfl rfl rfl; exact rfl
  apply seq_plain; exact do_shl1 rfl (by omega); exact rfl
  apply seq_plain; exact do_binInt rfl rfl rfl trivial; exact rfl
  apply seq_nil
  rw [hN]
  refine ct_cond rfl (fun h1 => ?_) (fun h1 => ?_)
  · simp only [decide_eq_true_eq, Int.ofNat_lt] at h1
    apply ct_skip
    apply ct_seq
    apply ct_block
    apply ct_seq
    apply ct_region
    apply seq_plain; exact do_assign rfl; exact rfl
    apply seq_nil
    apply ct_seq
    apply ct_seq
    apply ct_region
    apply seq_plain; exact do_assign rfl; exact rfl
    apply seq_nil
    apply ct_block
    apply ct_loop
    refine lt_meas (α := Nat × Value × List (Option ABlk)) (fun a => [(1, I tm), (2, .pointer (some ⟨nb H 0, 0, none⟩)), (5, vb), (6, I k), (7, a.2.1), (8, I a.1)]) (fun a => ext H H.fresh a.2.2)
      (fun a => a.1 ≤ pts.length ∧ Lst H a.2.2 1 i1 L.length a.2.1 (setTo a.1 k) ∧ Stay L.length L a.2.2 ∧ L.length ≤ a.2.2.length) (fun a => pts.length - a.1) (fun a ha ih => ?_) (0, .slice none 0 0, _) ⟨by omega, .nil, .refl _ _, Nat.le_refl _⟩ (by repeat (first | exact sub_nil | apply sub_cons rfl)) (.refl _)
    obtain ⟨i, vs, L2⟩ := a
    obtain ⟨hi, hset, hst, hle⟩ := ha
    simp only at hi hset hst hle ih ⊢
    have ih2 := fun k' v' L' a1 a2 a3 a4 a5 => ih (k', v', L') a1 ⟨a2, a3, a4, a5⟩
    simp only at ih2
    clear ih
    have hbox2 := hst.to (by omega) hbox
    have hsh : k >>> i < 2 ^ 60 := by
      have h60 : (2 : Nat) ^ 60 = 1152921504606846976 := by decide
      have := Nat.shiftRight_le k i
      omega
    apply ct_seq
    apply ct_seq
    apply ct_region
    apply seq_plain; exact do_move rfl; exact rfl
    apply seq_plain; exact do_fieldAddr rfl rfl; exact rfl
    apply seq_plain; exact do_load rfl (by exact ext_get_new (by assumption)) rfl (by exact rfl); exact rfl
    apply seq_plain; exact do_lenS rfl rfl rfl; exact rfl
    apply seq_plain; exact do_binInt rfl rfl rfl trivial; exact rfl
    apply seq_nil
    refine ct_cond rfl (fun h2 => ?_) (fun h2 => ?_)
    · simp only [decide_eq_true_eq, Int.ofNat_lt] at h2
      have e1 := setTo_succ (k := i) (bits := k)
      apply ct_skip
      apply ct_seq
      apply ct_block
      apply ct_seq
      apply ct_region
      apply seq_plain; exact do_move rfl; exact rfl
      apply seq_plain; exact do_move rfl; exact rfl
      apply seq_plain; exact do_shrN rfl rfl (by omega); exact rfl
      apply seq_plain; exact do_and1 rfl (by assumption); exact rfl
      apply seq_plain; exact do_binInt rfl rfl rfl trivial; exact rfl
      apply seq_nil
      refine ct_cond rfl (fun h3 => ?_) (fun h3 => ?_)
      · have h3 : ((((k >>> i) % 2 : Nat) : Int) == 1) = true := h3
        have h3 : ((k >>> i) % 2 == 1) = true := by rw [← bit_1]; exact h3
        rw [h3] at e1
        have hl := setTo_len (k := i) (bits := k)
        apply ct_region
        apply seq_plain; exact do_move rfl; exact rfl
        apply seq_plain; exact do_move rfl; exact rfl
        apply seq_newS; exact do_buildSlice rfl rfl rfl rfl rfl rfl rfl; exact rfl
        refine seq_grow (xs := [((i : Nat) : Int)]) hc (hset.app _) (by rw [List.length_append]; omega) (fun _ => rfl) (fun _ => rfl) rfl rfl rfl rfl rfl rfl (ext_get_new List.getElem?_concat_length) rfl (by simp) ?_ (Nat.ne_of_beq_eq_false rfl) (Nat.ne_of_beq_eq_false rfl) rfl (fun v' L3 hv' hst3 hlen3 => ?_)
        · exact Nat.le_trans (Nat.mul_le_mul_right _ (by simp only [List.length_cons, List.length_nil]; omega : _ ≤ 3000)) (Nat.le_of_ble_eq_true rfl)
        rw [List.length_append] at hlen3
        apply seq_plain; exact do_assign rfl; exact rfl
        apply seq_nil
        apply ct_region
        apply seq_plain; exact do_move rfl; exact rfl
        apply seq_plain; exact do_succ rfl (by omega); exact rfl
        apply seq_plain; exact do_assign rfl; exact rfl
        apply seq_nil
        exact lt_sub (by repeat (first | exact sub_nil | apply sub_cons rfl)) (ih2 (i + 1) v' L3 (by omega) (by omega) (by rw [e1]; exact hv') ((hst.trans (Stay.app _)).trans hst3) (by omega))
      · have h3 : ((((k >>> i) % 2 : Nat) : Int) == 1) = false := h3
        have h3 : ((k >>> i) % 2 == 1) = false := by rw [← bit_1]; exact h3
        rw [h3] at e1
        apply ct_skip
        apply ct_region
        apply seq_plain; exact do_move rfl; exact rfl
        apply seq_plain; exact do_succ rfl (by omega); exact rfl
        apply seq_plain; exact do_assign rfl; exact rfl
        apply seq_nil
        exact lt_sub (by repeat (first | exact sub_nil | apply sub_cons rfl)) (ih2 (i + 1) vs L2 (by omega) (by omega) (by rw [e1]; simpa using hset) hst hle)
    · simp only [decide_eq_false_iff_not, Int.ofNat_lt] at h2
      have hi' : i = pts.length := by omega
      subst hi'
      have hb2 := hb.stayAll hst
      obtain ⟨p, rfl, hsl, hp⟩ := hset.slice (lo := H.fresh) (fun _ => rfl)
      obtain ⟨p', hvb, hsl', hp'⟩ := hb2.slice (lo := H.fresh) (fun _ => rfl)
      subst hvb
      have hsl0 := setTo_len (k := pts.length) (bits := k)
      have hbl0 := bestTo_len (pts := pts) (opn := opn) (team := tm) k
      apply ct_exit
      apply exit_eq; exact rfl
      apply ct_seq
      apply ct_region
      apply seq_plain; exact do_load rfl (by exact ext_get_new (by assumption)) rfl (by exact rfl); exact rfl
      apply seq_plain; exact do_move rfl; exact rfl
      apply seq_plain; exact do_move rfl; exact rfl
      apply seq_call (ht := rfl); exact refCheckEliminated_c (hs.ext (ext_Ext hc)) (ht.ext (ext_Ext hc)) hsl hg hk2 hk3 (by omega); exact rfl
      apply seq_plain; exact do_binInt rfl rfl rfl trivial; exact rfl
      apply seq_plain; exact do_move rfl; exact rfl
      refine seq_J [(1, I tm), (2, .pointer (some ⟨nb H 0, 0, none⟩)), (5, .slice p' (bestTo pts opn tm k).length (bestTo pts opn tm k).length), (6, I k), (7, .slice p (setTo pts.length k).length (setTo pts.length k).length), (46, .bool ((setE pts opn tm (setTo pts.length k) == 0) && ((bestTo pts opn tm k).isEmpty || beforeL (setTo pts.length k) (bestTo pts opn tm k))))] (ds := []) (h := ext H H.fresh L2) ?_ ?_
      · refine seq_gsplit rfl rfl (fun u1 => ?_) (fun u1 => ?_)
        · have u1 : (setE pts opn tm (setTo pts.length k) == 0) = true := u1
          rw [u1]
          cases p' with
          | none =>
            have hbe := hp'.1 rfl
            have e : ((bestTo pts opn tm k).isEmpty || beforeL (setTo pts.length k) (bestTo pts opn tm k)) = true := by rw [hbe]; rfl
            rw [e]
            apply seq_guard (hd := rfl) (hl := rfl); exact do_move rfl; exact rfl
            apply seq_guard (hd := rfl) (hl := rfl); exact do_eqlNilS rfl rfl rfl; exact rfl
            apply seq_guard (hd := rfl) (hl := rfl); exact do_move rfl; exact rfl
            apply seq_passed (hd := rfl) (hl := rfl) (hb := rfl); exact rfl
            apply seq_passed (hd := rfl) (hl := rfl) (hb := rfl); exact rfl
            apply seq_passed (hd := rfl) (hl := rfl) (hb := rfl); exact rfl
            apply seq_guard (hd := rfl) (hl := rfl); exact do_pick_t rfl rfl; exact rfl
            apply seq_plain; exact do_pick_t rfl rfl; exact rfl
            apply seq_nil
            exact jp_of (by repeat (first | exact sub_nil | apply sub_cons rfl))
          | some a =>
            have hbe : bestTo pts opn tm k ≠ [] := fun e => by have := hp'.2 e; cases this
            have hbe : (bestTo pts opn tm k).isEmpty = false := by cases h : bestTo pts opn tm k <;> simp_all
            have e : ((bestTo pts opn tm k).isEmpty || beforeL (setTo pts.length k) (bestTo pts opn tm k)) = beforeL (setTo pts.length k) (bestTo pts opn tm k) := by rw [hbe]; rfl
            rw [e]
            apply seq_guard (hd := rfl) (hl := rfl); exact do_move rfl; exact rfl
            apply seq_guard (hd := rfl) (hl := rfl); exact do_eqlNilS rfl rfl rfl; exact rfl
            apply seq_guard (hd := rfl) (hl := rfl); exact do_move rfl; exact rfl
            apply seq_guard (hd := rfl) (hl := rfl); exact do_move rfl; exact rfl
            apply seq_guard (hd := rfl) (hl := rfl); exact do_move rfl; exact rfl
            apply seq_gcall (hg := rfl) (hl := rfl) (ht := rfl); exact before_c hsl hsl' (by omega); exact rfl
            apply seq_guard (hd := rfl) (hl := rfl); exact do_pick_f rfl rfl; exact rfl
            apply seq_plain; exact do_pick_t rfl rfl; exact rfl
            apply seq_nil
            exact jp_of (by repeat (first | exact sub_nil | apply sub_cons rfl))
        · have u1 : (setE pts opn tm (setTo pts.length k) == 0) = false := u1
          rw [u1]
          apply seq_passed (hd := rfl) (hl := rfl) (hb := rfl); exact rfl
          apply seq_passed (hd := rfl) (hl := rfl) (hb := rfl); exact rfl
          apply seq_passed (hd := rfl) (hl := rfl) (hb := rfl); exact rfl
          apply seq_passedU (hd := rfl) (hl := rfl); exact rfl
          apply seq_passedU (hd := rfl) (hl := rfl); exact rfl
          apply seq_passedU (hd := rfl) (hl := rfl); exact rfl
          apply seq_passed (hd := rfl) (hl := rfl) (hb := rfl); exact rfl
          apply seq_plain; exact do_pick_f rfl rfl; exact rfl
          apply seq_nil
          exact jp_of (by repeat (first | exact sub_nil | apply sub_cons rfl))
      · have hstep := stepB_ref (best := bestTo pts opn tm k) (opn := opn) (k := k) hk2 hk3
        skip
        refine ct_cond rfl (fun h3 => ?_) (fun h3 => ?_)
        · have e : bestTo pts opn tm (k + 1) = setTo pts.length k := by
            show stepB _ _ _ _ _ = _
            rw [hstep, if_pos (by exact h3)]
          apply ct_region
          apply seq_plain; exact do_move rfl; exact rfl
          apply seq_plain; exact do_assign rfl; exact rfl
          apply seq_nil
          apply ct_region
          apply seq_plain; exact do_move rfl; exact rfl
          apply seq_plain; exact do_succ rfl (by omega); exact rfl
          apply seq_plain; exact do_assign rfl; exact rfl
          apply seq_nil
          exact lt_sub (by repeat (first | exact sub_nil | apply sub_cons rfl)) (ih' (k + 1) _ L2 (by omega) (by omega) (by rw [e]; exact hset.le hL0) hbox2)
        · have e : bestTo pts opn tm (k + 1) = bestTo pts opn tm k := by
            show stepB _ _ _ _ _ = _
            rw [hstep, if_neg (by rw [Bool.not_eq_true]; exact h3)]
          apply ct_skip
          apply ct_region
          apply seq_plain; exact do_move rfl; exact rfl
          apply seq_plain; exact do_succ rfl (by omega); exact rfl
          apply seq_plain; exact do_assign rfl; exact rfl
          apply seq_nil
          exact lt_sub (by repeat (first | exact sub_nil | apply sub_cons rfl)) (ih' (k + 1) _ L2 (by omega) (by omega) (by rw [e]; exact hb2) hbox2)
  · simp only [decide_eq_false_iff_not, Int.ofNat_lt] at h1
    have hkN : k = 2 ^ pts.length := by omega
    subst hkN
    have hb' : Lst H L 1 i1 1 vb (bestL pts opn tm) := hb
    apply ct_exit
    apply exit_eq; exact rfl
    apply ct_seq
    apply ct_region
    apply seq_plain; exact do_move rfl; exact rfl
    apply seq_plain; exact do_assign rfl; exact rfl
    apply seq_nil
    apply ct_ret
    exact fin_lst hc hb' rfl (fun _ => rfl) ⟨rfl, rfl⟩
end Go.Proofs.YtiggikjbknoohaaGreatDoor
