/- Contracts: the best set of teams that proves it (the program's). -/
import Derived.Test.YtppflopinmkpgaaDoorElF
noncomputable section
namespace Go.Proofs.YtppflopinmkpgaaDoor
open Go Go.Den
set_option maxRecDepth 10000

theorem bit_1 {m : Nat} : ((((m % 2 : Nat) : Int) == 1)) = (m % 2 == 1) := by
  rw [Bool.eq_iff_iff, beq_iff_eq, beq_iff_eq]; omega
theorem bit_0 {m : Nat} : ((((m % 2 : Nat) : Int) == 0)) = (m % 2 == 0) := by
  rw [Bool.eq_iff_iff, beq_iff_eq, beq_iff_eq]; omega
theorem hpow {n : Nat} (h : n ≤ 8) : 2 ^ n ≤ 256 := Nat.pow_le_pow_right (n := 2) (by decide) h

set_option maxHeartbeats 4000000 in
theorem eliminated_c {H : AHeap} {q r : Option Addr} {c d : Nat} {pts : List Int} {opn : List (Int × Int)} {team : Int} (hs : SlAt H 1 i1 q pts) (ht : SlAt H 2 p2 r opn) (hok : chkR pts opn team = 0) (h8 : pts.length ≤ 8) :
    Ret Tryd.prog 12 [Rv q pts.length c r opn.length d, I team] H (.tuple ⟨[lstV H.fresh (bestL pts opn team), I (whenL (bestL pts opn team).isEmpty 7)]⟩) (lstH H 1 i1 (bestL pts opn team)) := by
  obtain ⟨hk1, hk2, hk3⟩ := chkR_zero hok
  have hg := race_good hk1
  have hlen := hg.len
  have h256 := hpow h8
  obtain ⟨tm, rfl⟩ := Int.eq_ofNat_of_zero_le hk2
  have htm : tm < pts.length := by omega
  refine fn_start Tryd.func12 rfl rfl rfl fun hc => ?_
  apply ct_seq
  apply ct_region
  apply seq_newP; exact do_box rfl rfl rfl; exact rfl
  apply seq_plain; exact do_assign rfl; exact rfl
  apply seq_plain; exact do_assign rfl; exact rfl
  apply seq_nil
  apply ct_seq
  apply ct_region
  apply seq_plain; exact do_fieldAddr rfl rfl; exact rfl
  apply seq_plain; exact do_load rfl (by exact ext_get_new rfl) rfl (by exact rfl); exact rfl
  apply seq_plain; exact do_lenS rfl rfl rfl; exact rfl
  apply seq_plain; exact do_assign rfl; exact rfl
  apply seq_nil
  apply ct_seq
  apply ct_seq
  apply ct_region
  apply seq_plain; exact do_load rfl (by exact ext_get_new rfl) rfl (by exact rfl); exact rfl
  apply seq_plain; exact do_move rfl; exact rfl
  apply seq_call (ht := rfl); exact check_c (hs.ext (ext_Ext hc)) (ht.ext (ext_Ext hc)) (by omega) (by omega); exact rfl
  apply seq_plain; exact do_move rfl; exact rfl
  apply seq_plain; exact do_binInt rfl rfl rfl trivial; exact rfl
  apply seq_call (ht := rfl); exact when85; exact rfl
  apply seq_newS; exact do_buildSlice rfl rfl rfl rfl rfl rfl rfl; exact rfl
  apply seq_call (ht := rfl); exact first84 (l := [_, _]) (slAt_map (ext_get_new rfl)) (by simp); exact rfl
  apply seq_plain; exact do_assign rfl; exact rfl
  apply seq_nil
  apply ct_seq
  apply ct_region
  apply seq_plain; exact do_move rfl; exact rfl
  apply seq_plain; exact do_binInt rfl rfl rfl trivial; exact rfl
  apply seq_nil
  have h8' : decide ((pts.length : Int) > 8) = false := by simp; omega
  refine ct_cond_f rfl (by rw [hok, h8']; rfl) ?_
  apply ct_skip
  apply ct_seq
  apply ct_region
  apply seq_plain; exact do_assign rfl; exact rfl
  apply seq_nil
  apply ct_seq
  apply ct_seq
  apply ct_region
  apply seq_plain; exact do_move rfl; exact rfl
  apply seq_plain; exact do_shl1 rfl (by omega); exact rfl
  apply seq_plain; exact do_move rfl; exact rfl
  apply seq_nil
  apply ct_block
  apply ct_loop
  generalize hN : (2 : Nat) ^ pts.length = N at h256 ⊢
  refine lt_meas (α := Nat × Value × List (Option ABlk)) (fun a => [(1, I tm), (2, .pointer (some ⟨nb H 0, 0, none⟩)), (6, I pts.length), (8, a.2.1), (28, I N), (29, I a.1)]) (fun a => ext H H.fresh a.2.2)
    (fun a => a.1 ≤ N ∧ Lst H a.2.2 1 i1 1 a.2.1 (bestTo pts opn tm a.1) ∧ a.2.2[0]? = some (some (.cells [.slice q pts.length c, .slice r opn.length d] 0 false false))) (fun a => N - a.1) (fun a ha ih => ?_) (0, .slice none 0 0, _) ⟨by omega, .nil, rfl⟩ (by repeat (first | exact sub_nil | apply sub_cons rfl)) (.refl _)
  obtain ⟨k, vb, L⟩ := a
  obtain ⟨hk, hb, hbox⟩ := ha
  simp only at hk hb hbox ih ⊢
  have ih' := fun k' v' L' a1 a2 a3 a4 => ih (k', v', L') a1 ⟨a2, a3, a4⟩
  simp only at ih'
  clear ih
  have hL0 : 0 < L.length := (List.getElem?_eq_some_iff.1 hbox).1
  apply ct_seq
  apply ct_region
  apply seq_plain; exact do_binInt rfl rfl rfl trivial; exact rfl
  apply seq_nil
  apply ct_seq
  refine ct_cond rfl (fun h1 => ?_) (fun h1 => ?_)
  · simp only [decide_eq_true_eq, Int.ofNat_lt] at h1
    apply ct_skip
    apply ct_seq
    apply ct_block
    apply ct_seq
    apply ct_region
    apply seq_plain; exact do_move rfl; exact rfl
    apply seq_plain; exact do_assign rfl; exact rfl
    apply seq_nil
    apply ct_seq
    apply ct_region
    apply seq_plain; exact do_assign rfl; exact rfl
    apply seq_nil
    apply ct_seq
    apply ct_seq
    apply ct_region
    apply seq_plain; exact do_move rfl; exact rfl
    apply seq_plain; exact do_move rfl; exact rfl
    apply seq_nil
    apply ct_block
    apply ct_loop
    refine lt_meas (α := Nat × Value × List (Option ABlk)) (fun a => [(1, I tm), (2, .pointer (some ⟨nb H 0, 0, none⟩)), (6, I pts.length), (8, vb), (28, I N), (29, I k), (9, I k), (10, a.2.1), (32, I pts.length), (33, I a.1)]) (fun a => ext H H.fresh a.2.2)
      (fun a => a.1 ≤ pts.length ∧ Lst H a.2.2 1 i1 L.length a.2.1 (setTo a.1 k) ∧ Stay L.length L a.2.2 ∧ L.length ≤ a.2.2.length) (fun a => pts.length - a.1) (fun a ha ih => ?_) (0, .slice none 0 0, _) ⟨by omega, .nil, .refl _ _, Nat.le_refl _⟩ (by repeat (first | exact sub_nil | apply sub_cons rfl)) (.refl _)
    obtain ⟨i, vs, L2⟩ := a
    obtain ⟨hi, hset, hst, hle⟩ := ha
    simp only at hi hset hst hle ih ⊢
    have ih2 := fun k' v' L' a1 a2 a3 a4 a5 => ih (k', v', L') a1 ⟨a2, a3, a4, a5⟩
    simp only at ih2
    clear ih
    have hsh : k >>> i < 2 ^ 60 := by
      have h60 : (2 : Nat) ^ 60 = 1152921504606846976 := by decide
      have := Nat.shiftRight_le k i
      omega
    apply ct_seq
    apply ct_region
    apply seq_plain; exact do_binInt rfl rfl rfl trivial; exact rfl
    apply seq_nil
    apply ct_seq
    refine ct_cond rfl (fun h2 => ?_) (fun h2 => ?_)
    · simp only [decide_eq_true_eq, Int.ofNat_lt] at h2
      have e1 := setTo_succ (k := i) (bits := k)
      apply ct_skip
      apply ct_seq
      apply ct_block
      apply ct_seq
      apply ct_region
      apply seq_plain; exact do_move rfl; exact rfl
      apply seq_plain; exact do_assign rfl; exact rfl
      apply seq_nil
      apply ct_seq
      apply ct_region
      apply seq_plain; exact do_move rfl; exact rfl
      apply seq_plain; exact do_move rfl; exact rfl
      apply seq_plain; exact do_shrN rfl rfl (by omega); exact rfl
      apply seq_plain; exact do_and1 rfl (by assumption); exact rfl
      apply seq_plain; exact do_binInt rfl rfl rfl trivial; exact rfl
      apply seq_nil
      refine ct_cond rfl (fun h3 => ?_) (fun h3 => ?_)
      · have h3 : ((((k >>> i) % 2 : Nat) : Int) == 1) = true := h3
        have h3 : ((k >>> i) % 2 == 1) = true := by rw [← bit_1]; exact h3
        rw [h3] at e1
        have hl := setTo_len (k := i) (bits := k)
        apply ct_region
        apply seq_plain; exact do_move rfl; exact rfl
        apply seq_plain; exact do_move rfl; exact rfl
        apply seq_newS; exact do_buildSlice rfl rfl rfl rfl rfl rfl rfl; exact rfl
        refine seq_grow (xs := [((i : Nat) : Int)]) hc (hset.app _) (by rw [List.length_append]; omega) (fun _ => rfl) (fun _ => rfl) rfl rfl rfl rfl rfl rfl (ext_get_new List.getElem?_concat_length) rfl (by simp) ?_ (Nat.ne_of_beq_eq_false rfl) (Nat.ne_of_beq_eq_false rfl) rfl (fun v' L3 hv' hst3 hlen3 => ?_)
        · exact Nat.le_trans (Nat.mul_le_mul_right _ (by simp only [List.length_cons, List.length_nil]; omega : _ ≤ 3000)) (Nat.le_of_ble_eq_true rfl)
        rw [List.length_append] at hlen3
        apply seq_plain; exact do_assign rfl; exact rfl
        apply seq_nil
        apply ct_region
        apply seq_plain; exact do_succ rfl (by omega); exact rfl
        apply seq_plain; exact do_move rfl; exact rfl
        apply seq_nil
        exact lt_sub (by repeat (first | exact sub_nil | apply sub_cons rfl)) (ih2 (i + 1) v' L3 (by omega) (by omega) (by rw [e1]; exact hv') ((hst.trans (Stay.app _)).trans hst3) (by omega))
      · have h3 : ((((k >>> i) % 2 : Nat) : Int) == 1) = false := h3
        have h3 : ((k >>> i) % 2 == 1) = false := by rw [← bit_1]; exact h3
        rw [h3] at e1
        apply ct_skip
        apply ct_region
        apply seq_plain; exact do_succ rfl (by omega); exact rfl
        apply seq_plain; exact do_move rfl; exact rfl
        apply seq_nil
        exact lt_sub (by repeat (first | exact sub_nil | apply sub_cons rfl)) (ih2 (i + 1) vs L2 (by omega) (by omega) (by rw [e1]; simpa using hset) hst hle)
    · simp only [decide_eq_false_iff_not, Int.ofNat_lt] at h2
      have hi' : i = pts.length := by omega
      subst hi'
      have hb2 := hb.stayAll hst
      have hbox2 := hst.to (by omega) hbox
      obtain ⟨p, rfl, hsl, hp⟩ := hset.slice (lo := H.fresh) (fun _ => rfl)
      obtain ⟨p', hvb, hsl', hp'⟩ := hb2.slice (lo := H.fresh) (fun _ => rfl)
      subst hvb
      have hsl0 := setTo_len (k := pts.length) (bits := k)
      have hbl0 := bestTo_len (pts := pts) (opn := opn) (team := tm) k
      have hin : ∀ x ∈ setTo pts.length k, 0 ≤ x ∧ x < pts.length := fun x hx => ⟨(setTo_mem.1 hx).1, (setTo_mem.1 hx).2.1⟩
      have hsh2 : k >>> tm < 2 ^ 60 := by
        have h60 : (2 : Nat) ^ 60 = 1152921504606846976 := by decide
        have := Nat.shiftRight_le k tm
        omega
      apply ct_exit
      apply exit_eq; exact rfl
      apply ct_seq
      apply ct_region
      apply seq_plain; exact do_move rfl; exact rfl
      apply seq_plain; exact do_eqlNilS rfl rfl rfl; exact rfl
      apply seq_plain; exact do_move rfl; exact rfl
      refine seq_J [(1, I tm), (2, .pointer (some ⟨nb H 0, 0, none⟩)), (6, I pts.length), (8, .slice p' (bestTo pts opn tm k).length (bestTo pts opn tm k).length), (28, I N), (29, I k), (9, I k), (10, .slice p (setTo pts.length k).length (setTo pts.length k).length), (12, .bool ((bestTo pts opn tm k).isEmpty || beforeL (setTo pts.length k) (bestTo pts opn tm k)))] (ds := []) (h := ext H H.fresh L2) ?_ ?_
      · cases p' with
        | none =>
          have hbe := hp'.1 rfl
          have e : ((bestTo pts opn tm k).isEmpty || beforeL (setTo pts.length k) (bestTo pts opn tm k)) = true := by rw [hbe]; rfl
          rw [e]
          apply seq_passed (hd := rfl) (hl := rfl) (hb := rfl); exact rfl
          apply seq_passed (hd := rfl) (hl := rfl) (hb := rfl); exact rfl
          apply seq_passed (hd := rfl) (hl := rfl) (hb := rfl); exact rfl
          apply seq_passed (hd := rfl) (hl := rfl) (hb := rfl); exact rfl
          apply seq_passed (hd := rfl) (hl := rfl) (hb := rfl); exact rfl
          apply seq_plain; exact do_pick_t rfl rfl; exact rfl
          apply seq_plain; exact do_move rfl; exact rfl
          apply seq_passed (hd := rfl) (hl := rfl) (hb := rfl); exact rfl
          apply seq_passed (hd := rfl) (hl := rfl) (hb := rfl); exact rfl
          apply seq_passed (hd := rfl) (hl := rfl) (hb := rfl); exact rfl
          apply seq_passed (hd := rfl) (hl := rfl) (hb := rfl); exact rfl
          apply seq_passed (hd := rfl) (hl := rfl) (hb := rfl); exact rfl
          apply seq_passed (hd := rfl) (hl := rfl) (hb := rfl); exact rfl
          apply seq_passedU (hd := rfl) (hl := rfl); exact rfl
          apply seq_passedU (hd := rfl) (hl := rfl); exact rfl
          apply seq_passedU (hd := rfl) (hl := rfl); exact rfl
          apply seq_passedU (hd := rfl) (hl := rfl); exact rfl
          apply seq_passed (hd := rfl) (hl := rfl) (hb := rfl); exact rfl
          apply seq_plain; exact do_pick_t rfl rfl; exact rfl
          apply seq_plain; exact do_assign rfl; exact rfl
          apply seq_nil
          exact jp_of (by repeat (first | exact sub_nil | apply sub_cons rfl))
        | some a =>
          have hbe : bestTo pts opn tm k ≠ [] := fun e => by have := hp'.2 e; cases this
          have hbe : (bestTo pts opn tm k).isEmpty = false := by cases h : bestTo pts opn tm k <;> simp_all
          have e : ((bestTo pts opn tm k).isEmpty || beforeL (setTo pts.length k) (bestTo pts opn tm k)) = beforeL (setTo pts.length k) (bestTo pts opn tm k) := by rw [hbe]; rfl
          rw [e]
          apply seq_guard (hd := rfl) (hl := rfl); exact do_move rfl; exact rfl
          apply seq_guard (hd := rfl) (hl := rfl); exact do_lenS rfl rfl rfl; exact rfl
          apply seq_guard (hd := rfl) (hl := rfl); exact do_move rfl; exact rfl
          apply seq_guard (hd := rfl) (hl := rfl); exact do_lenS rfl rfl rfl; exact rfl
          apply seq_guard (hd := rfl) (hl := rfl); exact do_binInt rfl rfl rfl trivial; exact rfl
          apply seq_plain; exact do_pick_f rfl rfl; exact rfl
          apply seq_plain; exact do_move rfl; exact rfl
          refine seq_gsplit rfl rfl (fun u1 => ?_) (fun u1 => ?_)
          · have u1 : decide (((setTo pts.length k).length : Int) < ((bestTo pts opn tm k).length : Int)) = true := u1
            have e : beforeL (setTo pts.length k) (bestTo pts opn tm k) = true := by
              simp at u1
              unfold beforeL
              rw [if_pos (by omega)]; simp; omega
            rw [e]
            apply seq_passed (hd := rfl) (hl := rfl) (hb := rfl); exact rfl
            apply seq_passed (hd := rfl) (hl := rfl) (hb := rfl); exact rfl
            apply seq_passed (hd := rfl) (hl := rfl) (hb := rfl); exact rfl
            apply seq_passed (hd := rfl) (hl := rfl) (hb := rfl); exact rfl
            apply seq_passed (hd := rfl) (hl := rfl) (hb := rfl); exact rfl
            apply seq_passed (hd := rfl) (hl := rfl) (hb := rfl); exact rfl
            apply seq_passedU (hd := rfl) (hl := rfl); exact rfl
            apply seq_passedU (hd := rfl) (hl := rfl); exact rfl
            apply seq_passedU (hd := rfl) (hl := rfl); exact rfl
            apply seq_passedU (hd := rfl) (hl := rfl); exact rfl
            apply seq_passed (hd := rfl) (hl := rfl) (hb := rfl); exact rfl
            apply seq_plain; exact do_pick_t rfl rfl; exact rfl
            apply seq_plain; exact do_assign rfl; exact rfl
            apply seq_nil
            exact jp_of (by repeat (first | exact sub_nil | apply sub_cons rfl))
          · have u1 : decide (((setTo pts.length k).length : Int) < ((bestTo pts opn tm k).length : Int)) = false := u1
            simp only [decide_eq_false_iff_not] at u1
            apply seq_guard (hd := rfl) (hl := rfl); exact do_move rfl; exact rfl
            apply seq_guard (hd := rfl) (hl := rfl); exact do_lenS rfl rfl rfl; exact rfl
            apply seq_guard (hd := rfl) (hl := rfl); exact do_move rfl; exact rfl
            apply seq_guard (hd := rfl) (hl := rfl); exact do_lenS rfl rfl rfl; exact rfl
            apply seq_guard (hd := rfl) (hl := rfl); exact do_binInt rfl rfl rfl trivial; exact rfl
            apply seq_guard (hd := rfl) (hl := rfl); exact do_move rfl; exact rfl
            refine seq_gsplit rfl rfl (fun u2 => ?_) (fun u2 => ?_)
            · have u2 : (((setTo pts.length k).length : Int) == ((bestTo pts opn tm k).length : Int)) = true := u2
              simp only [beq_iff_eq] at u2
              have e : beforeL (setTo pts.length k) (bestTo pts opn tm k) = decide (cmpLL (setTo pts.length k) (bestTo pts opn tm k) < 0) := by
                unfold beforeL
                rw [if_neg (by omega)]
              rw [e]
              apply seq_guard (hd := rfl) (hl := rfl); exact do_move rfl; exact rfl
              apply seq_guard (hd := rfl) (hl := rfl); exact do_move rfl; exact rfl
              apply seq_gcall (hg := rfl) (hl := rfl) (ht := rfl); exact compareL_c hsl hsl' (by omega) (by omega); exact rfl
              apply seq_guard (hd := rfl) (hl := rfl); exact do_binInt rfl rfl rfl trivial; exact rfl
              apply seq_guard (hd := rfl) (hl := rfl); exact do_pick_t rfl rfl; exact rfl
              apply seq_plain; exact do_pick_f rfl rfl; exact rfl
              apply seq_plain; exact do_assign rfl; exact rfl
              apply seq_nil
              exact jp_of (by repeat (first | exact sub_nil | apply sub_cons rfl))
            · have u2 : (((setTo pts.length k).length : Int) == ((bestTo pts opn tm k).length : Int)) = false := u2
              simp only [beq_eq_false_iff_ne, ne_eq] at u2
              have e : beforeL (setTo pts.length k) (bestTo pts opn tm k) = false := by
                unfold beforeL
                rw [if_pos (by omega)]; simp; omega
              rw [e]
              apply seq_passed (hd := rfl) (hl := rfl) (hb := rfl); exact rfl
              apply seq_passed (hd := rfl) (hl := rfl) (hb := rfl); exact rfl
              apply seq_passed (hd := rfl) (hl := rfl) (hb := rfl); exact rfl
              apply seq_passed (hd := rfl) (hl := rfl) (hb := rfl); exact rfl
              apply seq_guard (hd := rfl) (hl := rfl); exact do_pick_f rfl rfl; exact rfl
              apply seq_plain; exact do_pick_f rfl rfl; exact rfl
              apply seq_plain; exact do_assign rfl; exact rfl
              apply seq_nil
              exact jp_of (by repeat (first | exact sub_nil | apply sub_cons rfl))
      · apply ct_seq
        apply ct_region
        apply seq_plain; exact do_move rfl; exact rfl
        apply seq_plain; exact do_move rfl; exact rfl
        refine seq_J [(1, I tm), (2, .pointer (some ⟨nb H 0, 0, none⟩)), (6, I pts.length), (8, .slice p' (bestTo pts opn tm k).length (bestTo pts opn tm k).length), (28, I N), (29, I k), (10, .slice p (setTo pts.length k).length (setTo pts.length k).length), (86, .bool (((bestTo pts opn tm k).isEmpty || beforeL (setTo pts.length k) (bestTo pts opn tm k)) && !(setTo pts.length k).isEmpty && ((k >>> tm) % 2 == 0) && proveL pts opn tm (setTo pts.length k)))] (ds := []) (h := ext H H.fresh L2) ?_ ?_
        · refine seq_gsplit rfl rfl (fun u1 => ?_) (fun u1 => ?_)
          · rw [u1]
            have e0 : decide (((setTo pts.length k).length : Int) > 0) = !(setTo pts.length k).isEmpty := by
              cases setTo pts.length k <;> simp
            apply seq_guard (hd := rfl) (hl := rfl); exact do_move rfl; exact rfl
            apply seq_guard (hd := rfl) (hl := rfl); exact do_lenS rfl rfl rfl; exact rfl
            apply seq_guard (hd := rfl) (hl := rfl); exact do_binInt rfl rfl rfl trivial; exact rfl
            apply seq_plain; exact do_pick_t rfl rfl; exact rfl
            apply seq_plain; exact do_move rfl; exact rfl
            rw [e0]
            refine seq_gsplit rfl rfl (fun u2 => ?_) (fun u2 => ?_)
            · rw [u2]
              apply seq_guard (hd := rfl) (hl := rfl); exact do_move rfl; exact rfl
              apply seq_guard (hd := rfl) (hl := rfl); exact do_move rfl; exact rfl
              apply seq_guard (hd := rfl) (hl := rfl); exact do_shrN rfl rfl (by omega); exact rfl
              apply seq_guard (hd := rfl) (hl := rfl); exact do_and1 rfl (by assumption); exact rfl
              apply seq_guard (hd := rfl) (hl := rfl); exact do_binInt rfl rfl rfl trivial; exact rfl
              apply seq_plain; exact do_pick_t rfl rfl; exact rfl
              apply seq_plain; exact do_move rfl; exact rfl
              rw [bit_0]
              refine seq_gsplit rfl rfl (fun u3 => ?_) (fun u3 => ?_)
              · rw [u3]
                apply seq_guard (hd := rfl) (hl := rfl); exact do_load rfl (by exact ext_get_new (by assumption)) rfl (by exact rfl); exact rfl
                apply seq_guard (hd := rfl) (hl := rfl); exact do_move rfl; exact rfl
                apply seq_guard (hd := rfl) (hl := rfl); exact do_move rfl; exact rfl
                apply seq_gcall (hg := rfl) (hl := rfl) (ht := rfl); exact proves_c (hs.ext (ext_Ext hc)) (ht.ext (ext_Ext hc)) hsl hg hk2 hk3 (by omega) hin; exact rfl
                apply seq_plain; exact do_pick_t rfl rfl; exact rfl
                apply seq_nil
                exact jp_of (by repeat (first | exact sub_nil | apply sub_cons rfl))
              · rw [u3]
                apply seq_passed (hd := rfl) (hl := rfl) (hb := rfl); exact rfl
                apply seq_passed (hd := rfl) (hl := rfl) (hb := rfl); exact rfl
                apply seq_passed (hd := rfl) (hl := rfl) (hb := rfl); exact rfl
                apply seq_passed (hd := rfl) (hl := rfl) (hb := rfl); exact rfl
                apply seq_plain; exact do_pick_f rfl rfl; exact rfl
                apply seq_nil
                exact jp_of (by repeat (first | exact sub_nil | apply sub_cons rfl))
            · rw [u2]
              apply seq_passed (hd := rfl) (hl := rfl) (hb := rfl); exact rfl
              apply seq_passed (hd := rfl) (hl := rfl) (hb := rfl); exact rfl
              apply seq_passed (hd := rfl) (hl := rfl) (hb := rfl); exact rfl
              apply seq_passed (hd := rfl) (hl := rfl) (hb := rfl); exact rfl
              apply seq_passed (hd := rfl) (hl := rfl) (hb := rfl); exact rfl
              apply seq_plain; exact do_pick_f rfl rfl; exact rfl
              apply seq_plain; exact do_move rfl; exact rfl
              apply seq_passed (hd := rfl) (hl := rfl) (hb := rfl); exact rfl
              apply seq_passed (hd := rfl) (hl := rfl) (hb := rfl); exact rfl
              apply seq_passed (hd := rfl) (hl := rfl) (hb := rfl); exact rfl
              apply seq_passed (hd := rfl) (hl := rfl) (hb := rfl); exact rfl
              apply seq_plain; exact do_pick_f rfl rfl; exact rfl
              apply seq_nil
              exact jp_of (by repeat (first | exact sub_nil | apply sub_cons rfl))
          · rw [u1]
            apply seq_passed (hd := rfl) (hl := rfl) (hb := rfl); exact rfl
            apply seq_passed (hd := rfl) (hl := rfl) (hb := rfl); exact rfl
            apply seq_passed (hd := rfl) (hl := rfl) (hb := rfl); exact rfl
            apply seq_plain; exact do_pick_f rfl rfl; exact rfl
            apply seq_plain; exact do_move rfl; exact rfl
            apply seq_passed (hd := rfl) (hl := rfl) (hb := rfl); exact rfl
            apply seq_passed (hd := rfl) (hl := rfl) (hb := rfl); exact rfl
            apply seq_passed (hd := rfl) (hl := rfl) (hb := rfl); exact rfl
            apply seq_passed (hd := rfl) (hl := rfl) (hb := rfl); exact rfl
            apply seq_passed (hd := rfl) (hl := rfl) (hb := rfl); exact rfl
            apply seq_plain; exact do_pick_f rfl rfl; exact rfl
            apply seq_plain; exact do_move rfl; exact rfl
            apply seq_passed (hd := rfl) (hl := rfl) (hb := rfl); exact rfl
            apply seq_passed (hd := rfl) (hl := rfl) (hb := rfl); exact rfl
            apply seq_passed (hd := rfl) (hl := rfl) (hb := rfl); exact rfl
            apply seq_passed (hd := rfl) (hl := rfl) (hb := rfl); exact rfl
            apply seq_plain; exact do_pick_f rfl rfl; exact rfl
            apply seq_nil
            exact jp_of (by repeat (first | exact sub_nil | apply sub_cons rfl))
        · skip
          refine ct_cond rfl (fun h3 => ?_) (fun h3 => ?_)
          · have e : bestTo pts opn tm (k + 1) = setTo pts.length k := by
              show stepB _ _ _ _ _ = _
              unfold stepB
              rw [if_pos (by exact h3)]
            apply ct_region
            apply seq_plain; exact do_move rfl; exact rfl
            apply seq_plain; exact do_assign rfl; exact rfl
            apply seq_nil
            apply ct_region
            apply seq_plain; exact do_succ rfl (by omega); exact rfl
            apply seq_plain; exact do_move rfl; exact rfl
            apply seq_nil
            exact lt_sub (by repeat (first | exact sub_nil | apply sub_cons rfl)) (ih' (k + 1) _ L2 (by omega) (by omega) (by rw [e]; exact hset.le hL0) hbox2)
          · have e : bestTo pts opn tm (k + 1) = bestTo pts opn tm k := by
              show stepB _ _ _ _ _ = _
              unfold stepB
              rw [if_neg (by rw [Bool.not_eq_true]; exact h3)]
            apply ct_skip
            apply ct_region
            apply seq_plain; exact do_succ rfl (by omega); exact rfl
            apply seq_plain; exact do_move rfl; exact rfl
            apply seq_nil
            exact lt_sub (by repeat (first | exact sub_nil | apply sub_cons rfl)) (ih' (k + 1) _ L2 (by omega) (by omega) (by rw [e]; exact hb2) hbox2)
  · simp only [decide_eq_false_iff_not, Int.ofNat_lt] at h1
    have hkN : k = 2 ^ pts.length := by omega
    subst hkN
    have hb' : Lst H L 1 i1 1 vb (bestL pts opn tm) := hb
    obtain ⟨p, hvb, hsl, hp⟩ := hb'.slice (lo := H.fresh) (fun _ => rfl)
    subst hvb
    have e : p.isNone = (bestL pts opn tm).isEmpty := by
      cases p with
      | none => rw [hp.1 rfl]; rfl
      | some a => cases h : bestL pts opn tm with
        | nil => have := hp.2 h; cases this
        | cons _ _ => rfl
    apply ct_exit
    apply exit_eq; exact rfl
    apply ct_seq
    apply ct_region
    apply seq_plain; exact do_move rfl; exact rfl
    apply seq_plain; exact do_move rfl; exact rfl
    apply seq_plain; exact do_eqlNilS rfl rfl rfl; exact rfl
    apply seq_call (ht := rfl); exact when85; exact rfl
    apply seq_plain; exact do_assign rfl; exact rfl
    apply seq_plain; exact do_assign rfl; exact rfl
    apply seq_nil
    apply ct_ret
    rw [e]
    exact fin_lst2 hc hb' rfl (fun _ => rfl) ⟨rfl, rfl⟩
end Go.Proofs.YtppflopinmkpgaaDoor
