/- Contracts: the reference's word on a plan; days on which a match can be played. -/
import Derived.Test.YtiggikjbknoohaaGreatDoorPnA
noncomputable section
namespace Go.Proofs.YtiggikjbknoohaaGreatDoor
open Go Go.Den
set_option maxRecDepth 100000

theorem bzE_many {l : List Int} (h : decide ((l.length : Int) > 256) = true) : bzE l = 5 := by simp [bzE, firstL, whenL, h]
theorem bzE_far {l : List Int} (h : decide ((l.length : Int) > 256) = false) (h1 : l.any dayFar = true) : bzE l = 3 := by simp [bzE, firstL, whenL, h, h1]
theorem bzE_ok {l : List Int} (h : decide ((l.length : Int) > 256) = false) (h1 : l.any dayFar = false) : bzE l = 0 := by simp [bzE, firstL, whenL, h, h1]
section
variable {m : List (Int × Int)} {n : Nat} {frm to : Int}
theorem restE_many (h : decide ((m.length : Int) > 8) = true) : restE m n frm to = 5 := by simp [restE, firstL, whenL, h]
theorem restE_pairs (h : decide ((m.length : Int) > 8) = false) (h1 : pairsL n m ≠ 0) : restE m n frm to = pairsL n m := by simp [restE, firstL, whenL, h, h1]
theorem restE_out (h : decide ((m.length : Int) > 8) = false) (h1 : pairsL n m = 0) (h2 : (outL frm 0 99999 || outL to 0 99999) = true) : restE m n frm to = 3 := by
  unfold restE
  rw [h, h1]
  cases h3 : outL frm 0 99999
  · rw [h3] at h2
    have h2 : outL to 0 99999 = true := h2
    rw [h2]; rfl
  · rfl
theorem restE_order (h : decide ((m.length : Int) > 8) = false) (h1 : pairsL n m = 0) (h2 : (outL frm 0 99999 || outL to 0 99999) = false) (h3 : decide (to < frm) = true) : restE m n frm to = 11 := by
  rw [Bool.or_eq_false_iff] at h2
  unfold restE
  rw [h, h1, h2.1, h2.2, h3]; rfl
theorem restE_last (h : decide ((m.length : Int) > 8) = false) (h1 : pairsL n m = 0) (h2 : (outL frm 0 99999 || outL to 0 99999) = false) (h3 : decide (to < frm) = false) : restE m n frm to = whenL (decide (to - frm > 366)) 22 := by
  rw [Bool.or_eq_false_iff] at h2
  have a := outL_f h2.1
  have b := outL_f h2.2
  unfold restE
  rw [h, h1, h2.1, h2.2, h3, wrap_i64 (by omega)]
  cases decide (to - frm > 366) <;> rfl
end

theorem refCheckPlan_c {H : AHeap} {mq bq : Option Addr} {mc bc : Nat} {m : List (Int × Int)} {busy : List Bz} {frm to : Int} (hm : SlAt H 2 p2 mq m) (hb : BzAt H bq busy) (hs : shortP m busy = true) :
    Ret Tryz.prog 36 [Pv mq m.length mc bq busy.length bc frm to] H (I (planE m busy frm to)) H := by
  unfold shortP at hs
  simp only [Bool.and_eq_true, decide_eq_true_eq, List.all_eq_true] at hs
  obtain ⟨hs1, hs2, hs3⟩ := hs
  refine fn_start Tryz.func36 rfl rfl rfl fun hc => ?_
  apply ct_seq
  apply ct_region
  apply seq_newP; exact do_box rfl rfl rfl; exact rfl
  apply seq_plain; exact do_assign rfl; exact rfl
  apply seq_nil
  apply ct_seq
  apply ct_seq
  apply ct_region
  apply seq_plain; exact do_fieldAddr rfl rfl; exact rfl
  apply seq_plain; exact do_load rfl (by exact ext_get_new rfl) rfl (by exact rfl); exact rfl
  apply seq_plain; exact do_lenS rfl rfl rfl; exact rfl
  apply seq_plain; exact do_binInt rfl rfl rfl trivial; exact rfl
  apply seq_nil
  refine ct_cond rfl (fun h0 => ?_) (fun h0 => ?_)
  · apply ct_seq
    apply ct_region
    apply seq_plain; exact do_assign rfl; exact rfl
    apply seq_nil
    apply ct_ret
    refine fin_flat hc rfl rfl ⟨?_, rfl⟩
    unfold planE
    rw [if_pos h0]; rfl
  · have h24 : busy.length ≤ 24 := by simp at h0; omega
    have hlen : ∀ j (hj : j < busy.length), busy[j].l.length ≤ 259 := fun j hj => hs1 _ (List.mem_take_iff_getElem.2 ⟨j, by omega, rfl⟩)
    have ep : planE m busy frm to = if busyE busy ≠ 0 then busyE busy else restE m busy.length frm to := by
      unfold planE
      rw [if_neg (by rw [h0]; simp)]
    apply ct_skip
    apply ct_seq
    apply ct_seq
    apply ct_region
    apply seq_plain; exact do_assign rfl; exact rfl
    apply seq_nil
    apply ct_block
    apply ct_loop
    refine lt_up (fun i => [(1, .pointer (some ⟨nb H 0, 0, none⟩)), (3, I i)]) (fun i => ∀ j (hj : j < busy.length), j < i → bzE busy[j].l = 0) busy.length (fun i hi hJ ih => ?_) 0 (by omega) (by intros; omega) (by repeat (first | exact sub_nil | apply sub_cons rfl))
    apply ct_seq
    apply ct_seq
    apply ct_region
    apply seq_plain; exact do_move rfl; exact rfl
    apply seq_plain; exact do_fieldAddr rfl rfl; exact rfl
    apply seq_plain; exact do_load rfl (by exact ext_get_new rfl) rfl (by exact rfl); exact rfl
    apply seq_plain; exact do_lenS rfl rfl rfl; exact rfl
    apply seq_plain; exact do_binInt rfl rfl rfl trivial; exact rfl
    apply seq_nil
    refine ct_cond rfl (fun h1 => ?_) (fun h1 => ?_)
    · simp only [decide_eq_true_eq, Int.ofNat_lt] at h1
      obtain ⟨b, o, cs, z, s, ro, rfl, hg, hw⟩ := hb.at_.out (by intro e; rw [e] at h1; simp at h1)
      have hbi := hb.each _ (List.getElem_mem h1)
      have hli := hlen i h1
      apply ct_skip
      apply ct_seq
      apply ct_block
      apply ct_seq
      apply ct_seq
      apply ct_region
      apply seq_plain; exact do_fieldAddr rfl rfl; exact rfl
      apply seq_plain; exact do_load rfl (by exact ext_get_new rfl) rfl (by exact rfl); exact rfl
      apply seq_plain; exact do_move rfl; exact rfl
      apply seq_plain; exact do_indexAddrS rfl rfl rfl (by exact idx_nat (by omega)); exact rfl
      apply seq_plain; exact do_load rfl (by exact ext_get_old (by assumption) (by assumption)) rfl (by exact bz_get (by assumption) (by omega)); exact rfl
      apply seq_plain; exact do_lenS rfl rfl rfl; exact rfl
      apply seq_plain; exact do_binInt rfl rfl rfl trivial; exact rfl
      apply seq_nil
      refine ct_cond rfl (fun d1 => ?_) (fun d1 => ?_)
      · apply ct_seq
        apply ct_region
        apply seq_plain; exact do_assign rfl; exact rfl
        apply seq_nil
        apply ct_ret
        refine fin_flat hc rfl rfl ⟨?_, rfl⟩
        have e1 := bzE_many d1
        have e := busyE_at h1 hJ (by rw [e1]; decide)
        rw [ep, e, e1]; rfl
      · apply ct_skip
        apply ct_seq
        apply ct_region
        apply seq_plain; exact do_assign rfl; exact rfl
        apply seq_nil
        apply ct_block
        apply ct_loop
        refine lt_up (fun k => [(1, .pointer (some ⟨nb H 0, 0, none⟩)), (3, I i), (4, I k)]) (fun k => ∀ j (hj : j < busy[i].l.length), j < k → dayFar busy[i].l[j] = false) busy[i].l.length (fun k hk hJ2 ih2 => ?_) 0 (by omega) (by intros; omega) (by repeat (first | exact sub_nil | apply sub_cons rfl))
        apply ct_seq
        apply ct_seq
        apply ct_region
        apply seq_plain; exact do_move rfl; exact rfl
        apply seq_plain; exact do_fieldAddr rfl rfl; exact rfl
        apply seq_plain; exact do_load rfl (by exact ext_get_new rfl) rfl (by exact rfl); exact rfl
        apply seq_plain; exact do_move rfl; exact rfl
        apply seq_plain; exact do_indexAddrS rfl rfl rfl (by exact idx_nat (by omega)); exact rfl
        apply seq_plain; exact do_load rfl (by exact ext_get_old (by assumption) (by assumption)) rfl (by exact bz_get (by assumption) (by omega)); exact rfl
        apply seq_plain; exact do_lenS rfl rfl rfl; exact rfl
        apply seq_plain; exact do_binInt rfl rfl rfl trivial; exact rfl
        apply seq_nil
        refine ct_cond rfl (fun h2 => ?_) (fun h2 => ?_)
        · simp only [decide_eq_true_eq, Int.ofNat_lt] at h2
          obtain ⟨b2, o2, cs2, z2, s2, ro2, hp2, hg2, hw2⟩ := hbi.out (by intro e; rw [e] at h2; simp at h2)
          rw [hp2]
          apply ct_skip
          apply ct_seq
          apply ct_block
          apply ct_seq
          apply ct_region
          apply seq_plain; exact do_fieldAddr rfl rfl; exact rfl
          apply seq_plain; exact do_load rfl (by exact ext_get_new rfl) rfl (by exact rfl); exact rfl
          apply seq_plain; exact do_move rfl; exact rfl
          apply seq_plain; exact do_indexAddrS rfl rfl rfl (by exact idx_nat (by omega)); exact rfl
          apply seq_plain; exact do_load rfl (by exact ext_get_old (by assumption) (by assumption)) rfl (by exact bz_get (by assumption) (by omega)); exact rfl
          apply seq_plain; exact do_move rfl; exact rfl
          rw [hp2]
          apply seq_plain; exact do_indexAddrS rfl rfl rfl (by exact idx_nat (by omega)); exact rfl
          apply seq_plain; exact do_load rfl (by exact ext_get_old (by assumption) (by assumption)) rfl (by exact pt_sl0 (by assumption) (by omega)); exact rfl
          apply seq_call (ht := rfl); exact outside24; exact rfl
          apply seq_nil
          refine ct_cond rfl (fun d2 => ?_) (fun d2 => ?_)
          · apply ct_seq
            apply ct_region
            apply seq_plain; exact do_assign rfl; exact rfl
            apply seq_nil
            apply ct_ret
            refine fin_flat hc rfl rfl ⟨?_, rfl⟩
            have e1 := bzE_far (l := busy[i].l) d1 (by rw [List.any_eq_true]; exact ⟨_, List.getElem_mem h2, by rw [dayFar_out]; exact d2⟩)
            have e := busyE_at h1 hJ (by rw [e1]; decide)
            rw [ep, e, e1]; rfl
          · apply ct_skip
            apply ct_region
            apply seq_plain; exact do_move rfl; exact rfl
            apply seq_plain; exact do_succ rfl (by omega); exact rfl
            apply seq_plain; exact do_assign rfl; exact rfl
            apply seq_nil
            refine lt_sub (by repeat (first | exact sub_nil | apply sub_cons rfl)) (ih2 (k + 1) (by omega) (by omega) fun j hj hji => ?_)
            rcases Nat.lt_or_ge j k with h | h
            · exact hJ2 j hj h
            · have : j = k := by omega
              subst this; rw [dayFar_out]; exact d2
        · simp only [decide_eq_false_iff_not, Int.ofNat_lt] at h2
          have e1 : bzE busy[i].l = 0 := bzE_ok d1 (by
            rw [List.any_eq_false]
            intro x hx
            obtain ⟨j, hj, rfl⟩ := List.getElem_of_mem hx
            rw [hJ2 j hj (by omega)]; simp)
          apply ct_exit
          apply exit_eq; exact rfl
          apply ct_region
          apply seq_plain; exact do_move rfl; exact rfl
          apply seq_plain; exact do_succ rfl (by omega); exact rfl
          apply seq_plain; exact do_assign rfl; exact rfl
          apply seq_nil
          refine lt_sub (by repeat (first | exact sub_nil | apply sub_cons rfl)) (ih (i + 1) (by omega) (by omega) fun j hj hji => ?_)
          rcases Nat.lt_or_ge j i with h | h
          · exact hJ j hj h
          · have : j = i := by omega
            subst this; exact e1
    · simp only [decide_eq_false_iff_not, Int.ofNat_lt] at h1
      have e0 : busyE busy = 0 := busyE_none fun j hj => hJ j hj (by omega)
      have ep : planE m busy frm to = restE m busy.length frm to := by rw [ep, e0, if_neg (by simp)]
      apply ct_exit
      apply exit_eq; exact rfl
      apply ct_seq
      apply ct_seq
      apply ct_region
      apply seq_plain; exact do_fieldAddr rfl rfl; exact rfl
      apply seq_plain; exact do_load rfl (by exact ext_get_new rfl) rfl (by exact rfl); exact rfl
      apply seq_plain; exact do_lenS rfl rfl rfl; exact rfl
      apply seq_plain; exact do_binInt rfl rfl rfl trivial; exact rfl
      apply seq_nil
      refine ct_cond rfl (fun g1 => ?_) (fun g1 => ?_)
      · apply ct_seq
        apply ct_region
        apply seq_plain; exact do_assign rfl; exact rfl
        apply seq_nil
        apply ct_ret
        refine fin_flat hc rfl rfl ⟨?_, rfl⟩
        rw [ep, restE_many g1]; rfl
      · apply ct_skip
        apply ct_seq
        apply ct_seq
        apply ct_region
        apply seq_plain; exact do_fieldAddr rfl rfl; exact rfl
        apply seq_plain; exact do_load rfl (by exact ext_get_new rfl) rfl (by exact rfl); exact rfl
        apply seq_plain; exact do_lenS rfl rfl rfl; exact rfl
        apply seq_plain; exact do_fieldAddr rfl rfl; exact rfl
        apply seq_plain; exact do_load rfl (by exact ext_get_new rfl) rfl (by exact rfl); exact rfl
        apply seq_call (ht := rfl); exact refPairs_c (hm.ext (ext_Ext hc)) (by omega) (by omega); exact rfl
        apply seq_plain; exact do_assign rfl; exact rfl
        apply seq_nil
        apply ct_seq
        apply ct_region
        apply seq_plain; exact do_move rfl; exact rfl
        apply seq_plain; exact do_binInt rfl rfl rfl trivial; exact rfl
        apply seq_nil
        refine ct_cond rfl (fun g2 => ?_) (fun g2 => ?_)
        · have g2 : pairsL busy.length m ≠ 0 := by simpa using g2
          apply ct_seq
          apply ct_region
          apply seq_plain; exact do_move rfl; exact rfl
          apply seq_plain; exact do_assign rfl; exact rfl
          apply seq_nil
          apply ct_ret
          refine fin_flat hc rfl rfl ⟨?_, rfl⟩
          rw [ep, restE_pairs g1 g2]; rfl
        · have g2 : pairsL busy.length m = 0 := by simpa using g2
          apply ct_skip
          apply ct_seq
          apply ct_seq
          apply ct_region
          apply seq_plain; exact do_fieldAddr rfl rfl; exact rfl
          apply seq_plain; exact do_load rfl (by exact ext_get_new rfl) rfl (by exact rfl); exact rfl
          apply seq_call (ht := rfl); exact outside24; exact rfl
          apply seq_plain; exact do_move rfl; exact rfl
          refine seq_J [(1, .pointer (some ⟨nb H 0, 0, none⟩)), (63, .bool (outL frm 0 99999 || outL to 0 99999))] (ds := []) (h := ext H H.fresh [some (.cells [.slice mq m.length mc, .slice bq busy.length bc, I frm, I to] 0 false false)]) ?_ ?_
          · refine seq_gsplit rfl rfl (fun u1 => ?_) (fun u1 => ?_)
            · rw [u1]
              apply seq_passed (hd := rfl) (hl := rfl) (hb := rfl); exact rfl
              apply seq_passed (hd := rfl) (hl := rfl) (hb := rfl); exact rfl
              apply seq_passed (hd := rfl) (hl := rfl) (hb := rfl); exact rfl
              apply seq_plain; exact do_pick_t rfl rfl; exact rfl
              apply seq_nil
              exact jp_of (by repeat (first | exact sub_nil | apply sub_cons rfl))
            · rw [u1]
              apply seq_guard (hd := rfl) (hl := rfl); exact do_fieldAddr rfl rfl; exact rfl
              apply seq_guard (hd := rfl) (hl := rfl); exact do_load rfl (by exact ext_get_new rfl) rfl (by exact rfl); exact rfl
              apply seq_gcall (hg := rfl) (hl := rfl) (ht := rfl); exact outside24; exact rfl
              apply seq_plain; exact do_pick_f rfl rfl; exact rfl
              apply seq_nil
              exact jp_of (by repeat (first | exact sub_nil | apply sub_cons rfl))
          skip
          refine ct_cond rfl (fun g3 => ?_) (fun g3 => ?_)
          · apply ct_seq
            apply ct_region
            apply seq_plain; exact do_assign rfl; exact rfl
            apply seq_nil
            apply ct_ret
            refine fin_flat hc rfl rfl ⟨?_, rfl⟩
            rw [ep, restE_out g1 g2 g3]; rfl
          · have g3' := g3
            rw [Bool.or_eq_false_iff] at g3'
            have a := outL_f g3'.1
            have b := outL_f g3'.2
            apply ct_skip
            apply ct_seq
            apply ct_seq
            apply ct_region
            apply seq_plain; exact do_fieldAddr rfl rfl; exact rfl
            apply seq_plain; exact do_load rfl (by exact ext_get_new rfl) rfl (by exact rfl); exact rfl
            apply seq_plain; exact do_fieldAddr rfl rfl; exact rfl
            apply seq_plain; exact do_load rfl (by exact ext_get_new rfl) rfl (by exact rfl); exact rfl
            apply seq_plain; exact do_binInt rfl rfl rfl trivial; exact rfl
            apply seq_nil
            refine ct_cond rfl (fun g4 => ?_) (fun g4 => ?_)
            · apply ct_seq
              apply ct_region
              apply seq_plain; exact do_assign rfl; exact rfl
              apply seq_nil
              apply ct_ret
              refine fin_flat hc rfl rfl ⟨?_, rfl⟩
              rw [ep, restE_order g1 g2 g3 g4]; rfl
            · apply ct_skip
              apply ct_seq
              apply ct_seq
              apply ct_region
              apply seq_plain; exact do_fieldAddr rfl rfl; exact rfl
              apply seq_plain; exact do_load rfl (by exact ext_get_new rfl) rfl (by exact rfl); exact rfl
              apply seq_plain; exact do_fieldAddr rfl rfl; exact rfl
              apply seq_plain; exact do_load rfl (by exact ext_get_new rfl) rfl (by exact rfl); exact rfl
              apply seq_plain; exact do_sub rfl rfl (by omega); exact rfl
              apply seq_plain; exact do_binInt rfl rfl rfl trivial; exact rfl
              apply seq_nil
              refine ct_cond rfl (fun g5 => ?_) (fun g5 => ?_)
              · apply ct_seq
                apply ct_region
                apply seq_plain; exact do_assign rfl; exact rfl
                apply seq_nil
                apply ct_ret
                refine fin_flat hc rfl rfl ⟨?_, rfl⟩
                rw [ep, restE_last g1 g2 g3 g4, g5]; rfl
              · apply ct_skip
                apply ct_seq
                apply ct_region
                apply seq_plain; exact do_assign rfl; exact rfl
                apply seq_nil
                apply ct_ret
                refine fin_flat hc rfl rfl ⟨?_, rfl⟩
                rw [ep, restE_last g1 g2 g3 g4, g5]; rfl

/-- a plan that is valid -/
structure GoodP (m : List (Int × Int)) (busy : List Bz) (frm to : Int) : Prop where
  bn : busy.length ≤ 24
  each : ∀ x ∈ busy, x.l.length ≤ 256
  mn : m.length ≤ 8
  pair : ∀ p ∈ m, (0 ≤ p.1 ∧ p.1 < busy.length) ∧ (0 ≤ p.2 ∧ p.2 < busy.length) ∧ p.1 ≠ p.2
  days : 0 ≤ frm ∧ frm ≤ to ∧ to ≤ 99999 ∧ to - frm ≤ 366
theorem plan_good {m : List (Int × Int)} {busy : List Bz} {frm to : Int} (h : planE m busy frm to = 0) : GoodP m busy frm to := by
  unfold planE at h
  by_cases h1 : decide ((busy.length : Int) > 24) = true
  · rw [if_pos h1] at h; exact absurd h (by decide)
  · rw [if_neg h1] at h
    by_cases h2 : busyE busy = 0
    · rw [if_neg (by simp [h2])] at h
      have t := firstL_zero h
      have t1 := whenL_zero (t _ (List.mem_cons_self ..)) (by decide)
      have t2 := t (pairsL busy.length m) (by simp)
      have t3 := whenL_zero (t (whenL (outL frm 0 99999) 3) (by simp)) (by decide)
      have t4 := whenL_zero (t (whenL (outL to 0 99999) 3) (by simp)) (by decide)
      have t5 := whenL_zero (t (whenL (decide (to < frm)) 11) (by simp)) (by decide)
      have t6 := whenL_zero (t (whenL (decide (IntKind.i64.wrap (to - frm) > 366)) 22) (by simp)) (by decide)
      have a := outL_f t3
      have b := outL_f t4
      rw [wrap_i64 (by omega)] at t6
      simp only [decide_eq_false_iff_not] at t1 t5 t6 h1
      simp only [decide_eq_true_eq] at h1
      refine ⟨by omega, fun x hx => ?_, by omega, fun p hp => pairL_zero (firstL_zero t2 _ (List.mem_map.2 ⟨p, hp, rfl⟩)), by omega, by omega, by omega, by omega⟩
      have t7 := firstL_zero (firstL_zero h2 _ (List.mem_map.2 ⟨x, hx, rfl⟩)) (whenL (decide ((x.l.length : Int) > 256)) 5) (List.mem_cons_self ..)
      have t8 := whenL_zero t7 (by decide)
      simp only [decide_eq_false_iff_not] at t8
      omega
    · rw [if_pos h2] at h; exact absurd h h2
end Go.Proofs.YtiggikjbknoohaaGreatDoor
