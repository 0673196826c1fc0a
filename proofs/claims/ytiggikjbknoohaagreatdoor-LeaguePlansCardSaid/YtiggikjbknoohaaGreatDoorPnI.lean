/- LeaguePlans: the law's own walk. -/
import Derived.Test.YtiggikjbknoohaaGreatDoorPnH
import Derived.Test.YtiggikjbknoohaaGreatDoorElI
noncomputable section
namespace Go.Proofs.YtiggikjbknoohaaGreatDoor
open Go Go.Den
set_option maxRecDepth 100000

theorem postp_bad {H : AHeap} {mq bq : Option Addr} {mc bc : Nat} {m : List (Int × Int)} {busy : List Bz} {frm to : Int} (hm : SlAt H 2 p2 mq m) (hb : BzAt H bq busy) (hs : shortP m busy = true) (hok : planE m busy frm to ≠ 0) :
    Ret Tryz.prog 39 [Pv mq m.length mc bq busy.length bc frm to] H (.tuple ⟨[.slice none 0 0, I (planE m busy frm to)]⟩) H := by
  refine fn_start Tryz.func39 rfl rfl rfl fun hc => ?_
  apply ct_seq
  apply ct_region
  apply seq_newP; exact do_box rfl rfl rfl; exact rfl
  apply seq_plain; exact do_assign rfl; exact rfl
  apply seq_plain; exact do_assign rfl; exact rfl
  apply seq_nil
  apply ct_seq
  apply ct_seq
  apply ct_region
  apply seq_plain; exact do_load rfl (by exact ext_get_new rfl) rfl (by exact rfl); exact rfl
  apply seq_call (ht := rfl); exact checkPlan_c (hm.ext (ext_Ext hc)) (hb.ext (ext_Ext hc)) hs; exact rfl
  apply seq_plain; exact do_assign rfl; exact rfl
  apply seq_nil
  apply ct_seq
  apply ct_region
  apply seq_plain; exact do_move rfl; exact rfl
  apply seq_plain; exact do_binInt rfl rfl rfl trivial; exact rfl
  apply seq_nil
  refine ct_cond_t rfl (by simpa using hok) ?_
  apply ct_seq
  apply ct_region
  apply seq_plain; exact do_move rfl; exact rfl
  apply seq_plain; exact do_assign rfl; exact rfl
  apply seq_plain; exact do_assign rfl; exact rfl
  apply seq_nil
  apply ct_ret
  exact fin_flat hc rfl rfl ⟨rfl, rfl⟩
set_option maxHeartbeats 16000000 in
theorem law5 {H : AHeap} {mq bq : Option Addr} {mc bc : Nat} {m : List (Int × Int)} {busy : List Bz} {frm to i : Int} (haw : ∀ h, Ext H h → Ret Tryz.prog 17 [] h (.bool true) h) (hm : SlAt H 2 p2 mq m) (hb : BzAt H bq busy) :
    CallT Tryz.prog 5 [Pv mq m.length mc bq busy.length bc frm to, I i] H (fun v _ => v = .bool true) := by
  refine fn_start Tryz.func5 rfl rfl rfl fun hc => ?_
  apply ct_seq
  apply ct_region
  apply seq_newP; exact do_box rfl rfl rfl; exact rfl
  apply seq_plain; exact do_assign rfl; exact rfl
  apply seq_nil
  apply ct_seq
  apply ct_region
  apply seq_plain; exact do_load rfl (by exact ext_get_new rfl) rfl (by exact rfl); exact rfl
  apply seq_newP; exact do_alloc rfl rfl; exact rfl
  apply seq_putC (hc := by assumption); rotate_left; exact do_store rfl rfl (by exact ext_get_new rfl) rfl rfl (nb_own _); rotate_left; exact Nat.le_of_ble_eq_true rfl
  apply ct_seq
  apply ct_seq
  apply ct_region
  apply seq_call (ht := rfl); exact haw _ (ext_Ext hc); exact rfl
  apply seq_plain; exact do_unOp rfl rfl; exact rfl
  apply seq_plain; exact do_move rfl; exact rfl
  apply seq_guard (hd := rfl) (hl := rfl); exact do_load rfl (by exact ext_get_new rfl) rfl (by exact rfl); exact rfl
  apply seq_gcall (hg := rfl) (hl := rfl) (ht := rfl); exact shortPlan_c (hb.ext (ext_Ext hc)); exact rfl
  apply seq_guard (hd := rfl) (hl := rfl); exact do_unOp rfl rfl; exact rfl
  apply seq_plain; exact do_pick_f rfl rfl; exact rfl
  apply seq_nil
  refine ct_cond rfl (fun h1 => ?_) (fun h1 => ?_)
  · apply ct_seq
    apply ct_region
    apply seq_call (ht := rfl); exact haw _ (ext_Ext hc); exact rfl
    apply seq_plain; exact do_assign rfl; exact rfl
    apply seq_nil
    apply ct_ret
    exact fin_flat hc rfl rfl rfl
  have hs : shortP m busy = true := by simpa using h1
  clear h1
  apply ct_skip
  apply ct_seq
  apply ct_region
  apply seq_plain; exact do_load rfl (by exact ext_get_new rfl) rfl (by exact rfl); exact rfl
  apply seq_call (ht := rfl); exact refCheckPlan_c (hm.ext (ext_Ext hc)) (hb.ext (ext_Ext hc)) hs; exact rfl
  apply seq_plain; exact do_assign rfl; exact rfl
  apply seq_nil
  apply ct_seq
  apply ct_seq
  apply ct_region
  apply seq_plain; exact do_load rfl (by exact ext_get_new rfl) rfl (by exact rfl); exact rfl
  apply seq_call (ht := rfl); exact checkPlan_c (hm.ext (ext_Ext hc)) (hb.ext (ext_Ext hc)) hs; exact rfl
  apply seq_plain; exact do_move rfl; exact rfl
  apply seq_plain; exact do_binInt rfl rfl rfl trivial; exact rfl
  apply seq_nil
  refine ct_cond_f rfl (by simp) ?_
  by_cases hok : planE m busy frm to = 0
  · have hg := plan_good hok
    have hmn := hg.mn
    obtain ⟨d1, d2, d3, d4⟩ := hg.days
    rw [hok]
    apply ct_skip
    apply ct_seq
    apply ct_seq
    apply ct_region
    apply seq_plain; exact do_move rfl; exact rfl
    apply seq_plain; exact do_binInt rfl rfl rfl trivial; exact rfl
    apply seq_plain; exact do_move rfl; exact rfl
    apply seq_guard (hd := rfl) (hl := rfl); exact do_fieldAddr rfl rfl; exact rfl
    apply seq_guard (hd := rfl) (hl := rfl); exact do_load rfl (by exact ext_get_new rfl) rfl (by exact rfl); exact rfl
    apply seq_guard (hd := rfl) (hl := rfl); exact do_lenS rfl rfl rfl; exact rfl
    apply seq_guard (hd := rfl) (hl := rfl); exact do_binInt rfl rfl rfl trivial; exact rfl
    apply seq_guard (hd := rfl) (hl := rfl); exact do_move rfl; exact rfl
    refine seq_gsplit rfl rfl (fun u1 => ?_) (fun u1 => ?_)
    · apply seq_passed (hd := rfl) (hl := rfl) (hb := rfl); exact rfl
      apply seq_passed (hd := rfl) (hl := rfl) (hb := rfl); exact rfl
      apply seq_passed (hd := rfl) (hl := rfl) (hb := rfl); exact rfl
      apply seq_passed (hd := rfl) (hl := rfl) (hb := rfl); exact rfl
      apply seq_passed (hd := rfl) (hl := rfl) (hb := rfl); exact rfl
      apply seq_passed (hd := rfl) (hl := rfl) (hb := rfl); exact rfl
      apply seq_guard (hd := rfl) (hl := rfl); exact do_pick_t rfl rfl; exact rfl
      apply seq_plain; exact do_pick_t rfl rfl; exact rfl
      apply seq_nil
      refine ct_cond_t rfl rfl ?_
      apply ct_seq
      apply ct_region
      apply seq_plain; exact do_assign rfl; exact rfl
      apply seq_nil
      apply ct_ret
      exact fin_flat hc rfl rfl rfl
    apply seq_guard (hd := rfl) (hl := rfl); exact do_fieldAddr rfl rfl; exact rfl
    apply seq_guard (hd := rfl) (hl := rfl); exact do_load rfl (by exact ext_get_new rfl) rfl (by exact rfl); exact rfl
    apply seq_guard (hd := rfl) (hl := rfl); exact do_fieldAddr rfl rfl; exact rfl
    apply seq_guard (hd := rfl) (hl := rfl); exact do_load rfl (by exact ext_get_new rfl) rfl (by exact rfl); exact rfl
    apply seq_guard (hd := rfl) (hl := rfl); exact do_sub rfl rfl (by omega); exact rfl
    apply seq_guard (hd := rfl) (hl := rfl); exact do_binInt rfl rfl rfl trivial; exact rfl
    apply seq_guard (hd := rfl) (hl := rfl); exact do_pick_f rfl rfl; exact rfl
    apply seq_plain; exact do_pick_t rfl rfl; exact rfl
    apply seq_nil
    refine ct_cond rfl (fun u2 => ?_) (fun u2 => ?_)
    · apply ct_seq
      apply ct_region
      apply seq_plain; exact do_assign rfl; exact rfl
      apply seq_nil
      apply ct_ret
      exact fin_flat hc rfl rfl rfl
    have hD : ∃ (dl : List Int) (E : Int), (∀ h, Ext H h → Ret Tryz.prog 38 [Pv mq m.length mc bq busy.length bc frm to, I i] h (.tuple ⟨[lstV h.fresh dl, I E]⟩) (lstH h 1 i1 dl)) ∧ dl.length ≤ 1000 ∧ ((E = 10 ∧ dl = [] ∧ (decide (i < 0) || decide (i ≥ (m.length : Int))) = true) ∨ (E = 0 ∧ (decide (i < 0) || decide (i ≥ (m.length : Int))) = false ∧ ∃ k : Nat, i = k ∧ k < m.length ∧ dl = datesL m busy frm to k)) := by
      cases hbad : (decide (i < 0) || decide (i ≥ (m.length : Int))) with
      | true =>
        have hE : datesE m busy frm to i = 10 := by unfold datesE; rw [hok, hbad]; rfl
        refine ⟨[], 10, fun h hh => ?_, by simp, .inl ⟨rfl, rfl, rfl⟩⟩
        have := dates2_bad (mc := mc) (bc := bc) (hm.ext hh) (hb.ext hh) hs (by rw [hE]; decide)
        rw [hE] at this; exact this
      | false =>
        obtain ⟨k, rfl⟩ := Int.eq_ofNat_of_zero_le (a := i) (by simp at hbad; omega)
        have hk : k < m.length := by simp at hbad; omega
        refine ⟨datesL m busy frm to k, 0, fun h hh => dates2_ok (hm.ext hh) (hb.ext hh) hs hok hk, ?_, .inr ⟨rfl, rfl, k, rfl, hk, rfl⟩⟩
        unfold datesL
        have := daysTo_len (busy := busy) (p := m[k]?.getD (0, 0)) (frm := frm) (n := (to - frm + 1).toNat)
        omega
    obtain ⟨dl, E, hD1, hD2, hD3⟩ := hD
    have c1 := fun L => hD1 (ext H H.fresh L) (ext_Ext hc)
    simp only [lstH_ext, ext_fresh] at c1
    apply ct_skip
    apply ct_seq
    apply ct_region
    apply seq_plain; exact do_load rfl (by exact ext_get_new rfl) rfl (by exact rfl); exact rfl
    apply seq_plain; exact do_move rfl; exact rfl
    apply seq_call (ht := rfl); exact c1 _; exact rfl
    apply seq_plain; exact do_move rfl; exact rfl
    apply seq_plain; exact do_extract rfl rfl; exact rfl
    apply seq_plain; exact do_extract rfl rfl; exact rfl
    apply seq_plain; exact do_assign rfl; exact rfl
    apply seq_plain; exact do_assign rfl; exact rfl
    apply seq_nil
    apply ct_seq
    apply ct_region
    apply seq_plain; exact do_load rfl (by exact ext_get_new rfl) rfl (by exact rfl); exact rfl
    refine seq_callQ rfl (postp_c (hm.ext (ext_Ext hc)) (hb.ext (ext_Ext hc)) hs hok) rfl fun v h' hR => ?_
    obtain ⟨p3, c3, sol, b, rfl, hs3, hE3, hc3, hl3, _, hkey⟩ := hR
    refine seqL_to sub_refl (hq_base hl3) (by simp) ?_
    have hpl := hE3 _ _ (ext_get_new (k := 1) rfl)
    have hbx := hE3 _ _ (ext_get_new (k := 0) rfl)
    have hdl2 : SlAt h' 1 i1 (lstP (nb H 2) dl) dl := SlAt.ext (by exact lst_slAt (fun _ => rfl)) hE3
    have hEE : Ext H h' := (ext_Ext hc).trans hE3
    have hE : firstL [0, whenL (decide (i < 0) || decide (i ≥ (m.length : Int))) 10] = E := by
      rcases hD3 with ⟨e1, _, e2⟩ | ⟨e1, e2, _⟩
      · rw [e1, e2]; rfl
      · rw [e1, e2]; rfl
    apply seq_plain; exact do_move rfl; exact rfl
    apply seq_plain; exact do_extract rfl rfl; exact rfl
    apply seq_plain; exact do_extract rfl rfl; exact rfl
    apply seq_plain; exact do_assign rfl; exact rfl
    apply seq_plain; exact do_assign rfl; exact rfl
    apply seq_nil
    apply ct_seq
    apply ct_region
    apply seq_plain; exact do_move rfl; exact rfl
    apply seq_plain; exact do_move rfl; exact rfl
    apply seq_plain; exact do_binInt rfl rfl rfl trivial; exact rfl
    apply seq_plain; exact do_move rfl; exact rfl
    refine seq_J [(5, .pointer (some ⟨nb H 1, 0, none⟩)), (6, I 0), (1, I i), (7, lstV (nb H 2) dl), (8, I E), (9, .slice p3 sol.length c3), (10, I (whenL (!b) 23)), (11, I (firstL [0, whenL (decide (i < 0) || decide (i ≥ (m.length : Int))) 10]))] (ds := []) (h := ext h' h'.low [some (.cells [I 0, I (whenL (decide (i < 0) || decide (i ≥ (m.length : Int))) 10)] 1 false false)]) ?_ ?_
    · clear hE hD3
      refine seq_gsplit rfl rfl (fun u1 => ?_) (fun u1 => ?_)
      · rw [u1]
        apply seq_passed (hd := rfl) (hl := rfl) (hb := rfl); exact rfl
        apply seq_passed (hd := rfl) (hl := rfl) (hb := rfl); exact rfl
        apply seq_passed (hd := rfl) (hl := rfl) (hb := rfl); exact rfl
        apply seq_passed (hd := rfl) (hl := rfl) (hb := rfl); exact rfl
        apply seq_passed (hd := rfl) (hl := rfl) (hb := rfl); exact rfl
        apply seq_plain; exact do_pick_t rfl rfl; exact rfl
        apply seq_call (ht := rfl); exact when23; exact rfl
        apply seq_newS; exact do_buildSlice rfl rfl rfl rfl rfl rfl rfl; exact rfl
        apply seq_call (ht := rfl); exact lawFirst_c (l := [_, _]) (slAt_map (ext_get_new rfl)) (by simp); exact rfl
        apply seq_plain; exact do_assign rfl; exact rfl
        apply seq_nil
        exact jp_of (by repeat (first | exact sub_nil | apply sub_cons rfl))
      · rw [u1]
        apply seq_guard (hd := rfl) (hl := rfl); exact do_move rfl; exact rfl
        apply seq_guard (hd := rfl) (hl := rfl); exact do_fieldAddr rfl rfl; exact rfl
        apply seq_guard (hd := rfl) (hl := rfl); exact do_load rfl (by exact ext_get_old (by assumption) (by assumption)) rfl (by exact rfl); exact rfl
        apply seq_guard (hd := rfl) (hl := rfl); exact do_lenS rfl rfl rfl; exact rfl
        apply seq_guard (hd := rfl) (hl := rfl); exact do_binInt rfl rfl rfl trivial; exact rfl
        apply seq_plain; exact do_pick_f rfl rfl; exact rfl
        apply seq_call (ht := rfl); exact when23; exact rfl
        apply seq_newS; exact do_buildSlice rfl rfl rfl rfl rfl rfl rfl; exact rfl
        apply seq_call (ht := rfl); exact lawFirst_c (l := [_, _]) (slAt_map (ext_get_new rfl)) (by simp); exact rfl
        apply seq_plain; exact do_assign rfl; exact rfl
        apply seq_nil
        exact jp_of (by repeat (first | exact sub_nil | apply sub_cons rfl))
    rw [hE]
    apply ct_seq
    apply ct_seq
    apply ct_region
    apply seq_plain; exact do_move rfl; exact rfl
    apply seq_plain; exact do_binInt rfl rfl rfl trivial; exact rfl
    apply seq_plain; exact do_move rfl; exact rfl
    refine seq_JX (ds := []) (α := List (Option ABlk)) (fun _ => [(5, .pointer (some ⟨nb H 1, 0, none⟩)), (6, I 0), (9, .slice p3 sol.length c3), (10, I (whenL (!b) 23)), (90, .bool false)]) (fun a => ext h' h'.low a) (fun _ => True) ?_ (fun a _ => ?_)
    · rcases hD3 with ⟨rfl, rfl, _⟩ | ⟨rfl, _, k, rfl, hk, hdk⟩
      · apply seq_guard (hd := rfl) (hl := rfl); exact do_move rfl; exact rfl
        apply seq_guard (hd := rfl) (hl := rfl); exact do_move rfl; exact rfl
        apply seq_guard (hd := rfl) (hl := rfl); exact do_move rfl; exact rfl
        apply seq_gcall (hg := rfl) (hl := rfl) (ht := rfl); exact list27_bad (n := 0) (by decide); exact rfl
        apply seq_guard (hd := rfl) (hl := rfl); exact do_unOp rfl rfl; exact rfl
        apply seq_plain; exact do_pick_t rfl rfl; exact rfl
        apply seq_plain; exact do_move rfl; exact rfl
        apply seq_guard (hd := rfl) (hl := rfl); exact do_move rfl; exact rfl
        apply seq_guard (hd := rfl) (hl := rfl); exact do_binInt rfl rfl rfl trivial; exact rfl
        apply seq_guard (hd := rfl) (hl := rfl); exact do_move rfl; exact rfl
        apply seq_passed (hd := rfl) (hl := rfl) (hb := rfl); exact rfl
        apply seq_passed (hd := rfl) (hl := rfl) (hb := rfl); exact rfl
        apply seq_passed (hd := rfl) (hl := rfl) (hb := rfl); exact rfl
        apply seq_passed (hd := rfl) (hl := rfl) (hb := rfl); exact rfl
        apply seq_passed (hd := rfl) (hl := rfl) (hb := rfl); exact rfl
        apply seq_passed (hd := rfl) (hl := rfl) (hb := rfl); exact rfl
        apply seq_passed (hd := rfl) (hl := rfl) (hb := rfl); exact rfl
        apply seq_guard (hd := rfl) (hl := rfl); exact do_pick_f rfl rfl; exact rfl
        apply seq_plain; exact do_pick_f rfl rfl; exact rfl
        apply seq_nil
        exact jx_of _ trivial (by repeat (first | exact sub_nil | apply sub_cons rfl)) rfl
      · have c2 := fun L => refDates_c (mc := mc) (bc := bc) (hm.ext (hEE.trans (ext_Ext hc3 (lo := h'.low) (L := L)))) (hb.ext (hEE.trans (ext_Ext hc3))) hg hk
        simp only [lstH_ext, ext_fresh] at c2
        rw [← hdk] at c2
        apply seq_passed (hd := rfl) (hl := rfl) (hb := rfl); exact rfl
        apply seq_passed (hd := rfl) (hl := rfl) (hb := rfl); exact rfl
        apply seq_passed (hd := rfl) (hl := rfl) (hb := rfl); exact rfl
        apply seq_passed (hd := rfl) (hl := rfl) (hb := rfl); exact rfl
        apply seq_passed (hd := rfl) (hl := rfl) (hb := rfl); exact rfl
        apply seq_plain; exact do_pick_f rfl rfl; exact rfl
        apply seq_plain; exact do_move rfl; exact rfl
        apply seq_guard (hd := rfl) (hl := rfl); exact do_move rfl; exact rfl
        apply seq_guard (hd := rfl) (hl := rfl); exact do_binInt rfl rfl rfl trivial; exact rfl
        apply seq_guard (hd := rfl) (hl := rfl); exact do_move rfl; exact rfl
        apply seq_guard (hd := rfl) (hl := rfl); exact do_move rfl; exact rfl
        apply seq_guard (hd := rfl) (hl := rfl); exact do_move rfl; exact rfl
        apply seq_guard (hd := rfl) (hl := rfl); exact do_load rfl (by exact ext_get_old (by assumption) (by assumption)) rfl (by exact rfl); exact rfl
        apply seq_guard (hd := rfl) (hl := rfl); exact do_move rfl; exact rfl
        apply seq_gcall (hg := rfl) (hl := rfl) (ht := rfl); exact c2 _; exact rfl
        skip
        apply seq_gcall (hg := rfl) (hl := rfl) (ht := rfl)
        exact list27 (l := dl) (m := dl) (hdl2.ext (ext_Ext hc3)) (lst_slAt (m := 1) (f := i1) fun _ => rfl) (by omega)
        exact rfl
        rw [show decide (dl = dl) = true by simp]
        apply seq_guard (hd := rfl) (hl := rfl); exact do_unOp rfl rfl; exact rfl
        apply seq_guard (hd := rfl) (hl := rfl); exact do_pick_t rfl rfl; exact rfl
        apply seq_plain; exact do_pick_f rfl rfl; exact rfl
        apply seq_nil
        exact jx_of _ trivial (by repeat (first | exact sub_nil | apply sub_cons rfl)) rfl
    clear hD1 hD3 hE c1 hdl2
    skip
    refine ct_cond_f rfl rfl ?_
    apply ct_skip
    apply ct_seq
    apply ct_seq
    apply ct_region
    apply seq_plain; exact do_move rfl; exact rfl
    apply seq_plain; exact do_binInt rfl rfl rfl trivial; exact rfl
    apply seq_nil
    refine ct_cond_f rfl rfl ?_
    have c4 := fun L => refPost_c (mc := mc) (bc := bc) hg m.length (H := ext h' h'.low L) (dq := none) (dc := 0) (days := []) (hm.ext (hEE.trans (ext_Ext hc3))) (hb.ext (hEE.trans (ext_Ext hc3))) .nil (fun _ => ⟨rfl, rfl⟩) (by simp)
    cases hr : Plan.refX (datesL m busy frm to) (solvesB (datesL m busy frm to) m) m.length [] with
    | none =>
      rw [hr] at hkey c4
      obtain ⟨rfl, rfl⟩ := hkey
      have c4 : ∀ L, Ret Tryz.prog 41 [Pv mq m.length mc bq busy.length bc frm to, .slice none 0 0] (ext h' h'.low L) (.tuple ⟨[.slice none 0 0, .bool false]⟩) (ext h' h'.low L) := c4
      apply ct_skip
      apply ct_seq
      apply ct_region
      apply seq_plain; exact do_load rfl (by exact ext_get_old (by assumption) (by assumption)) rfl (by exact rfl); exact rfl
      apply seq_call (ht := rfl); exact c4 _; exact rfl
      apply seq_plain; exact do_move rfl; exact rfl
      apply seq_plain; exact do_extract rfl rfl; exact rfl
      apply seq_plain; exact do_extract rfl rfl; exact rfl
      apply seq_plain; exact do_assign rfl; exact rfl
      apply seq_plain; exact do_assign rfl; exact rfl
      apply seq_nil
      apply ct_seq
      apply ct_region
      apply seq_plain; exact do_move rfl; exact rfl
      apply seq_plain; exact do_move rfl; exact rfl
      apply seq_plain; exact do_move rfl; exact rfl
      apply seq_plain; exact do_unOp rfl rfl; exact rfl
      apply seq_call (ht := rfl); exact when23; exact rfl
      apply seq_plain; exact do_move rfl; exact rfl
      apply seq_call (ht := rfl); exact list27_bad (n := 0) (by decide); exact rfl
      apply seq_plain; exact do_assign rfl; exact rfl
      apply seq_nil
      apply ct_ret
      exact fin_id rfl rfl
    | some sl =>
      have hlen : sl.length ≤ 8 := by
        have := hr
        rw [Plan.refX_ext (fun l => solvesB_iff) Plan.Valid.nil] at this
        have := (Plan.ext_valid Plan.Valid.nil this).2.1
        simp at this; omega
      rw [hr] at hkey
      obtain ⟨rfl, rfl⟩ := hkey
      have c4 : ∀ L, Ret Tryz.prog 41 [Pv mq m.length mc bq busy.length bc frm to, .slice none 0 0] (ext h' h'.low L) (.tuple ⟨[lstV (ext h' h'.low L).fresh sol, .bool true]⟩) (lstH (ext h' h'.low L) 1 i1 sol) := fun L => by
        have := c4 L
        rw [hr] at this
        generalize hf : m.length = f at this hr
        cases f with
        | zero =>
          have e : sol = [] := by
            simp only [Plan.refX] at hr
            split at hr
            · cases hr; rfl
            · cases hr
          subst e
          exact this
        | succ f => exact this
      simp only [lstH_ext, ext_fresh] at c4
      apply ct_skip
      apply ct_seq
      apply ct_region
      apply seq_plain; exact do_load rfl (by exact ext_get_old (by assumption) (by assumption)) rfl (by exact rfl); exact rfl
      apply seq_call (ht := rfl); exact c4 _; exact rfl
      apply seq_plain; exact do_move rfl; exact rfl
      apply seq_plain; exact do_extract rfl rfl; exact rfl
      apply seq_plain; exact do_extract rfl rfl; exact rfl
      apply seq_plain; exact do_assign rfl; exact rfl
      apply seq_plain; exact do_assign rfl; exact rfl
      apply seq_nil
      apply ct_seq
      apply ct_region
      apply seq_plain; exact do_move rfl; exact rfl
      apply seq_plain; exact do_move rfl; exact rfl
      apply seq_plain; exact do_move rfl; exact rfl
      apply seq_plain; exact do_unOp rfl rfl; exact rfl
      apply seq_call (ht := rfl); exact when23; exact rfl
      apply seq_plain; exact do_move rfl; exact rfl
      apply seq_call (ht := rfl)
      exact list27 (l := sol) (m := sol) (hs3.ext (ext_Ext hc3)) (lst_slAt (m := 1) (f := i1) fun _ => rfl) (by omega)
      exact rfl
      apply seq_plain; exact do_assign rfl; exact rfl
      apply seq_nil
      apply ct_ret
      exact fin_id rfl (by simp [packA])
  · have hx1 : (planE m busy frm to != 0) = true := by simpa using hok
    have hx2 : (planE m busy frm to == 0) = false := by simpa using hok
    have hE : datesE m busy frm to i = planE m busy frm to := by simp [datesE, firstL, hok]
    have hE2 : ∀ e, firstL [planE m busy frm to, e] = planE m busy frm to := fun e => by simp [firstL, hok]
    have c1 := fun L => dates2_bad (mc := mc) (bc := bc) (hm.ext (ext_Ext hc (lo := H.fresh) (L := L))) (hb.ext (ext_Ext hc)) hs (k := i) (by rw [hE]; exact hok)
    rw [hE] at c1
    have c2 := fun L => postp_bad (mc := mc) (bc := bc) (hm.ext (ext_Ext hc (lo := H.fresh) (L := L))) (hb.ext (ext_Ext hc)) hs hok
    apply ct_skip
    apply ct_seq
    apply ct_seq
    apply ct_region
    apply seq_plain; exact do_move rfl; exact rfl
    apply seq_plain; exact do_binInt rfl rfl rfl trivial; exact rfl
    apply seq_plain; exact do_move rfl; exact rfl
    rw [hx2]
    apply seq_passed (hd := rfl) (hl := rfl) (hb := rfl); exact rfl
    apply seq_passed (hd := rfl) (hl := rfl) (hb := rfl); exact rfl
    apply seq_passed (hd := rfl) (hl := rfl) (hb := rfl); exact rfl
    apply seq_passed (hd := rfl) (hl := rfl) (hb := rfl); exact rfl
    apply seq_passed (hd := rfl) (hl := rfl) (hb := rfl); exact rfl
    apply seq_passedU (hd := rfl) (hl := rfl); exact rfl
    apply seq_passedU (hd := rfl) (hl := rfl); exact rfl
    apply seq_passedU (hd := rfl) (hl := rfl); exact rfl
    apply seq_passedU (hd := rfl) (hl := rfl); exact rfl
    apply seq_passedU (hd := rfl) (hl := rfl); exact rfl
    apply seq_passedU (hd := rfl) (hl := rfl); exact rfl
    apply seq_passed (hd := rfl) (hl := rfl) (hb := rfl); exact rfl
    apply seq_plain; exact do_pick_f rfl rfl; exact rfl
    apply seq_nil
    refine ct_cond_f rfl rfl ?_
    apply ct_skip
    apply ct_seq
    apply ct_region
    apply seq_plain; exact do_load rfl (by exact ext_get_new rfl) rfl (by exact rfl); exact rfl
    apply seq_plain; exact do_move rfl; exact rfl
    apply seq_call (ht := rfl); exact c1 _; exact rfl
    apply seq_plain; exact do_move rfl; exact rfl
    apply seq_plain; exact do_extract rfl rfl; exact rfl
    apply seq_plain; exact do_extract rfl rfl; exact rfl
    apply seq_plain; exact do_assign rfl; exact rfl
    apply seq_plain; exact do_assign rfl; exact rfl
    apply seq_nil
    apply ct_seq
    apply ct_region
    apply seq_plain; exact do_load rfl (by exact ext_get_new rfl) rfl (by exact rfl); exact rfl
    apply seq_call (ht := rfl); exact c2 _; exact rfl
    apply seq_plain; exact do_move rfl; exact rfl
    apply seq_plain; exact do_extract rfl rfl; exact rfl
    apply seq_plain; exact do_extract rfl rfl; exact rfl
    apply seq_plain; exact do_assign rfl; exact rfl
    apply seq_plain; exact do_assign rfl; exact rfl
    apply seq_nil
    apply ct_seq
    apply ct_region
    apply seq_plain; exact do_move rfl; exact rfl
    apply seq_plain; exact do_move rfl; exact rfl
    apply seq_plain; exact do_binInt rfl rfl rfl trivial; exact rfl
    apply seq_plain; exact do_move rfl; exact rfl
    refine seq_J [(5, .pointer (some ⟨nb H 1, 0, none⟩)), (6, I (planE m busy frm to)), (1, I i), (7, .slice none 0 0), (8, I (planE m busy frm to)), (9, .slice none 0 0), (10, I (planE m busy frm to)), (11, I (planE m busy frm to))] (ds := []) (h := ext H H.fresh [some (.cells [.slice mq m.length mc, .slice bq busy.length bc, I frm, I to] 0 false false), some (.cells [.slice mq m.length mc, .slice bq busy.length bc, I frm, I to] 0 false false), some (.cells [I (planE m busy frm to), I (whenL (decide (i < 0) || decide (i ≥ (m.length : Int))) 10)] 1 false false)]) ?_ ?_
    · refine seq_gsplit rfl rfl (fun u1 => ?_) (fun u1 => ?_)
      · rw [u1]
        apply seq_passed (hd := rfl) (hl := rfl) (hb := rfl); exact rfl
        apply seq_passed (hd := rfl) (hl := rfl) (hb := rfl); exact rfl
        apply seq_passed (hd := rfl) (hl := rfl) (hb := rfl); exact rfl
        apply seq_passed (hd := rfl) (hl := rfl) (hb := rfl); exact rfl
        apply seq_passed (hd := rfl) (hl := rfl) (hb := rfl); exact rfl
        apply seq_plain; exact do_pick_t rfl rfl; exact rfl
        apply seq_call (ht := rfl); exact when23; exact rfl
        apply seq_newS; exact do_buildSlice rfl rfl rfl rfl rfl rfl rfl; exact rfl
        apply seq_call (ht := rfl); exact lawFirst_c (l := [_, _]) (slAt_map (ext_get_new rfl)) (by simp); exact rfl
        apply seq_plain; exact do_assign rfl; exact rfl
        apply seq_nil
        rw [hE2]
        exact jp_of (by repeat (first | exact sub_nil | apply sub_cons rfl))
      · rw [u1]
        apply seq_guard (hd := rfl) (hl := rfl); exact do_move rfl; exact rfl
        apply seq_guard (hd := rfl) (hl := rfl); exact do_fieldAddr rfl rfl; exact rfl
        apply seq_guard (hd := rfl) (hl := rfl); exact do_load rfl (by exact ext_get_new rfl) rfl (by exact rfl); exact rfl
        apply seq_guard (hd := rfl) (hl := rfl); exact do_lenS rfl rfl rfl; exact rfl
        apply seq_guard (hd := rfl) (hl := rfl); exact do_binInt rfl rfl rfl trivial; exact rfl
        apply seq_plain; exact do_pick_f rfl rfl; exact rfl
        apply seq_call (ht := rfl); exact when23; exact rfl
        apply seq_newS; exact do_buildSlice rfl rfl rfl rfl rfl rfl rfl; exact rfl
        apply seq_call (ht := rfl); exact lawFirst_c (l := [_, _]) (slAt_map (ext_get_new rfl)) (by simp); exact rfl
        apply seq_plain; exact do_assign rfl; exact rfl
        apply seq_nil
        rw [hE2]
        exact jp_of (by repeat (first | exact sub_nil | apply sub_cons rfl))
    apply ct_seq
    apply ct_seq
    apply ct_region
    apply seq_plain; exact do_move rfl; exact rfl
    apply seq_plain; exact do_binInt rfl rfl rfl trivial; exact rfl
    apply seq_plain; exact do_move rfl; exact rfl
    rw [hx1]
    apply seq_guard (hd := rfl) (hl := rfl); exact do_move rfl; exact rfl
    apply seq_guard (hd := rfl) (hl := rfl); exact do_move rfl; exact rfl
    apply seq_guard (hd := rfl) (hl := rfl); exact do_move rfl; exact rfl
    apply seq_gcall (hg := rfl) (hl := rfl) (ht := rfl); exact list27_bad (n := 0) hok; exact rfl
    rw [show (decide ((0 : Nat) = 0) && (planE m busy frm to == planE m busy frm to)) = true by simp]
    apply seq_guard (hd := rfl) (hl := rfl); exact do_unOp rfl rfl; exact rfl
    apply seq_plain; exact do_pick_t rfl rfl; exact rfl
    apply seq_plain; exact do_move rfl; exact rfl
    apply seq_guard (hd := rfl) (hl := rfl); exact do_move rfl; exact rfl
    apply seq_guard (hd := rfl) (hl := rfl); exact do_binInt rfl rfl rfl trivial; exact rfl
    apply seq_guard (hd := rfl) (hl := rfl); exact do_move rfl; exact rfl
    rw [hx2]
    apply seq_passed (hd := rfl) (hl := rfl) (hb := rfl); exact rfl
    apply seq_passed (hd := rfl) (hl := rfl) (hb := rfl); exact rfl
    apply seq_passed (hd := rfl) (hl := rfl) (hb := rfl); exact rfl
    apply seq_passed (hd := rfl) (hl := rfl) (hb := rfl); exact rfl
    apply seq_passed (hd := rfl) (hl := rfl) (hb := rfl); exact rfl
    apply seq_passed (hd := rfl) (hl := rfl) (hb := rfl); exact rfl
    apply seq_passed (hd := rfl) (hl := rfl) (hb := rfl); exact rfl
    apply seq_guard (hd := rfl) (hl := rfl); exact do_pick_f rfl rfl; exact rfl
    apply seq_plain; exact do_pick_f rfl rfl; exact rfl
    apply seq_nil
    refine ct_cond_f rfl rfl ?_
    apply ct_skip
    apply ct_seq
    apply ct_seq
    apply ct_region
    apply seq_plain; exact do_move rfl; exact rfl
    apply seq_plain; exact do_binInt rfl rfl rfl trivial; exact rfl
    apply seq_nil
    refine ct_cond_t rfl hx1 ?_
    apply ct_seq
    apply ct_region
    apply seq_plain; exact do_move rfl; exact rfl
    apply seq_plain; exact do_move rfl; exact rfl
    apply seq_plain; exact do_move rfl; exact rfl
    apply seq_call (ht := rfl); exact list27_bad (n := 0) hok; exact rfl
    apply seq_plain; exact do_assign rfl; exact rfl
    apply seq_nil
    apply ct_ret
    exact fin_flat hc rfl rfl (by simp [packA])
end Go.Proofs.YtiggikjbknoohaaGreatDoor
