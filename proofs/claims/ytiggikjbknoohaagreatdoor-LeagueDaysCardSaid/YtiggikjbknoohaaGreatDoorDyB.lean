/- LeagueDays: the law's own walk. -/
import Derived.Test.YtiggikjbknoohaaGreatDoorPnH
import Derived.Test.YtiggikjbknoohaaGreatDoorElE
import Derived.Test.YtiggikjbknoohaaGreatDoorFnI
import Derived.Test.YtiggikjbknoohaaGreatDoorStC
import Derived.Test.YtiggikjbknoohaaGreatDoorDyL
noncomputable section
namespace Go.Proofs.YtiggikjbknoohaaGreatDoor
open Go Go.Den
set_option maxRecDepth 100000

theorem tyPr : ∃ ti e ei, (ctxOf Tryz.prog).ty.get 23 = some ti ∧ ti.und = .array 2 e ∧ (ctxOf Tryz.prog).ty.get e = some ei ∧ ei.size = 1 ∧ isAggD ei.und = false ∧ ei.und = .int .i64 :=
  ⟨_, 3, _, ctx_ty rfl, rfl, ctx_ty rfl, rfl, rfl, rfl⟩
theorem keyPr2 : KeyOk Tryz.prog 23 prV := by
  obtain ⟨ti, e, ei, h1, h2, h3, h4, h5, h6⟩ := tyPr
  have one : ∀ x : Int, chkV (ctxOf Tryz.prog) 19 e (I x) = true := by
    intro x
    simp only [chkV, h3, h6]
  have one2 : ∀ x y : Int, eqV Tryz.prog (ctxOf Tryz.prog) 19 e (I x) (I y) = some (x == y) := by
    intro x y
    simp only [eqV, h3, h6]; simp
  have p0 : ∀ x y : Int, partA ei [I x, I y] (0 * 1) = some (I x) := by intro x y; simp [partA, h5]
  have p1 : ∀ x y : Int, partA ei [I x, I y] (1 * 1) = some (I y) := by intro x y; simp [partA, h5]
  refine ⟨fun a => ?_, fun a => ?_, fun a b => ?_, fun a => ?_⟩
  · have hv : chkV (ctxOf Tryz.prog) 20 23 (Pr a.1 a.2) = true := by
      rw [chkV]
      simp only [h1, h2, h3]
      simp only [show List.range 2 = [0, 1] from rfl, chkIs, h4, p0, p1, one]
      rfl
    simp [keyOk, prV, flatC, Value.cells]
    exact hv
  · simp [prV, flatC, Value.cells]
  · have : eqV Tryz.prog (ctxOf Tryz.prog) 20 23 (Pr a.1 a.2) (Pr b.1 b.2) = some ((a.1 == b.1) && (a.2 == b.2)) := by
      rw [eqV]
      simp only [h1, h2, h3]
      simp only [show List.range 2 = [0, 1] from rfl, eqIs, h4, p0, p1, one2]
      cases (a.1 == b.1) <;> cases (a.2 == b.2) <;> rfl
    rw [prV, prV, this]
    congr 1
    obtain ⟨a1, a2⟩ := a
    obtain ⟨b1, b2⟩ := b
    by_cases h1 : a1 = b1 <;> by_cases h2 : a2 = b2 <;> simp [h1, h2]
  · simp [sameKey, prV, eqFlats, eqFlat]

set_option maxHeartbeats 16000000 in
theorem law9 {H : AHeap} {mq bq : Option Addr} {mc bc : Nat} {m : List (Int × Int)} {busy : List Bz} {frm to : Int} (haw : ∀ h, Ext H h → Ret Tryz.prog 17 [] h (.bool true) h) (hm : SlAt H 2 p2 mq m) (hcap : m.length ≤ mc) (hb : BzAt H bq busy) :
    CallT Tryz.prog 9 [Pv mq m.length mc bq busy.length bc frm to] H (fun v _ => v = .bool true) := by
  refine fn_start Tryz.func9 rfl rfl rfl fun hc => ?_
  apply ct_seq
  apply ct_region
  apply seq_newP; exact do_box rfl rfl rfl; exact rfl
  apply seq_plain; exact do_assign rfl; exact rfl
  apply seq_nil
  apply ct_seq
  apply ct_region
  apply seq_plain; exact do_load rfl (by exact ext_get_new rfl) rfl (by exact rfl); exact rfl
  apply seq_newP; exact do_alloc rfl rfl; exact rfl
  apply seq_putC (hc := by assumption); rotate_left; exact do_store rfl rfl (by exact ext_get_new rfl) rfl rfl (nb_own _); rotate_left; exact Nat.le_of_ble_eq_true rfl
  apply ct_seq
  apply ct_seq
  apply ct_region
  apply seq_call (ht := rfl); exact haw _ (ext_Ext hc); exact rfl
  apply seq_plain; exact do_unOp rfl rfl; exact rfl
  apply seq_plain; exact do_move rfl; exact rfl
  apply seq_guard (hd := rfl) (hl := rfl); exact do_load rfl (by exact ext_get_new rfl) rfl (by exact rfl); exact rfl
  obtain ⟨T, hT⟩ : ∃ T : Bool, T = (!(shortP m busy) || (planE m busy frm to != 0) || decide ((m.length : Int) > 4) || decide (to - frm > 8)) := ⟨_, rfl⟩
  refine seq_J [(1, .pointer (some ⟨nb H 0, 0, none⟩)), (52, .bool T)] (ds := []) (h := ext H H.fresh [some (.cells [.slice mq m.length mc, .slice bq busy.length bc, I frm, I to] 0 false false), some (.cells [.slice mq m.length mc, .slice bq busy.length bc, I frm, I to] 0 false false)]) ?_ ?_
  · apply seq_gcall (hg := rfl) (hl := rfl) (ht := rfl); exact shortPlan_c (hb.ext (ext_Ext hc)); exact rfl
    apply seq_guard (hd := rfl) (hl := rfl); exact do_unOp rfl rfl; exact rfl
    apply seq_plain; exact do_pick_f rfl rfl; exact rfl
    apply seq_plain; exact do_move rfl; exact rfl
    refine seq_gsplit rfl rfl (fun u1 => ?_) (fun u1 => ?_)
    · have e : T = true := by
        have u1 : (!shortP m busy) = true := u1
        rw [hT, u1]; rfl
      rw [e]
      apply seq_passed (hd := rfl) (hl := rfl) (hb := rfl); exact rfl
      apply seq_passed (hd := rfl) (hl := rfl) (hb := rfl); exact rfl
      apply seq_passed (hd := rfl) (hl := rfl) (hb := rfl); exact rfl
      apply seq_plain; exact do_pick_t rfl rfl; exact rfl
      apply seq_plain; exact do_move rfl; exact rfl
      apply seq_passed (hd := rfl) (hl := rfl) (hb := rfl); exact rfl
      apply seq_passed (hd := rfl) (hl := rfl) (hb := rfl); exact rfl
      apply seq_passed (hd := rfl) (hl := rfl) (hb := rfl); exact rfl
      apply seq_passed (hd := rfl) (hl := rfl) (hb := rfl); exact rfl
      apply seq_plain; exact do_pick_t rfl rfl; exact rfl
      apply seq_plain; exact do_move rfl; exact rfl
      apply seq_passed (hd := rfl) (hl := rfl) (hb := rfl); exact rfl
      apply seq_passed (hd := rfl) (hl := rfl) (hb := rfl); exact rfl
      apply seq_passed (hd := rfl) (hl := rfl) (hb := rfl); exact rfl
      apply seq_passed (hd := rfl) (hl := rfl) (hb := rfl); exact rfl
      apply seq_passed (hd := rfl) (hl := rfl) (hb := rfl); exact rfl
      apply seq_passed (hd := rfl) (hl := rfl) (hb := rfl); exact rfl
      apply seq_plain; exact do_pick_t rfl rfl; exact rfl
      apply seq_nil
      exact jp_of (by repeat (first | exact sub_nil | apply sub_cons rfl))
    · have u1 : shortP m busy = true := by simpa using u1
      apply seq_guard (hd := rfl) (hl := rfl); exact do_load rfl (by exact ext_get_new rfl) rfl (by exact rfl); exact rfl
      apply seq_gcall (hg := rfl) (hl := rfl) (ht := rfl); exact refCheckPlan_c (hm.ext (ext_Ext hc)) (hb.ext (ext_Ext hc)) u1; exact rfl
      apply seq_guard (hd := rfl) (hl := rfl); exact do_binInt rfl rfl rfl trivial; exact rfl
      apply seq_plain; exact do_pick_f rfl rfl; exact rfl
      apply seq_plain; exact do_move rfl; exact rfl
      refine seq_gsplit rfl rfl (fun u2 => ?_) (fun u2 => ?_)
      · have e : T = true := by
          have u2 : (planE m busy frm to != 0) = true := u2
          rw [hT, u1, u2]; rfl
        rw [e]
        apply seq_passed (hd := rfl) (hl := rfl) (hb := rfl); exact rfl
        apply seq_passed (hd := rfl) (hl := rfl) (hb := rfl); exact rfl
        apply seq_passed (hd := rfl) (hl := rfl) (hb := rfl); exact rfl
        apply seq_passed (hd := rfl) (hl := rfl) (hb := rfl); exact rfl
        apply seq_plain; exact do_pick_t rfl rfl; exact rfl
        apply seq_plain; exact do_move rfl; exact rfl
        apply seq_passed (hd := rfl) (hl := rfl) (hb := rfl); exact rfl
        apply seq_passed (hd := rfl) (hl := rfl) (hb := rfl); exact rfl
        apply seq_passed (hd := rfl) (hl := rfl) (hb := rfl); exact rfl
        apply seq_passed (hd := rfl) (hl := rfl) (hb := rfl); exact rfl
        apply seq_passed (hd := rfl) (hl := rfl) (hb := rfl); exact rfl
        apply seq_passed (hd := rfl) (hl := rfl) (hb := rfl); exact rfl
        apply seq_plain; exact do_pick_t rfl rfl; exact rfl
        apply seq_nil
        exact jp_of (by repeat (first | exact sub_nil | apply sub_cons rfl))
      · have hok : planE m busy frm to = 0 := by simpa using u2
        have hg := plan_good hok
        obtain ⟨d1, d2, d3, d4⟩ := hg.days
        apply seq_guard (hd := rfl) (hl := rfl); exact do_fieldAddr rfl rfl; exact rfl
        apply seq_guard (hd := rfl) (hl := rfl); exact do_load rfl (by exact ext_get_new rfl) rfl (by exact rfl); exact rfl
        apply seq_guard (hd := rfl) (hl := rfl); exact do_lenS rfl rfl rfl; exact rfl
        apply seq_guard (hd := rfl) (hl := rfl); exact do_binInt rfl rfl rfl trivial; exact rfl
        apply seq_plain; exact do_pick_f rfl rfl; exact rfl
        apply seq_plain; exact do_move rfl; exact rfl
        refine seq_gsplit rfl rfl (fun u3 => ?_) (fun u3 => ?_)
        · have e : T = true := by
            have u3 : decide ((m.length : Int) > 4) = true := u3
            rw [hT, u1, u3]; simp
          rw [e]
          apply seq_passed (hd := rfl) (hl := rfl) (hb := rfl); exact rfl
          apply seq_passed (hd := rfl) (hl := rfl) (hb := rfl); exact rfl
          apply seq_passed (hd := rfl) (hl := rfl) (hb := rfl); exact rfl
          apply seq_passed (hd := rfl) (hl := rfl) (hb := rfl); exact rfl
          apply seq_passed (hd := rfl) (hl := rfl) (hb := rfl); exact rfl
          apply seq_passed (hd := rfl) (hl := rfl) (hb := rfl); exact rfl
          apply seq_plain; exact do_pick_t rfl rfl; exact rfl
          apply seq_nil
          exact jp_of (by repeat (first | exact sub_nil | apply sub_cons rfl))
        · have e : T = decide (to - frm > 8) := by
            have u3 : decide ((m.length : Int) > 4) = false := u3
            rw [hT, u1, u3, hok]; rfl
          rw [e]
          apply seq_guard (hd := rfl) (hl := rfl); exact do_fieldAddr rfl rfl; exact rfl
          apply seq_guard (hd := rfl) (hl := rfl); exact do_load rfl (by exact ext_get_new rfl) rfl (by exact rfl); exact rfl
          apply seq_guard (hd := rfl) (hl := rfl); exact do_fieldAddr rfl rfl; exact rfl
          apply seq_guard (hd := rfl) (hl := rfl); exact do_load rfl (by exact ext_get_new rfl) rfl (by exact rfl); exact rfl
          apply seq_guard (hd := rfl) (hl := rfl); exact do_sub rfl rfl (by omega); exact rfl
          apply seq_guard (hd := rfl) (hl := rfl); exact do_binInt rfl rfl rfl trivial; exact rfl
          apply seq_plain; exact do_pick_f rfl rfl; exact rfl
          apply seq_nil
          exact jp_of (by repeat (first | exact sub_nil | apply sub_cons rfl))
  skip
  refine ct_cond rfl (fun h1 => ?_) (fun h1 => ?_)
  · apply ct_seq
    apply ct_region
    apply seq_call (ht := rfl); exact haw _ (ext_Ext hc); exact rfl
    apply seq_plain; exact do_assign rfl; exact rfl
    apply seq_nil
    apply ct_ret
    exact fin_flat hc rfl rfl rfl
  rw [hT] at h1
  simp only [Bool.or_eq_false_iff, decide_eq_false_iff_not] at h1
  obtain ⟨⟨⟨hs, hok⟩, h4⟩, h8⟩ := h1
  have hs : shortP m busy = true := by simpa using hs
  have hok : planE m busy frm to = 0 := by simpa using hok
  clear hT
  have hgp := plan_good hok
  have hmn := hgp.mn
  obtain ⟨d1, d2, d3, d4⟩ := hgp.days
  apply ct_skip
  apply ct_seq
  apply ct_region
  apply seq_plain; exact do_load rfl (by exact ext_get_new rfl) rfl (by exact rfl); exact rfl
  refine seq_callQ rfl (postp_c (hm.ext (ext_Ext hc)) (hb.ext (ext_Ext hc)) hs hok) rfl fun v h' hR => ?_
  obtain ⟨p3, c3, sol, b, rfl, hs3, hE3, hc3, hl3, _, hkey⟩ := hR
  refine seqL_to sub_refl (hq_base hl3) (by simp) ?_
  have hbx := hE3 _ _ (ext_get_new (k := 0) rfl)
  have hEE : Ext H h' := (ext_Ext hc).trans hE3
  apply seq_plain; exact do_move rfl; exact rfl
  apply seq_plain; exact do_extract rfl rfl; exact rfl
  apply seq_plain; exact do_extract rfl rfl; exact rfl
  apply seq_plain; exact do_assign rfl; exact rfl
  apply seq_plain; exact do_assign rfl; exact rfl
  apply seq_nil
  apply ct_seq
  apply ct_seq
  apply ct_region
  apply seq_plain; exact do_move rfl; exact rfl
  apply seq_plain; exact do_binInt rfl rfl rfl trivial; exact rfl
  apply seq_nil
  cases hr : Plan.refX (datesL m busy frm to) (solvesB (datesL m busy frm to) m) m.length [] with
  | none =>
    rw [hr] at hkey
    obtain ⟨rfl, rfl⟩ := hkey
    have hm0 : decide ((m.length : Int) > 0) = true := by
      have : m.length ≠ 0 := fun e => by rw [e, refX_zero] at hr; cases hr
      simp; omega
    refine ct_cond_t rfl rfl ?_
    apply ct_seq
    apply ct_region
    apply seq_plain; exact do_move rfl; exact rfl
    apply seq_plain; exact do_binInt rfl rfl rfl trivial; exact rfl
    apply seq_plain; exact do_move rfl; exact rfl
    apply seq_guard (hd := rfl) (hl := rfl); exact do_fieldAddr rfl rfl; exact rfl
    apply seq_guard (hd := rfl) (hl := rfl); exact do_load rfl (by exact ext_get_old (by assumption) (by assumption)) rfl (by exact rfl); exact rfl
    apply seq_guard (hd := rfl) (hl := rfl); exact do_lenS rfl rfl rfl; exact rfl
    apply seq_guard (hd := rfl) (hl := rfl); exact do_binInt rfl rfl rfl trivial; exact rfl
    apply seq_plain; exact do_pick_t rfl rfl; exact rfl
    apply seq_plain; exact do_assign rfl; exact rfl
    apply seq_nil
    apply ct_ret
    rw [hm0]
    skip
    exact fin_id rfl rfl
  | some sl =>
  rw [hr] at hkey
  obtain ⟨rfl, rfl⟩ := hkey
  rw [Plan.refX_ext (fun l => solvesB_iff) Plan.Valid.nil] at hr
  obtain ⟨hv, hl, _⟩ := Plan.ext_valid Plan.Valid.nil hr
  have hl : sol.length = m.length := by simpa using hl
  refine ct_cond_f rfl rfl ?_
  apply ct_skip
  apply ct_seq
  apply ct_seq
  apply ct_region
  apply seq_plain; exact do_move rfl; exact rfl
  apply seq_plain; exact do_lenS rfl rfl rfl; exact rfl
  apply seq_plain; exact do_fieldAddr rfl rfl; exact rfl
  apply seq_plain; exact do_load rfl (by exact ext_get_old (by assumption) (by assumption)) rfl (by exact rfl); exact rfl
  apply seq_plain; exact do_lenS rfl rfl rfl; exact rfl
  apply seq_plain; exact do_binInt rfl rfl rfl trivial; exact rfl
  apply seq_nil
  refine ct_cond_f rfl (by simp [hl]) ?_
  apply ct_skip
  apply ct_seq
  apply ct_region
  apply seq_newM; exact do_makeMap0; exact rfl
  apply seq_plain; exact do_assign rfl; exact rfl
  apply seq_nil
  apply ct_seq
  apply ct_seq
  apply ct_region
  apply seq_plain; exact do_fieldAddr rfl rfl; exact rfl
  apply seq_plain; exact do_load rfl (by exact ext_get_old (by assumption) (by assumption)) rfl (by exact rfl); exact rfl
  apply seq_plain; exact do_lenS rfl rfl rfl; exact rfl
  apply seq_plain; exact do_move rfl; exact rfl
  apply seq_nil
  apply ct_block
  apply ct_loop
  obtain ⟨b3, o3, cs3, z3, s3, ro3, hs3o⟩ : ∃ b3 o3 cs3 z3 s3 ro3, m.length ≠ 0 → p3 = some ⟨b3, o3, none⟩ ∧ h'.get b3 = some (.cells cs3 z3 s3 ro3) ∧ ∀ i (h : i < sol.length), sliceIn cs3 (o3 + i * 1) 1 = some (i1 sol[i]) := by
    by_cases e : sol = []
    · exact ⟨0, 0, [], 0, false, false, fun h => absurd (by rw [← hl, e]; rfl) h⟩
    · obtain ⟨b, o, cs, z, s, ro, h1, h2, h3⟩ := hs3.out e
      exact ⟨b, o, cs, z, s, ro, fun _ => ⟨h1, h2, h3⟩⟩
  have cD := fun (i : Nat) (hi : i < m.length) L => dates2_ok (mc := mc) (bc := bc) (hm.ext (hEE.trans (ext_Ext hc3 (lo := h'.low) (L := L)))) (hb.ext (hEE.trans (ext_Ext hc3))) hs hok hi
  simp only [lstH_ext, ext_fresh] at cD
  refine lt_meas (α := Nat × List (Option ABlk)) (fun a => [(1, .pointer (some ⟨nb H 0, 0, none⟩)), (4, .slice p3 sol.length c3), (6, .map (some (nb h' 0))), (77, .slice mq m.length mc), (78, I m.length), (79, I a.1)]) (fun a => ext h' h'.low (some (setM prV (dayK m sol a.1)) :: a.2)) (fun a => a.1 ≤ m.length) (fun a => m.length - a.1) (fun a hi ih => ?_) (0, []) (by simp) (by repeat (first | exact sub_nil | apply sub_cons rfl)) (.refl _)
  obtain ⟨i, R⟩ := a
  simp only at hi ih ⊢
  have ih' := fun i' R' a1 a2 => ih (i', R') a1 a2
  simp only at ih'
  clear ih
  apply ct_seq
  apply ct_region
  apply seq_plain; exact do_binInt rfl rfl rfl trivial; exact rfl
  apply seq_nil
  apply ct_seq
  refine ct_cond rfl (fun h1 => ?_) (fun h1 => ?_)
  · simp only [decide_eq_true_eq, Int.ofNat_lt] at h1
    obtain ⟨rfl, hg3, hw3⟩ := hs3o (by omega)
    have his : i < sol.length := by omega
    obtain ⟨b, o, cs, z, s, ro, hmq, hg, hw⟩ := (hm.ext hEE).out (by intro e; rw [e] at h1; simp at h1)
    have c1 := cD i h1
    obtain ⟨dl, hdl⟩ : ∃ dl, dl = datesL m busy frm to i := ⟨_, rfl⟩
    rw [← hdl] at c1
    have hd2 : dl.length ≤ 1000 := by
      rw [hdl]
      unfold datesL
      have := daysTo_len (busy := busy) (p := m[i]?.getD (0, 0)) (frm := frm) (n := (to - frm + 1).toNat)
      omega
    have hin : dl.any (fun x => x == sol[i]) = true := by
      rw [List.any_eq_true]
      exact ⟨sol[i], by rw [hdl]; exact hv.day i _ (List.getElem?_eq_getElem his), by simp⟩
    obtain ⟨hn1, hn2⟩ := day_new hv h1 his
    subst hmq
    have hds := lst_slAt (H := h') (lo := h'.low) (L := some (setM prV (dayK m sol i)) :: R ++ [some (ABlk.cells [I m[i].1, I m[i].2] 0 false false)]) (m := 1) (f := i1) (l := dl) (fun _ => rfl)
    have g8 : (some (setM prV (dayK m sol i)) :: R ++ [some (ABlk.cells [I m[i].1, I m[i].2] 0 false false)] ++ lstL 1 i1 dl)[(some (setM prV (dayK m sol i)) :: R).length]? = some (some (ABlk.cells [I m[i].1, I m[i].2] 0 false false)) := getApp List.getElem?_concat_length
    have eL : ∀ (X : List (Option ABlk)) (A B : Option ABlk), (X ++ [A]).set X.length B = X ++ [B] := by intro X A B; simp
    apply ct_skip
    apply ct_seq
    apply ct_block
    apply ct_seq
    apply ct_region
    apply seq_plain; exact do_move rfl; exact rfl
    apply seq_plain; exact do_indexAddrS rfl rfl rfl (by exact idx_nat (by omega)); exact rfl
    apply seq_plain; exact do_load rfl (by exact ext_get_old (by assumption) (by assumption)) rfl (by exact pt_sl (by assumption) (by omega)); exact rfl
    apply seq_newP; exact do_alloc rfl rfl; exact rfl
    apply seq_plain; exact do_assign rfl; exact rfl
    apply seq_putC (hc := by assumption); rotate_left; exact do_store rfl rfl (by exact ext_get_new List.getElem?_concat_length) rfl rfl (nb_own _); rotate_left; exact (by simp)
    apply ct_seq
    apply ct_region
    apply seq_plain; exact do_load rfl (by exact ext_get_old (by assumption) (by assumption)) rfl (by exact rfl); exact rfl
    apply seq_plain; exact do_move rfl; exact rfl
    rw [eL]
    apply seq_call (ht := rfl); exact c1 _; exact rfl
    apply seq_plain; exact do_move rfl; exact rfl
    apply seq_plain; exact do_extract rfl rfl; exact rfl
    apply seq_plain; exact do_extract rfl rfl; exact rfl
    apply seq_plain; exact do_assign rfl; exact rfl
    apply seq_plain; exact do_assign rfl; exact rfl
    apply seq_nil
    apply ct_seq
    apply ct_seq
    apply ct_region
    apply seq_plain; exact do_move rfl; exact rfl
    apply seq_plain; exact do_binInt rfl rfl rfl trivial; exact rfl
    apply seq_nil
    refine ct_cond_f rfl rfl ?_
    apply ct_skip
    apply ct_seq
    apply ct_region
    apply seq_plain; exact do_assign rfl; exact rfl
    apply seq_nil
    apply ct_seq
    apply ct_seq
    apply ct_region
    apply seq_plain; exact do_move rfl; exact rfl
    apply seq_plain; exact do_lenS rfl rfl rfl; exact rfl
    apply seq_plain; exact do_move rfl; exact rfl
    apply seq_nil
    apply ct_block
    apply ct_loop
    refine lt_up (fun j => [(1, .pointer (some ⟨nb H 0, 0, none⟩)), (4, .slice (some ⟨b3, o3, none⟩) sol.length c3), (6, .map (some (nb h' 0))), (7, I i), (8, .pointer (some ⟨nb h' (some (setM prV (dayK m sol i)) :: R).length, 0, none⟩)), (11, .bool ((dl.take j).any fun x => x == sol[i])), (77, .slice (some ⟨b, o, none⟩) m.length mc), (78, I m.length), (79, I i), (92, .slice (lstP (nb h' (some (setM prV (dayK m sol i)) :: R ++ [some (ABlk.cells [I m[i].1, I m[i].2] 0 false false)]).length) dl) dl.length dl.length), (93, I dl.length), (94, I j)]) (fun _ => True) dl.length (fun j hj _ ih2 => ?_) 0 (by omega) trivial (by repeat (first | exact sub_nil | apply sub_cons rfl))
    apply ct_seq
    apply ct_region
    apply seq_plain; exact do_binInt rfl rfl rfl trivial; exact rfl
    apply seq_nil
    apply ct_seq
    refine ct_cond rfl (fun h2 => ?_) (fun h2 => ?_)
    · simp only [decide_eq_true_eq, Int.ofNat_lt] at h2
      obtain ⟨bd, od, csd, zd, sd, rod, hpd, hgd, hwd⟩ := hds.out (by intro e; rw [e] at h2; simp at h2)
      have e1 : ((dl.take (j + 1)).any fun x => x == sol[i]) = (((dl.take j).any fun x => x == sol[i]) || (dl[j] == sol[i])) := by
        rw [take_snoc h2]
        simp only [List.any_append, List.any_cons, List.any_nil, Bool.or_false]
      rw [hpd] at ih2 ⊢
      apply ct_skip
      apply ct_seq
      apply ct_block
      apply ct_seq
      apply ct_region
      apply seq_plain; exact do_indexAddrS rfl rfl rfl (by exact idx_nat (by omega)); exact rfl
      apply seq_plain; exact do_load rfl (by assumption) rfl (by exact pt_sl0 (by assumption) (by omega)); exact rfl
      apply seq_plain; exact do_assign rfl; exact rfl
      apply seq_nil
      apply ct_region
      apply seq_plain; exact do_move rfl; exact rfl
      apply seq_plain; exact do_move rfl; exact rfl
      refine seq_J [(1, .pointer (some ⟨nb H 0, 0, none⟩)), (4, .slice (some ⟨b3, o3, none⟩) sol.length c3), (6, .map (some (nb h' 0))), (7, I i), (8, .pointer (some ⟨nb h' (some (setM prV (dayK m sol i)) :: R).length, 0, none⟩)), (11, .bool ((dl.take (j + 1)).any fun x => x == sol[i])), (77, .slice (some ⟨b, o, none⟩) m.length mc), (78, I m.length), (79, I i), (92, .slice (some ⟨bd, od, none⟩) dl.length dl.length), (93, I dl.length), (94, I j)] (ds := []) (h := ext h' h'.low (some (setM prV (dayK m sol i)) :: R ++ [some (ABlk.cells [I m[i].1, I m[i].2] 0 false false)] ++ lstL 1 i1 dl)) ?_ ?_
      · rw [e1]
        refine seq_gsplit rfl rfl (fun u1 => ?_) (fun u1 => ?_)
        · have u1 : ((dl.take j).any fun x => x == sol[i]) = true := u1
          rw [u1]
          apply seq_passed (hd := rfl) (hl := rfl) (hb := rfl); exact rfl
          apply seq_passed (hd := rfl) (hl := rfl) (hb := rfl); exact rfl
          apply seq_passed (hd := rfl) (hl := rfl) (hb := rfl); exact rfl
          apply seq_passed (hd := rfl) (hl := rfl) (hb := rfl); exact rfl
          apply seq_passed (hd := rfl) (hl := rfl) (hb := rfl); exact rfl
          apply seq_passed (hd := rfl) (hl := rfl) (hb := rfl); exact rfl
          apply seq_plain; exact do_pick_t rfl rfl; exact rfl
          apply seq_plain; exact do_assign rfl; exact rfl
          apply seq_nil
          exact jp_of (by repeat (first | exact sub_nil | apply sub_cons rfl))
        · have u1 : ((dl.take j).any fun x => x == sol[i]) = false := u1
          rw [u1]
          apply seq_guard (hd := rfl) (hl := rfl); exact do_move rfl; exact rfl
          apply seq_guard (hd := rfl) (hl := rfl); exact do_move rfl; exact rfl
          apply seq_guard (hd := rfl) (hl := rfl); exact do_move rfl; exact rfl
          apply seq_guard (hd := rfl) (hl := rfl); exact do_indexAddrS rfl rfl rfl (by exact idx_nat (by omega)); exact rfl
          apply seq_guard (hd := rfl) (hl := rfl); exact do_load rfl (by exact ext_get_old (by assumption) (by assumption)) rfl (by exact pt_sl0 (by assumption) (by omega)); exact rfl
          apply seq_guard (hd := rfl) (hl := rfl); exact do_binInt rfl rfl rfl trivial; exact rfl
          apply seq_plain; exact do_pick_f rfl rfl; exact rfl
          apply seq_plain; exact do_assign rfl; exact rfl
          apply seq_nil
          exact jp_of (by repeat (first | exact sub_nil | apply sub_cons rfl))
      apply ct_region
      apply seq_plain; exact do_succ rfl (by omega); exact rfl
      apply seq_plain; exact do_move rfl; exact rfl
      apply seq_nil
      exact lt_to (by repeat (first | exact sub_nil | apply sub_cons rfl)) (.refl _) (ih2 (j + 1) (by omega) (by omega) trivial)
    · simp only [decide_eq_false_iff_not, Int.ofNat_lt] at h2
      rw [take_all (by omega), hin]
      apply ct_exit
      apply exit_eq; exact rfl
      apply ct_seq
      apply ct_seq
      apply ct_draw (by assumption); decide +kernel
      apply sd_plain (hfree := rfl); intro _; exact do_move rfl; exact rfl
      apply sd_plain (hfree := rfl); intro _; exact do_unOp rfl rfl; exact rfl
      apply sd_plain (hfree := rfl); intro _; exact do_move rfl; exact rfl
      apply sd_guard (hfree := rfl) (hg := rfl) (hl := rfl); intro _; exact do_move rfl; exact rfl
      apply sd_guard (hfree := rfl) (hg := rfl) (hl := rfl); intro _; exact do_indexAddrA rfl rfl rfl (by exact rfl); exact rfl
      apply sd_guardL (hfree := rfl) (hg := rfl) (hl := rfl); exact do_load rfl (by exact ext_get_new (getApp (by assumption))) rfl (by exact rfl); exact rfl
      apply sd_guard (hfree := rfl) (hg := rfl) (hl := rfl); intro _; exact do_move rfl; exact rfl
      apply sd_guard (hfree := rfl) (hg := rfl) (hl := rfl); intro _; exact do_move rfl; exact rfl
      apply sd_guard (hfree := rfl) (hg := rfl) (hl := rfl); intro _; exact do_indexAddrS rfl rfl rfl (by exact idx_nat (by omega)); exact rfl
      apply sd_guardL (hfree := rfl) (hg := rfl) (hl := rfl); exact do_load rfl (by exact ext_get_old (by assumption) (by assumption)) rfl (by exact pt_sl0 (by assumption) (by omega)); exact rfl
      apply sd_guard (hfree := rfl) (hg := rfl) (hl := rfl); intro _; exact do_build rfl rfl rfl rfl; exact rfl
      apply sd_guardL (hfree := rfl) (hg := rfl) (hl := rfl)
      exact do_setGet (f := prV) (a := (m[i].1, sol[i])) (ks := dayK m sol i) rfl rfl (ext_get_new rfl) rfl zeroBool keyPr2
      exact rfl
      rw [memK_f hn1]
      apply sd_plain (hfree := rfl); intro _; exact do_pick_f rfl rfl; exact rfl
      apply sd_plain (hfree := rfl); intro _; exact do_move rfl; exact rfl
      apply sd_guard (hfree := rfl) (hg := rfl) (hl := rfl); intro _; exact do_move rfl; exact rfl
      apply sd_guard (hfree := rfl) (hg := rfl) (hl := rfl); intro _; exact do_indexAddrA rfl rfl rfl (by exact rfl); exact rfl
      apply sd_guardL (hfree := rfl) (hg := rfl) (hl := rfl); exact do_load rfl (by exact ext_get_new (getApp (by assumption))) rfl (by exact rfl); exact rfl
      apply sd_guard (hfree := rfl) (hg := rfl) (hl := rfl); intro _; exact do_move rfl; exact rfl
      apply sd_guard (hfree := rfl) (hg := rfl) (hl := rfl); intro _; exact do_move rfl; exact rfl
      apply sd_guard (hfree := rfl) (hg := rfl) (hl := rfl); intro _; exact do_indexAddrS rfl rfl rfl (by exact idx_nat (by omega)); exact rfl
      apply sd_guardL (hfree := rfl) (hg := rfl) (hl := rfl); exact do_load rfl (by exact ext_get_old (by assumption) (by assumption)) rfl (by exact pt_sl0 (by assumption) (by omega)); exact rfl
      apply sd_guard (hfree := rfl) (hg := rfl) (hl := rfl); intro _; exact do_build rfl rfl rfl rfl; exact rfl
      apply sd_guardL (hfree := rfl) (hg := rfl) (hl := rfl)
      exact do_setGet (f := prV) (a := (m[i].2, sol[i])) (ks := dayK m sol i) rfl rfl (ext_get_new rfl) rfl zeroBool keyPr2
      exact rfl
      rw [memK_f hn2]
      apply sd_plain (hfree := rfl); intro _; exact do_pick_f rfl rfl; exact rfl
      apply sd_nil
      refine ct_cond_f rfl rfl ?_
      simp only [List.map_nil, List.append_nil]
      apply ct_skip
      have hne : (m[i].2, sol[i]) ∉ dayK m sol i ++ [(m[i].1, sol[i])] := fun h => by
        rcases List.mem_append.1 h with h | h
        · exact hn2 h
        · exact (hgp.pair _ (List.getElem_mem h1)).2.2 (Prod.mk.inj (List.mem_singleton.1 h)).1.symm
      have eK : dayK m sol (i + 1) = dayK m sol i ++ [(m[i].1, sol[i])] ++ [(m[i].2, sol[i])] := by
        rw [dayK_succ h1 his]
        unfold addK
        rw [if_neg hn1, if_neg hne]
      have g9 : ((some (setM prV (dayK m sol i)) :: R ++ [some (ABlk.cells [I m[i].1, I m[i].2] 0 false false)] ++ lstL 1 i1 dl).set 0 none)[(some (setM prV (dayK m sol i)) :: R).length]? = some (some (ABlk.cells [I m[i].1, I m[i].2] 0 false false)) := by
        rw [List.getElem?_set_ne (by simp)]; exact g8
      refine ct_drawF (k := 0) hc3 (by simp) (by decide +kernel) ?_
      apply sf_free (hfree := rfl) (hnl := rfl); intro _; exact do_move rfl; exact rfl
      apply sf_free (hfree := rfl) (hnl := rfl); intro _; exact do_indexAddrA rfl rfl rfl (by exact rfl); exact rfl
      apply sf_off (hc := by assumption) (hfree := rfl) (hLx := rfl) (hnl := rfl); exact do_load rfl (by exact ext_get_new (by assumption)) rfl (by exact rfl); exact rfl
      apply sf_free (hfree := rfl) (hnl := rfl); intro _; exact do_move rfl; exact rfl
      apply sf_free (hfree := rfl) (hnl := rfl); intro _; exact do_move rfl; exact rfl
      apply sf_free (hfree := rfl) (hnl := rfl); intro _; exact do_indexAddrS rfl rfl rfl (by exact idx_nat (by omega)); exact rfl
      apply sf_off (hc := by assumption) (hfree := rfl) (hLx := rfl) (hnl := rfl); exact do_load rfl (by exact ext_get_old (by assumption) (by assumption)) rfl (by exact pt_sl0 (by assumption) (by omega)); exact rfl
      apply sf_free (hfree := rfl) (hnl := rfl); intro _; exact do_build rfl rfl rfl rfl; exact rfl
      apply sf_free (hfree := rfl) (hnl := rfl); intro _; exact do_move rfl; exact rfl
      apply sf_free (hfree := rfl) (hnl := rfl); intro _; exact do_indexAddrA rfl rfl rfl (by exact rfl); exact rfl
      apply sf_off (hc := by assumption) (hfree := rfl) (hLx := rfl) (hnl := rfl); exact do_load rfl (by exact ext_get_new (by assumption)) rfl (by exact rfl); exact rfl
      apply sf_free (hfree := rfl) (hnl := rfl); intro _; exact do_move rfl; exact rfl
      apply sf_free (hfree := rfl) (hnl := rfl); intro _; exact do_move rfl; exact rfl
      apply sf_free (hfree := rfl) (hnl := rfl); intro _; exact do_indexAddrS rfl rfl rfl (by exact idx_nat (by omega)); exact rfl
      apply sf_off (hc := by assumption) (hfree := rfl) (hLx := rfl) (hnl := rfl); exact do_load rfl (by exact ext_get_old (by assumption) (by assumption)) rfl (by exact pt_sl0 (by assumption) (by omega)); exact rfl
      apply sf_free (hfree := rfl) (hnl := rfl); intro _; exact do_build rfl rfl rfl rfl; exact rfl
      apply sf_turnV (hc := hc3) (hfree := rfl) (hok := by decide +kernel) (htj := rfl) (hnl := rfl) (hLk := rfl)
      exact do_entNew (f := prV) (a := (m[i].1, sol[i])) (ks := dayK m sol i) rfl rfl (ext_get_new rfl) rfl zeroBool keyPr2 (nb_own _) hn1
      exact rfl
      apply sf_free (hfree := rfl) (hnl := rfl); intro _; exact do_extract rfl rfl; exact rfl
      apply sf_turn0 (hc := hc3) (hfree := rfl) (hok := by decide +kernel) (htj := by decide +kernel) (hnl := rfl) (hLk := rfl)
      exact do_entStore (f := prV) (a := (m[i].1, sol[i])) (ks := dayK m sol i) rfl rfl rfl (ext_get_new rfl) (nb_own _)
      apply sf_serV (k' := 0) (hc := hc3) (hfree := rfl) (hser := by decide +kernel) (hlt := by simp)
      exact do_entNew (f := prV) (a := (m[i].2, sol[i])) (ks := dayK m sol i ++ [(m[i].1, sol[i])]) rfl rfl (ext_get_new rfl) rfl zeroBool keyPr2 (nb_own _) hne
      exact rfl
      apply sd_plain (hfree := rfl); intro _; exact do_extract rfl rfl; exact rfl
      apply sd_put (k := 0) (hfree := rfl) (hser := by decide +kernel) (hc := hc3) (hlt := by simp)
      exact do_entStore (f := prV) (a := (m[i].2, sol[i])) (ks := dayK m sol i ++ [(m[i].1, sol[i])]) rfl rfl rfl (ext_get_new rfl) (nb_own _)
      rw [← eK]
      apply sd_nil
      apply ct_region
      apply seq_plain; exact do_succ rfl (by omega); exact rfl
      apply seq_plain; exact do_move rfl; exact rfl
      apply seq_nil
      have ih := fun R' => ih' (i + 1) R' (by omega) (by omega)
      exact lt_to (by repeat (first | exact sub_nil | apply sub_cons rfl)) (.refl _) (ih _)
  · simp only [decide_eq_false_iff_not, Int.ofNat_lt] at h1
    obtain rfl : i = m.length := by omega
    clear ih'
    apply ct_exit
    apply exit_eq; exact rfl
    apply ct_seq
    apply ct_seq
    apply ct_region
    apply seq_plain; exact do_fieldAddr rfl rfl; exact rfl
    apply seq_plain; exact do_load rfl (by exact ext_get_old (by assumption) (by assumption)) rfl (by exact rfl); exact rfl
    apply seq_plain; exact do_lenS rfl rfl rfl; exact rfl
    apply seq_plain; exact do_move rfl; exact rfl
    apply seq_nil
    apply ct_block
    apply ct_loop
    refine lt_meas (α := Nat × List (Option ABlk)) (fun a => [(1, .pointer (some ⟨nb H 0, 0, none⟩)), (4, .slice p3 sol.length c3), (6, .map (some (nb h' 0))), (154, .slice mq m.length mc), (155, I m.length), (156, I a.1)]) (fun a => ext h' h'.low (some (setM prV (dayK m sol m.length)) :: a.2)) (fun a => a.1 ≤ m.length) (fun a => m.length - a.1) (fun a hi ih => ?_) (0, R) (by simp) (by repeat (first | exact sub_nil | apply sub_cons rfl)) (.refl _)
    clear R
    obtain ⟨i, R⟩ := a
    simp only at hi ih ⊢
    have ih' := fun i' R' a1 a2 => ih (i', R') a1 a2
    simp only at ih'
    clear ih
    apply ct_seq
    apply ct_region
    apply seq_plain; exact do_binInt rfl rfl rfl trivial; exact rfl
    apply seq_nil
    apply ct_seq
    refine ct_cond rfl (fun h1 => ?_) (fun h1 => ?_)
    · simp only [decide_eq_true_eq, Int.ofNat_lt] at h1
      obtain ⟨rfl, hg3, hw3⟩ := hs3o (by omega)
      have his : i < sol.length := by omega
      obtain ⟨b, o, cs, z, s, ro, hmq, hg, hw⟩ := (hm.ext hEE).out (by intro e; rw [e] at h1; simp at h1)
      have c1 := cD i h1
      obtain ⟨dl, hdl⟩ : ∃ dl, dl = datesL m busy frm to i := ⟨_, rfl⟩
      rw [← hdl] at c1
      have hd2 : dl.length ≤ 1000 := by
        rw [hdl]
        unfold datesL
        have := daysTo_len (busy := busy) (p := m[i]?.getD (0, 0)) (frm := frm) (n := (to - frm + 1).toNat)
        omega
      subst hmq
      have hds := lst_slAt (H := h') (lo := h'.low) (L := some (setM prV (dayK m sol m.length)) :: R ++ [some (ABlk.cells [I m[i].1, I m[i].2] 0 false false)]) (m := 1) (f := i1) (l := dl) (fun _ => rfl)
      have g8 : (some (setM prV (dayK m sol m.length)) :: R ++ [some (ABlk.cells [I m[i].1, I m[i].2] 0 false false)] ++ lstL 1 i1 dl)[(some (setM prV (dayK m sol m.length)) :: R).length]? = some (some (ABlk.cells [I m[i].1, I m[i].2] 0 false false)) := getApp List.getElem?_concat_length
      have eL : ∀ (X : List (Option ABlk)) (A B : Option ABlk), (X ++ [A]).set X.length B = X ++ [B] := by intro X A B; simp
      apply ct_skip
      apply ct_seq
      apply ct_block
      apply ct_seq
      apply ct_region
      apply seq_plain; exact do_move rfl; exact rfl
      apply seq_plain; exact do_indexAddrS rfl rfl rfl (by exact idx_nat (by omega)); exact rfl
      apply seq_plain; exact do_load rfl (by exact ext_get_old (by assumption) (by assumption)) rfl (by exact pt_sl (by assumption) (by omega)); exact rfl
      apply seq_newP; exact do_alloc rfl rfl; exact rfl
      apply seq_plain; exact do_assign rfl; exact rfl
      apply seq_putC (hc := by assumption); rotate_left; exact do_store rfl rfl (by exact ext_get_new List.getElem?_concat_length) rfl rfl (nb_own _); rotate_left; exact (by simp)
      apply ct_seq
      apply ct_region
      apply seq_plain; exact do_load rfl (by exact ext_get_old (by assumption) (by assumption)) rfl (by exact rfl); exact rfl
      apply seq_plain; exact do_move rfl; exact rfl
      rw [eL]
      apply seq_call (ht := rfl); exact c1 _; exact rfl
      apply seq_plain; exact do_move rfl; exact rfl
      apply seq_plain; exact do_extract rfl rfl; exact rfl
      apply seq_plain; exact do_extract rfl rfl; exact rfl
      apply seq_plain; exact do_assign rfl; exact rfl
      apply seq_plain; exact do_assign rfl; exact rfl
      apply seq_nil
      apply ct_seq
      apply ct_region
      apply seq_plain; exact do_move rfl; exact rfl
      apply seq_plain; exact do_lenS rfl rfl rfl; exact rfl
      apply seq_plain; exact do_move rfl; exact rfl
      apply seq_nil
      apply ct_block
      apply ct_loop
      refine lt_up (fun j => [(1, .pointer (some ⟨nb H 0, 0, none⟩)), (4, .slice (some ⟨b3, o3, none⟩) sol.length c3), (6, .map (some (nb h' 0))), (14, I i), (15, .pointer (some ⟨nb h' (some (setM prV (dayK m sol m.length)) :: R).length, 0, none⟩)), (154, .slice (some ⟨b, o, none⟩) m.length mc), (155, I m.length), (156, I i), (167, .slice (lstP (nb h' (some (setM prV (dayK m sol m.length)) :: R ++ [some (ABlk.cells [I m[i].1, I m[i].2] 0 false false)]).length) dl) dl.length dl.length), (168, I dl.length), (169, I j)]) (fun _ => True) dl.length (fun j hj _ ih2 => ?_) 0 (by omega) trivial (by repeat (first | exact sub_nil | apply sub_cons rfl))
      apply ct_seq
      apply ct_region
      apply seq_plain; exact do_binInt rfl rfl rfl trivial; exact rfl
      apply seq_nil
      apply ct_seq
      refine ct_cond rfl (fun h2 => ?_) (fun h2 => ?_)
      · simp only [decide_eq_true_eq, Int.ofNat_lt] at h2
        obtain ⟨bd, od, csd, zd, sd, rod, hpd, hgd, hwd⟩ := hds.out (by intro e; rw [e] at h2; simp at h2)
        have hal := fun (hlt : dl[j] < sol[i]) (k1 : (m[i].1, dl[j]) ∉ dayK m sol m.length) (k2 : (m[i].2, dl[j]) ∉ dayK m sol m.length) => day_alone hr h1 his (x := dl[j]) (by rw [← hdl]; exact List.getElem_mem h2) hlt k1 k2
        rw [hpd] at ih2 ⊢
        apply ct_skip
        apply ct_seq
        apply ct_block
        apply ct_seq
        apply ct_region
        apply seq_plain; exact do_indexAddrS rfl rfl rfl (by exact idx_nat (by omega)); exact rfl
        apply seq_plain; exact do_load rfl (by assumption) rfl (by exact pt_sl0 (by assumption) (by omega)); exact rfl
        apply seq_plain; exact do_assign rfl; exact rfl
        apply seq_nil
        apply ct_seq
        apply ct_region
        apply seq_plain; exact do_move rfl; exact rfl
        apply seq_plain; exact do_move rfl; exact rfl
        apply seq_plain; exact do_move rfl; exact rfl
        apply seq_plain; exact do_indexAddrS rfl rfl rfl (by exact idx_nat (by omega)); exact rfl
        apply seq_plain; exact do_load rfl (by exact ext_get_old (by assumption) (by assumption)) rfl (by exact pt_sl0 (by assumption) (by omega)); exact rfl
        apply seq_plain; exact do_binInt rfl rfl rfl trivial; exact rfl
        apply seq_plain; exact do_move rfl; exact rfl
        refine seq_J [(1, .pointer (some ⟨nb H 0, 0, none⟩)), (4, .slice (some ⟨b3, o3, none⟩) sol.length c3), (6, .map (some (nb h' 0))), (14, I i), (15, .pointer (some ⟨nb h' (some (setM prV (dayK m sol m.length)) :: R).length, 0, none⟩)), (154, .slice (some ⟨b, o, none⟩) m.length mc), (155, I m.length), (156, I i), (167, .slice (some ⟨bd, od, none⟩) dl.length dl.length), (168, I dl.length), (169, I j), (196, .bool false)] (ds := []) (h := ext h' h'.low (some (setM prV (dayK m sol m.length)) :: R ++ [some (ABlk.cells [I m[i].1, I m[i].2] 0 false false)] ++ lstL 1 i1 dl)) ?_ ?_
        · refine seq_gsplit rfl rfl (fun u1 => ?_) (fun u1 => ?_)
          · have hlt : dl[j] < sol[i] := by simpa using u1
            apply seq_guard (hd := rfl) (hl := rfl); exact do_move rfl; exact rfl
            apply seq_guard (hd := rfl) (hl := rfl); exact do_indexAddrA rfl rfl rfl (by exact rfl); exact rfl
            apply seq_guard (hd := rfl) (hl := rfl); exact do_load rfl (by exact ext_get_new (by assumption)) rfl (by exact rfl); exact rfl
            apply seq_guard (hd := rfl) (hl := rfl); exact do_move rfl; exact rfl
            apply seq_guard (hd := rfl) (hl := rfl); exact do_build rfl rfl rfl rfl; exact rfl
            apply seq_guard (hd := rfl) (hl := rfl); exact do_setGet (f := prV) (a := (m[i].1, dl[j])) (ks := dayK m sol m.length) rfl rfl (ext_get_new rfl) rfl zeroBool keyPr2; exact rfl
            apply seq_guard (hd := rfl) (hl := rfl); exact do_unOp rfl rfl; exact rfl
            apply seq_plain; exact do_pick_t rfl rfl; exact rfl
            apply seq_plain; exact do_move rfl; exact rfl
            refine seq_gsplit rfl rfl (fun u2 => ?_) (fun u2 => ?_)
            · have k1 : (m[i].1, dl[j]) ∉ dayK m sol m.length := fun h => by
                have u2 : (!memK (dayK m sol m.length) (m[i].1, dl[j])) = true := u2
                rw [memK_iff.2 h] at u2; cases u2
              have k2 : memK (dayK m sol m.length) (m[i].2, dl[j]) = true := by
                cases h : memK (dayK m sol m.length) (m[i].2, dl[j])
                · exact absurd (hal hlt k1 fun h' => by rw [memK_iff.2 h'] at h; cases h) id
                · rfl
              apply seq_guard (hd := rfl) (hl := rfl); exact do_move rfl; exact rfl
              apply seq_guard (hd := rfl) (hl := rfl); exact do_indexAddrA rfl rfl rfl (by exact rfl); exact rfl
              apply seq_guard (hd := rfl) (hl := rfl); exact do_load rfl (by exact ext_get_new (by assumption)) rfl (by exact rfl); exact rfl
              apply seq_guard (hd := rfl) (hl := rfl); exact do_move rfl; exact rfl
              apply seq_guard (hd := rfl) (hl := rfl); exact do_build rfl rfl rfl rfl; exact rfl
              apply seq_guard (hd := rfl) (hl := rfl); exact do_setGet (f := prV) (a := (m[i].2, dl[j])) (ks := dayK m sol m.length) rfl rfl (ext_get_new rfl) rfl zeroBool keyPr2; exact rfl
              rw [k2]
              apply seq_guard (hd := rfl) (hl := rfl); exact do_unOp rfl rfl; exact rfl
              apply seq_plain; exact do_pick_t rfl rfl; exact rfl
              apply seq_nil
              exact jp_of (by repeat (first | exact sub_nil | apply sub_cons rfl))
            · apply seq_passed (hd := rfl) (hl := rfl) (hb := rfl); exact rfl
              apply seq_passed (hd := rfl) (hl := rfl) (hb := rfl); exact rfl
              apply seq_passed (hd := rfl) (hl := rfl) (hb := rfl); exact rfl
              apply seq_passed (hd := rfl) (hl := rfl) (hb := rfl); exact rfl
              apply seq_passed (hd := rfl) (hl := rfl) (hb := rfl); exact rfl
              apply seq_passed (hd := rfl) (hl := rfl) (hb := rfl); exact rfl
              apply seq_passed (hd := rfl) (hl := rfl) (hb := rfl); exact rfl
              apply seq_plain; exact do_pick_f rfl rfl; exact rfl
              apply seq_nil
              exact jp_of (by repeat (first | exact sub_nil | apply sub_cons rfl))
          · apply seq_passed (hd := rfl) (hl := rfl) (hb := rfl); exact rfl
            apply seq_passed (hd := rfl) (hl := rfl) (hb := rfl); exact rfl
            apply seq_passed (hd := rfl) (hl := rfl) (hb := rfl); exact rfl
            apply seq_passed (hd := rfl) (hl := rfl) (hb := rfl); exact rfl
            apply seq_passed (hd := rfl) (hl := rfl) (hb := rfl); exact rfl
            apply seq_passed (hd := rfl) (hl := rfl) (hb := rfl); exact rfl
            apply seq_passed (hd := rfl) (hl := rfl) (hb := rfl); exact rfl
            apply seq_plain; exact do_pick_f rfl rfl; exact rfl
            apply seq_plain; exact do_move rfl; exact rfl
            apply seq_passed (hd := rfl) (hl := rfl) (hb := rfl); exact rfl
            apply seq_passed (hd := rfl) (hl := rfl) (hb := rfl); exact rfl
            apply seq_passed (hd := rfl) (hl := rfl) (hb := rfl); exact rfl
            apply seq_passed (hd := rfl) (hl := rfl) (hb := rfl); exact rfl
            apply seq_passed (hd := rfl) (hl := rfl) (hb := rfl); exact rfl
            apply seq_passed (hd := rfl) (hl := rfl) (hb := rfl); exact rfl
            apply seq_passed (hd := rfl) (hl := rfl) (hb := rfl); exact rfl
            apply seq_plain; exact do_pick_f rfl rfl; exact rfl
            apply seq_nil
            exact jp_of (by repeat (first | exact sub_nil | apply sub_cons rfl))
        skip
        refine ct_cond_f rfl rfl ?_
        apply ct_skip
        apply ct_region
        apply seq_plain; exact do_succ rfl (by omega); exact rfl
        apply seq_plain; exact do_move rfl; exact rfl
        apply seq_nil
        exact lt_to (by repeat (first | exact sub_nil | apply sub_cons rfl)) (.refl _) (ih2 (j + 1) (by omega) (by omega) trivial)
      · apply ct_exit
        apply exit_eq; exact rfl
        apply ct_region
        apply seq_plain; exact do_succ rfl (by omega); exact rfl
        apply seq_plain; exact do_move rfl; exact rfl
        apply seq_nil
        have ih := fun R' => ih' (i + 1) R' (by omega) (by omega)
        exact lt_to (by repeat (first | exact sub_nil | apply sub_cons rfl)) (.refl _) (ih _)
    · simp only [decide_eq_false_iff_not, Int.ofNat_lt] at h1
      clear ih'
      apply ct_exit
      apply exit_eq; exact rfl
      apply ct_seq
      apply ct_seq
      apply ct_region
      apply seq_plain; exact do_fieldAddr rfl rfl; exact rfl
      apply seq_plain; exact do_load rfl (by exact ext_get_old (by assumption) (by assumption)) rfl (by exact rfl); exact rfl
      apply seq_plain; exact do_lenS rfl rfl rfl; exact rfl
      apply seq_plain; exact do_binInt rfl rfl rfl trivial; exact rfl
      apply seq_nil
      refine ct_cond rfl (fun h2 => ?_) (fun h2 => ?_)
      · apply ct_seq
        apply ct_region
        apply seq_plain; exact do_assign rfl; exact rfl
        apply seq_nil
        apply ct_ret
        exact fin_id rfl rfl
      have hmp : m.length ≠ 0 := by
        have h2 : ((m.length : Int) == 0) = false := h2
        simp at h2
        exact fun e => h2 (List.length_eq_zero_iff.1 e)
      obtain ⟨b, o, cs, z, s, ro, hmq, hg, hw⟩ := (hm.ext hEE).out (by intro e; rw [e] at hmp; simp at hmp)
      obtain ⟨m', hm'⟩ : ∃ m', m' = m.take (m.length - 1) := ⟨_, rfl⟩
      have hml : m'.length = m.length - 1 := by rw [hm', List.length_take]; omega
      have hs' : shortP m' busy = true := by
        unfold shortP at hs ⊢
        simp only [Bool.and_eq_true, decide_eq_true_eq] at hs ⊢
        exact ⟨hs.1, hs.2.1, by omega⟩
      have hok' : planE m' busy frm to = 0 := plan_sub hok (fun p hp => List.mem_of_mem_take (hm' ▸ hp)) (by omega) (Int.le_refl _) d3 d4
      have hmt : SlAt H 2 p2 mq m' := by rw [hm']; exact hm.take _
      have hnil : mq = none → m.length = 0 ∧ mc = 0 := fun e => by rw [e] at hmq; cases hmq
      have hsp : ∀ a, mq = some a → a.spot = none := fun a e => by rw [e] at hmq; cases hmq; rfl
      apply ct_skip
      apply ct_seq
      apply ct_region
      apply seq_plain; exact do_load rfl (by exact ext_get_old (by assumption) (by assumption)) rfl (by exact rfl); exact rfl
      apply seq_newP; exact do_alloc rfl rfl; exact rfl
      apply seq_putC (hc := by assumption); rotate_left; exact do_store rfl rfl (by exact ext_get_new List.getElem?_concat_length) rfl rfl (nb_own _); rotate_left; exact (by simp)
      apply ct_seq
      apply ct_region
      apply seq_plain; exact do_fieldAddr rfl rfl; exact rfl
      apply seq_plain; exact do_load rfl (by exact ext_get_old (by assumption) (by assumption)) rfl (by exact rfl); exact rfl
      apply seq_plain; exact do_fieldAddr rfl rfl; exact rfl
      apply seq_plain; exact do_load rfl (by exact ext_get_old (by assumption) (by assumption)) rfl (by exact rfl); exact rfl
      apply seq_plain; exact do_lenS rfl rfl rfl; exact rfl
      apply seq_plain; exact do_sub rfl rfl (by omega); exact rfl
      rw [show (m.length : Int) - 1 = ((m'.length : Nat) : Int) by omega]
      apply seq_plain; exact do_sliceTo (p := mq) (n := m.length) (c := mc) (i := m'.length) rfl rfl rfl hnil hsp (by omega); exact rfl
      apply seq_plain; exact do_fieldAddr rfl rfl; exact rfl
      apply seq_putC (hc := by assumption); rotate_left; exact do_store rfl rfl (by exact ext_get_new getSetLast) rfl rfl (nb_own _); rotate_left; exact (by simp)
      apply ct_seq
      apply ct_region
      have eL2 : ∀ (X : List (Option ABlk)) (A B C : Option ABlk), ((X ++ [A]).set X.length B).set X.length C = X ++ [C] := by intro X A B C; simp
      rw [eL2]
      apply seq_plain; exact do_load rfl (by exact ext_get_new List.getElem?_concat_length) rfl (by exact rfl); exact rfl
      refine seq_callQ rfl (postp_c (m := m') (mc := mc) (bc := bc) (hmt.ext (hEE.trans (ext_Ext hc3))) (hb.ext (hEE.trans (ext_Ext hc3))) hs' hok') rfl fun v h2 hR => ?_
      obtain ⟨p4, c4, sol4, b4, rfl, hs4, hE4, hc4, hl4, _, hkey4⟩ := hR
      have hbx4 := hE4 _ _ (ext_get_old hc3 hbx)
      have hEE4 : Ext H h2 := hEE.trans ((ext_Ext hc3).trans hE4)
      obtain ⟨t4, ht4, hlt4⟩ := refX_fewer hv hl (k := m.length - 1) (by omega)
      rw [← hm'] at ht4
      rw [ht4] at hkey4
      obtain ⟨rfl, rfl⟩ := hkey4
      refine seqL_to sub_refl (hq_base hl4) (by simp) ?_
      obtain ⟨to', hto'⟩ : ∃ to' : Int, to' = min 99999 (to + 3) := ⟨_, rfl⟩
      have g1 : to ≤ to' := by omega
      have g2 : to' ≤ 99999 := by omega
      have hok5 : planE m busy frm to' = 0 := plan_sub hok (fun p hp => hp) (Nat.le_refl _) g1 g2 (by omega)
      obtain ⟨t5, ht5, hlt5⟩ := refX_longer hv hl g1
      apply seq_plain; exact do_move rfl; exact rfl
      apply seq_plain; exact do_extract rfl rfl; exact rfl
      apply seq_plain; exact do_extract rfl rfl; exact rfl
      apply seq_plain; exact do_assign rfl; exact rfl
      apply seq_plain; exact do_assign rfl; exact rfl
      apply seq_nil
      apply ct_seq
      apply ct_region
      apply seq_plain; exact do_load rfl (by exact ext_get_old (by assumption) (by assumption)) rfl (by exact rfl); exact rfl
      apply seq_newP; exact do_alloc rfl rfl; exact rfl
      apply seq_putC (hc := by assumption); rotate_left; exact do_store rfl rfl (by exact ext_get_new rfl) rfl rfl (nb_own _); rotate_left; exact Nat.le_of_ble_eq_true rfl
      apply ct_seq
      apply ct_region
      apply seq_plain; exact do_fieldAddr rfl rfl; exact rfl
      apply seq_plain; exact do_load rfl (by exact ext_get_old (by assumption) (by assumption)) rfl (by exact rfl); exact rfl
      apply seq_plain; exact do_add rfl rfl (by omega); exact rfl
      apply seq_plain; exact do_min rfl; exact rfl
      apply seq_plain; exact do_fieldAddr rfl rfl; exact rfl
      apply seq_putC (hc := by assumption); rotate_left; exact do_store rfl rfl (by exact ext_get_new rfl) rfl rfl (nb_own _); rotate_left; exact Nat.le_of_ble_eq_true rfl
      apply ct_seq
      apply ct_region
      apply seq_plain; exact do_load rfl (by exact ext_get_new rfl) rfl (by exact rfl); exact rfl
      subst hto'
      refine seq_callQ rfl (postp_c (m := m) (busy := busy) (frm := frm) (to := min 99999 (to + 3)) (mc := mc) (bc := bc) (hm.ext (hEE4.trans (ext_Ext hc4))) (hb.ext (hEE4.trans (ext_Ext hc4))) hs hok5) rfl fun v h5 hR => ?_
      obtain ⟨p5, c5, sol5, b5, rfl, hs5, hE5, hc5, hl5, _, hkey5⟩ := hR
      rw [ht5] at hkey5
      obtain ⟨rfl, rfl⟩ := hkey5
      refine seqL_to sub_refl (hq_base hl5) (by simp) ?_
      have ew : whenL (!true) 23 = 0 := rfl
      simp only [ew]
      have e4 : ((sol4.length : Int) == (sol.length : Int) - 1) = true := by simp; omega
      have e5 : ((sol5.length : Int) == (sol.length : Int)) = true := by simp; omega
      apply seq_plain; exact do_move rfl; exact rfl
      apply seq_plain; exact do_extract rfl rfl; exact rfl
      apply seq_plain; exact do_extract rfl rfl; exact rfl
      apply seq_plain; exact do_assign rfl; exact rfl
      apply seq_plain; exact do_assign rfl; exact rfl
      apply seq_nil
      apply ct_seq
      apply ct_region
      apply seq_plain; exact do_move rfl; exact rfl
      apply seq_plain; exact do_move rfl; exact rfl
      apply seq_plain; exact do_add rfl rfl (by omega); exact rfl
      apply seq_plain; exact do_binInt rfl rfl rfl trivial; exact rfl
      apply seq_plain; exact do_move rfl; exact rfl
      apply seq_guard (hd := rfl) (hl := rfl); exact do_move rfl; exact rfl
      apply seq_guard (hd := rfl) (hl := rfl); exact do_lenS rfl rfl rfl; exact rfl
      apply seq_guard (hd := rfl) (hl := rfl); exact do_move rfl; exact rfl
      apply seq_guard (hd := rfl) (hl := rfl); exact do_lenS rfl rfl rfl; exact rfl
      apply seq_guard (hd := rfl) (hl := rfl); exact do_sub rfl rfl (by omega); exact rfl
      apply seq_guard (hd := rfl) (hl := rfl); exact do_binInt rfl rfl rfl trivial; exact rfl
      apply seq_plain; exact do_pick_t rfl rfl; exact rfl
      apply seq_plain; exact do_move rfl; exact rfl
      rw [e4]
      apply seq_guard (hd := rfl) (hl := rfl); exact do_move rfl; exact rfl
      apply seq_guard (hd := rfl) (hl := rfl); exact do_lenS rfl rfl rfl; exact rfl
      apply seq_guard (hd := rfl) (hl := rfl); exact do_move rfl; exact rfl
      apply seq_guard (hd := rfl) (hl := rfl); exact do_lenS rfl rfl rfl; exact rfl
      apply seq_guard (hd := rfl) (hl := rfl); exact do_binInt rfl rfl rfl trivial; exact rfl
      apply seq_plain; exact do_pick_t rfl rfl; exact rfl
      apply seq_plain; exact do_assign rfl; exact rfl
      apply seq_nil
      apply ct_ret
      rw [e5]
      skip
      exact fin_id rfl rfl
end Go.Proofs.YtiggikjbknoohaaGreatDoor
