/- Contracts: days on which a match can be played. -/
import Derived.Test.YtiggikjbknoohaaGreatDoorPnB
noncomputable section
namespace Go.Proofs.YtiggikjbknoohaaGreatDoor
open Go Go.Den
set_option maxRecDepth 100000

def dayIn (l : List Int) (d : Int) : Bool := l.any fun x => d == x
def bzL (busy : List Bz) (k : Int) : List Int := (busy[k.toNat]?.map (·.l)).getD []
theorem bzL_eq {busy : List Bz} {k : Int} (h : k.toNat < busy.length) : busy[k.toNat].l = bzL busy k := by simp [bzL, h]
def freeD (busy : List Bz) (p : Int × Int) (d : Int) : Bool := !(dayIn (bzL busy p.1) d) && !(dayIn (bzL busy p.2) d)
def daysTo (busy : List Bz) (p : Int × Int) (frm : Int) (n : Nat) : List Int := ((List.range n).map fun (j : Nat) => frm + j).filter (freeD busy p)
theorem daysTo_succ {busy : List Bz} {p : Int × Int} {frm : Int} {n : Nat} : daysTo busy p frm (n + 1) = daysTo busy p frm n ++ if freeD busy p (frm + n) = true then [frm + n] else [] := by
  unfold daysTo
  rw [List.range_succ, List.map_append, List.filter_append]
  congr 1
  simp only [List.map_cons, List.map_nil, List.filter_cons, List.filter_nil]
theorem daysTo_len {busy : List Bz} {p : Int × Int} {frm : Int} {n : Nat} : (daysTo busy p frm n).length ≤ n := by
  unfold daysTo
  refine Nat.le_trans (List.length_filter_le ..) ?_
  simp
def datesL (m : List (Int × Int)) (busy : List Bz) (frm to : Int) (k : Nat) : List Int := daysTo busy (m[k]?.getD (0, 0)) frm (to - frm + 1).toNat

theorem dates_c {H : AHeap} {mq bq : Option Addr} {mc bc k : Nat} {m : List (Int × Int)} {busy : List Bz} {frm to : Int} (hm : SlAt H 2 p2 mq m) (hb : BzAt H bq busy) (hg : GoodP m busy frm to) (hk : k < m.length) :
    Ret Tryz.prog 109 [Pv mq m.length mc bq busy.length bc frm to, I k] H (lstV H.fresh (datesL m busy frm to k)) (lstH H 1 i1 (datesL m busy frm to k)) := by
  obtain ⟨⟨a0, a1⟩, ⟨b0, b1⟩, hne⟩ := hg.pair _ (List.getElem_mem hk)
  obtain ⟨d1, d2, d3, d4⟩ := hg.days
  have hbn := hg.bn
  obtain ⟨b, o, cs, z, s, ro, rfl, hgm, hw⟩ := hm.out (by intro e; rw [e] at hk; simp at hk)
  obtain ⟨bb, ob, csb, zb, sb, rob, rfl, hgb, hwb⟩ := hb.at_.out (by intro e; rw [e] at a1; simp at a1; omega)
  have hN : ∃ N : Nat, N = (to - frm + 1).toNat := ⟨_, rfl⟩
  obtain ⟨N, hN⟩ := hN
  have ed : datesL m busy frm to k = daysTo busy m[k] frm N := by unfold datesL; rw [hN]; simp [hk]
  have ha : m[k].1.toNat < busy.length := by omega
  have hb' : m[k].2.toNat < busy.length := by omega
  have sa := hb.each _ (List.getElem_mem ha)
  have sb' := hb.each _ (List.getElem_mem hb')
  have la := hg.each _ (List.getElem_mem ha)
  have lb := hg.each _ (List.getElem_mem hb')
  rw [ed]
  refine fn_start Tryz.func109 rfl rfl rfl fun hc => ?_
  apply ct_seq
  apply ct_region
  apply seq_newP; exact do_box rfl rfl rfl; exact rfl
  apply seq_plain; exact do_assign rfl; exact rfl
  apply seq_nil
  apply ct_seq
  apply ct_draw (by assumption); decide +kernel
  apply sd_plain (hfree := rfl); intro _; exact do_fieldAddr rfl rfl; exact rfl
  apply sd_look (hfree := rfl); exact do_load rfl (by exact ext_get_new rfl) rfl (by exact rfl); exact rfl
  apply sd_plain (hfree := rfl); intro _; exact do_move rfl; exact rfl
  apply sd_plain (hfree := rfl); intro _; exact do_indexAddrS rfl rfl rfl (by exact idx_nat (by omega)); exact rfl
  apply sd_plain (hfree := rfl); intro _; exact do_indexAddrA rfl rfl rfl (by exact rfl); exact rfl
  apply sd_look (hfree := rfl); exact do_load rfl (by exact ext_get_old (by assumption) (by assumption)) rfl (by exact pt_sl1 (by assumption) (by omega) (Nat.le_of_ble_eq_true rfl) rfl); exact rfl
  apply sd_plain (hfree := rfl); intro _; exact do_fieldAddr rfl rfl; exact rfl
  apply sd_look (hfree := rfl); exact do_load rfl (by exact ext_get_new rfl) rfl (by exact rfl); exact rfl
  apply sd_plain (hfree := rfl); intro _; exact do_move rfl; exact rfl
  apply sd_plain (hfree := rfl); intro _; exact do_indexAddrS rfl rfl rfl (by exact idx_nat (by omega)); exact rfl
  apply sd_plain (hfree := rfl); intro _; exact do_indexAddrA rfl rfl rfl (by exact rfl); exact rfl
  apply sd_look (hfree := rfl); exact do_load rfl (by exact ext_get_old (by assumption) (by assumption)) rfl (by exact pt_sl1 (by assumption) (by omega) (Nat.le_of_ble_eq_true rfl) rfl); exact rfl
  apply sd_plain (hfree := rfl); intro _; exact do_assign rfl; exact rfl
  apply sd_plain (hfree := rfl); intro _; exact do_assign rfl; exact rfl
  apply sd_nil
  apply ct_seq
  apply ct_region
  apply seq_plain; exact do_assign rfl; exact rfl
  apply seq_nil
  apply ct_seq
  apply ct_seq
  apply ct_region
  apply seq_plain; exact do_fieldAddr rfl rfl; exact rfl
  apply seq_plain; exact do_load rfl (by exact ext_get_new rfl) rfl (by exact rfl); exact rfl
  apply seq_plain; exact do_assign rfl; exact rfl
  apply seq_nil
  apply ct_block
  apply ct_loop
  refine lt_meas (α := Nat × Value × List (Option ABlk)) (fun a => [(2, .pointer (some ⟨nb H 0, 0, none⟩)), (5, I m[k].1), (6, I m[k].2), (7, a.2.1), (8, I (frm + a.1))]) (fun a => ext H H.fresh a.2.2)
    (fun a => a.1 ≤ N ∧ Lst H a.2.2 1 i1 1 a.2.1 (daysTo busy m[k] frm a.1) ∧ a.2.2[0]? = some (some (.cells [.slice (some ⟨b, o, none⟩) m.length mc, .slice (some ⟨bb, ob, none⟩) busy.length bc, I frm, I to] 0 false false))) (fun a => N - a.1) (fun a ha ih => ?_) (0, .slice none 0 0, _) ⟨by omega, .nil, rfl⟩ ?_ (.refl _)
  · obtain ⟨i, v, L⟩ := a
    obtain ⟨hi, hv, hbox⟩ := ha
    simp only at hi hv hbox ih ⊢
    have ih' := fun i' v' L' a1 a2 a3 a4 => ih (i', v', L') a1 ⟨a2, a3, a4⟩
    simp only at ih'
    clear ih
    have hL0 : 0 < L.length := (List.getElem?_eq_some_iff.1 hbox).1
    have hlen := daysTo_len (busy := busy) (p := m[k]) (frm := frm) (n := i)
    apply ct_seq
    apply ct_seq
    apply ct_region
    apply seq_plain; exact do_move rfl; exact rfl
    apply seq_plain; exact do_fieldAddr rfl rfl; exact rfl
    apply seq_plain; exact do_load rfl (by exact ext_get_new (by assumption)) rfl (by exact rfl); exact rfl
    apply seq_plain; exact do_binInt rfl rfl rfl trivial; exact rfl
    apply seq_nil
    refine ct_cond rfl (fun h1 => ?_) (fun h1 => ?_)
    · simp only [decide_eq_true_eq] at h1
      have e1 := daysTo_succ (busy := busy) (p := m[k]) (frm := frm) (n := i)
      have e2 : frm + (i : Int) + 1 = frm + ((i + 1 : Nat) : Int) := by omega
      apply ct_skip
      apply ct_seq
      apply ct_block
      apply ct_seq
      apply ct_region
      apply seq_plain; exact do_fieldAddr rfl rfl; exact rfl
      apply seq_plain; exact do_load rfl (by exact ext_get_new (by assumption)) rfl (by exact rfl); exact rfl
      apply seq_plain; exact do_move rfl; exact rfl
      apply seq_plain; exact do_indexAddrS rfl rfl rfl (by exact idx_int (by omega)); exact rfl
      apply seq_plain; exact do_load rfl (by exact ext_get_old (by assumption) (by assumption)) rfl (by exact bz_get (by assumption) (by omega)); exact rfl
      apply seq_plain; exact do_move rfl; exact rfl
      apply seq_call (ht := rfl); exact contains_c (l := busy[m[k].1.toNat].l) (sa.ext (ext_Ext hc)) (by omega); exact rfl
      apply seq_plain; exact do_unOp rfl rfl; exact rfl
      apply seq_plain; exact do_move rfl; exact rfl
      refine seq_J [(2, .pointer (some ⟨nb H 0, 0, none⟩)), (5, I m[k].1), (6, I m[k].2), (7, v), (8, I (frm + i)), (46, .bool (freeD busy m[k] (frm + i)))] (ds := []) (h := ext H H.fresh L) ?_ ?_
      · unfold freeD
        rw [← bzL_eq ha, ← bzL_eq hb']
        have ea : (busy[m[k].1.toNat].l.any fun x => frm + (i : Int) == x) = dayIn busy[m[k].1.toNat].l (frm + i) := rfl
        rw [ea]
        refine seq_gsplit rfl rfl (fun u1 => ?_) (fun u1 => ?_)
        · rw [u1]
          apply seq_guard (hd := rfl) (hl := rfl); exact do_fieldAddr rfl rfl; exact rfl
          apply seq_guard (hd := rfl) (hl := rfl); exact do_load rfl (by exact ext_get_new (by assumption)) rfl (by exact rfl); exact rfl
          apply seq_guard (hd := rfl) (hl := rfl); exact do_move rfl; exact rfl
          apply seq_guard (hd := rfl) (hl := rfl); exact do_indexAddrS rfl rfl rfl (by exact idx_int (by omega)); exact rfl
          apply seq_guard (hd := rfl) (hl := rfl); exact do_load rfl (by exact ext_get_old (by assumption) (by assumption)) rfl (by exact bz_get (by assumption) (by omega)); exact rfl
          apply seq_guard (hd := rfl) (hl := rfl); exact do_move rfl; exact rfl
          apply seq_gcall (hg := rfl) (hl := rfl) (ht := rfl); exact contains_c (l := busy[m[k].2.toNat].l) (sb'.ext (ext_Ext hc)) (by omega); exact rfl
          apply seq_guard (hd := rfl) (hl := rfl); exact do_unOp rfl rfl; exact rfl
          apply seq_plain; exact do_pick_t rfl rfl; exact rfl
          apply seq_nil
          exact jp_of (by repeat (first | exact sub_nil | apply sub_cons rfl))
        · rw [u1]
          apply seq_passed (hd := rfl) (hl := rfl) (hb := rfl); exact rfl
          apply seq_passed (hd := rfl) (hl := rfl) (hb := rfl); exact rfl
          apply seq_passed (hd := rfl) (hl := rfl) (hb := rfl); exact rfl
          apply seq_passed (hd := rfl) (hl := rfl) (hb := rfl); exact rfl
          apply seq_passed (hd := rfl) (hl := rfl) (hb := rfl); exact rfl
          apply seq_passed (hd := rfl) (hl := rfl) (hb := rfl); exact rfl
          apply seq_passed (hd := rfl) (hl := rfl) (hb := rfl); exact rfl
          apply seq_passed (hd := rfl) (hl := rfl) (hb := rfl); exact rfl
          apply seq_plain; exact do_pick_f rfl rfl; exact rfl
          apply seq_nil
          exact jp_of (by repeat (first | exact sub_nil | apply sub_cons rfl))
      skip
      refine ct_cond rfl (fun h3 => ?_) (fun h3 => ?_)
      · rw [if_pos h3] at e1
        apply ct_region
        apply seq_plain; exact do_move rfl; exact rfl
        apply seq_plain; exact do_move rfl; exact rfl
        apply seq_newS; exact do_buildSlice rfl rfl rfl rfl rfl rfl rfl; exact rfl
        refine seq_grow (xs := [frm + (i : Int)]) hc (hv.app _) (by rw [List.length_append]; omega) (fun _ => rfl) (fun _ => rfl) rfl rfl rfl rfl rfl rfl (ext_get_new List.getElem?_concat_length) rfl (by simp) ?_ (Nat.ne_of_beq_eq_false rfl) (Nat.ne_of_beq_eq_false rfl) rfl (fun v' L3 hv' hst3 hlen3 => ?_)
        · exact Nat.le_trans (Nat.mul_le_mul_right _ (by simp only [List.length_cons, List.length_nil]; omega : _ ≤ 30000)) (Nat.le_of_ble_eq_true rfl)
        apply seq_plain; exact do_assign rfl; exact rfl
        apply seq_nil
        apply ct_region
        apply seq_plain; exact do_move rfl; exact rfl
        apply seq_plain; exact do_add rfl rfl (by omega); exact rfl
        apply seq_plain; exact do_assign rfl; exact rfl
        apply seq_nil
        rw [e2]
        exact lt_sub (by repeat (first | exact sub_nil | apply sub_cons rfl)) (ih' (i + 1) v' L3 (by omega) (by omega) (by rw [e1]; exact hv') (((Stay.app _).trans hst3).to (by omega) hbox))
      · rw [if_neg (by rw [h3]; simp), List.append_nil] at e1
        apply ct_skip
        apply ct_region
        apply seq_plain; exact do_move rfl; exact rfl
        apply seq_plain; exact do_add rfl rfl (by omega); exact rfl
        apply seq_plain; exact do_assign rfl; exact rfl
        apply seq_nil
        rw [e2]
        exact lt_sub (by repeat (first | exact sub_nil | apply sub_cons rfl)) (ih' (i + 1) v L (by omega) (by omega) (by rw [e1]; exact hv) hbox)
    · simp only [decide_eq_false_iff_not] at h1
      have hiN : i = N := by omega
      subst hiN
      apply ct_exit
      apply exit_eq; exact rfl
      apply ct_seq
      apply ct_region
      apply seq_plain; exact do_move rfl; exact rfl
      apply seq_plain; exact do_assign rfl; exact rfl
      apply seq_nil
      apply ct_ret
      exact fin_lst hc hv rfl (fun _ => rfl) ⟨rfl, rfl⟩
  · show Sub [(2, _), (5, _), (6, _), (7, _), (8, I (frm + ((0 : Nat) : Int)))] _
    rw [show frm + ((0 : Nat) : Int) = frm by omega]
    (repeat (first | exact sub_nil | apply sub_cons rfl))

end Go.Proofs.YtiggikjbknoohaaGreatDoor
