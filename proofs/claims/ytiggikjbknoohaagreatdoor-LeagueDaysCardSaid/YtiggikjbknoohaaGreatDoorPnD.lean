/- Contracts: the reference's days; the program's Dates. -/
import Derived.Test.YtiggikjbknoohaaGreatDoorPnC
import Derived.Test.YtiggikjbknoohaaGreatDoorElE
import Derived.Test.YtiggikjbknoohaaGreatDoorPlL
noncomputable section
namespace Go.Proofs.YtiggikjbknoohaaGreatDoor
open Go Go.Den
set_option maxRecDepth 100000

theorem dates2_ok {H : AHeap} {mq bq : Option Addr} {mc bc k : Nat} {m : List (Int × Int)} {busy : List Bz} {frm to : Int} (hm : SlAt H 2 p2 mq m) (hb : BzAt H bq busy) (hs : shortP m busy = true) (hok : planE m busy frm to = 0) (hk : k < m.length) :
    Ret Tryz.prog 38 [Pv mq m.length mc bq busy.length bc frm to, I k] H (.tuple ⟨[lstV H.fresh (datesL m busy frm to k), I 0]⟩) (lstH H 1 i1 (datesL m busy frm to k)) := by
  have hg := plan_good hok
  have e1 : decide ((k : Int) < 0) = false := by simp
  have e2 : decide ((k : Int) ≥ m.length) = false := by simp; omega
  refine fn_start Tryz.func38 rfl rfl rfl fun hc => ?_
  apply ct_seq
  apply ct_region
  apply seq_newP; exact do_box rfl rfl rfl; exact rfl
  apply seq_plain; exact do_assign rfl; exact rfl
  apply seq_plain; exact do_assign rfl; exact rfl
  apply seq_nil
  apply ct_seq
  apply ct_seq
  apply ct_region
  apply seq_plain; exact do_load rfl (by exact ext_get_new rfl) rfl (by exact rfl); exact rfl
  apply seq_call (ht := rfl); exact checkPlan_c (hm.ext (ext_Ext hc)) (hb.ext (ext_Ext hc)) hs; exact rfl
  rw [hok]
  apply seq_plain; exact do_move rfl; exact rfl
  apply seq_plain; exact do_binInt rfl rfl rfl trivial; exact rfl
  apply seq_plain; exact do_move rfl; exact rfl
  apply seq_guard (hd := rfl) (hl := rfl); exact do_move rfl; exact rfl
  apply seq_guard (hd := rfl) (hl := rfl); exact do_fieldAddr rfl rfl; exact rfl
  apply seq_guard (hd := rfl) (hl := rfl); exact do_load rfl (by exact ext_get_new rfl) rfl (by exact rfl); exact rfl
  apply seq_guard (hd := rfl) (hl := rfl); exact do_lenS rfl rfl rfl; exact rfl
  apply seq_guard (hd := rfl) (hl := rfl); exact do_binInt rfl rfl rfl trivial; exact rfl
  apply seq_plain; exact do_pick_f rfl rfl; exact rfl
  apply seq_call (ht := rfl); exact when85; exact rfl
  apply seq_newS; exact do_buildSlice rfl rfl rfl rfl rfl rfl rfl; exact rfl
  apply seq_call (ht := rfl); exact first84 (l := [_, _]) (slAt_map (ext_get_new rfl)) (by simp); exact rfl
  apply seq_plain; exact do_assign rfl; exact rfl
  apply seq_nil
  apply ct_seq
  apply ct_region
  apply seq_plain; exact do_move rfl; exact rfl
  apply seq_plain; exact do_binInt rfl rfl rfl trivial; exact rfl
  apply seq_nil
  rw [e1]
  skip
  rw [e2]
  refine ct_cond_f rfl rfl ?_
  apply ct_skip
  apply ct_seq
  apply ct_region
  apply seq_plain; exact do_load rfl (by exact ext_get_new rfl) rfl (by exact rfl); exact rfl
  apply seq_plain; exact do_move rfl; exact rfl
  have c1 := fun L => dates_c (mc := mc) (bc := bc) (hm.ext (ext_Ext hc (lo := H.fresh) (L := L))) (hb.ext (ext_Ext hc)) hg hk
  simp only [lstH_ext, ext_fresh] at c1
  apply seq_call (ht := rfl); exact c1 _; exact rfl
  apply seq_plain; exact do_assign rfl; exact rfl
  apply seq_plain; exact do_assign rfl; exact rfl
  apply seq_nil
  apply ct_ret
  have hv : ∀ L : List (Option ABlk), 0 < L.length → Lst H (L ++ lstL 1 i1 (datesL m busy frm to k)) 1 i1 1 (lstV (nb H L.length) (datesL m busy frm to k)) (datesL m busy frm to k) := fun L hL => by
    cases datesL m busy frm to k with
    | nil => exact ⟨.inl ⟨rfl, rfl⟩⟩
    | cons a r => exact ⟨.inr ⟨by simp, L.length, hL, rfl, List.getElem?_concat_length⟩⟩
  exact fin_lst2 hc (hv _ (by simp)) rfl (fun _ => rfl) ⟨rfl, rfl⟩
end Go.Proofs.YtiggikjbknoohaaGreatDoor
