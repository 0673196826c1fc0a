/- LeagueTitles: the law's own walk. -/
import Derived.Test.YtiggikjbknoohaaGreatDoorTiH
import Derived.Test.YtiggikjbknoohaaGreatDoorElI
noncomputable section
namespace Go.Proofs.YtiggikjbknoohaaGreatDoor
open Go Go.Den Go.Den.Title
set_option maxRecDepth 100000

set_option maxHeartbeats 8000000 in
theorem law12 {H : AHeap} {q r u : Option Addr} {c d e : Nat} {pts points : List Int} {opn : List (Int × Int)} {team : Int} (haw : ∀ h, Ext H h → Ret Tryz.prog 17 [] h (.bool true) h) (hs : SlAt H 1 i1 q pts) (ht : SlAt H 2 p2 r opn) (hu : SlAt H 1 i1 u points) :
    Ret Tryz.prog 12 [Rv q pts.length c r opn.length d, I team, .slice u points.length e] H (.bool true) H := by
  refine fn_start Tryz.func12 rfl rfl rfl fun hc => ?_
  apply ct_seq
  apply ct_region
  apply seq_newP; exact do_box rfl rfl rfl; exact rfl
  apply seq_plain; exact do_assign rfl; exact rfl
  apply seq_nil
  apply ct_seq
  apply ct_region
  apply seq_plain; exact do_load rfl (by exact ext_get_new rfl) rfl (by exact rfl); exact rfl
  apply seq_newP; exact do_alloc rfl rfl; exact rfl
  apply seq_putC (hc := by assumption); rotate_left; exact do_store rfl rfl (by exact ext_get_new rfl) rfl rfl (nb_own _); rotate_left; exact Nat.le_of_ble_eq_true rfl
  apply ct_seq
  apply ct_seq
  apply ct_region
  apply seq_call (ht := rfl); exact haw _ (ext_Ext hc); exact rfl
  apply seq_plain; exact do_unOp rfl rfl; exact rfl
  apply seq_plain; exact do_move rfl; exact rfl
  apply seq_guard (hd := rfl) (hl := rfl); exact do_fieldAddr rfl rfl; exact rfl
  apply seq_guard (hd := rfl) (hl := rfl); exact do_load rfl (by exact ext_get_new rfl) rfl (by exact rfl); exact rfl
  apply seq_guard (hd := rfl) (hl := rfl); exact do_lenS rfl rfl rfl; exact rfl
  apply seq_guard (hd := rfl) (hl := rfl); exact do_binInt rfl rfl rfl trivial; exact rfl
  apply seq_plain; exact do_pick_f rfl rfl; exact rfl
  apply seq_plain; exact do_move rfl; exact rfl
  have hT : ∃ T : Bool, T = (decide ((pts.length : Int) > 27) || (decide ((opn.length : Int) > 67) || decide ((points.length : Int) > 80))) := ⟨_, rfl⟩
  obtain ⟨T, hT⟩ := hT
  refine seq_J [(1, I team), (2, .slice u points.length e), (3, .pointer (some ⟨nb H 0, 0, none⟩)), (7, .pointer (some ⟨nb H 1, 0, none⟩)), (31, .bool T)] (ds := []) (h := ext H H.fresh [some (.cells [.slice q pts.length c, .slice r opn.length d] 0 false false), some (.cells [.slice q pts.length c, .slice r opn.length d] 0 false false)]) ?_ ?_
  · refine seq_gsplit rfl rfl (fun u0 => ?_) (fun u0 => ?_)
    · have u0 : decide ((pts.length : Int) > 27) = true := u0
      have e : T = true := by rw [hT, u0]; rfl
      rw [e]
      apply seq_passed (hd := rfl) (hl := rfl) (hb := rfl); exact rfl
      apply seq_passed (hd := rfl) (hl := rfl) (hb := rfl); exact rfl
      apply seq_passed (hd := rfl) (hl := rfl) (hb := rfl); exact rfl
      apply seq_passed (hd := rfl) (hl := rfl) (hb := rfl); exact rfl
      apply seq_plain; exact do_pick_t rfl rfl; exact rfl
      apply seq_plain; exact do_move rfl; exact rfl
      apply seq_passed (hd := rfl) (hl := rfl) (hb := rfl); exact rfl
      apply seq_passed (hd := rfl) (hl := rfl) (hb := rfl); exact rfl
      apply seq_passed (hd := rfl) (hl := rfl) (hb := rfl); exact rfl
      apply seq_plain; exact do_pick_t rfl rfl; exact rfl
      apply seq_nil
      exact jp_of (by repeat (first | exact sub_nil | apply sub_cons rfl))
    · have u0 : decide ((pts.length : Int) > 27) = false := u0
      apply seq_guard (hd := rfl) (hl := rfl); exact do_fieldAddr rfl rfl; exact rfl
      apply seq_guard (hd := rfl) (hl := rfl); exact do_load rfl (by exact ext_get_new rfl) rfl (by exact rfl); exact rfl
      apply seq_guard (hd := rfl) (hl := rfl); exact do_lenS rfl rfl rfl; exact rfl
      apply seq_guard (hd := rfl) (hl := rfl); exact do_binInt rfl rfl rfl trivial; exact rfl
      apply seq_plain; exact do_pick_f rfl rfl; exact rfl
      apply seq_plain; exact do_move rfl; exact rfl
      refine seq_gsplit rfl rfl (fun u1 => ?_) (fun u1 => ?_)
      · have u1 : decide ((opn.length : Int) > 67) = true := u1
        have e : T = true := by rw [hT, u0, u1]; rfl
        rw [e]
        apply seq_passed (hd := rfl) (hl := rfl) (hb := rfl); exact rfl
        apply seq_passed (hd := rfl) (hl := rfl) (hb := rfl); exact rfl
        apply seq_passed (hd := rfl) (hl := rfl) (hb := rfl); exact rfl
        apply seq_plain; exact do_pick_t rfl rfl; exact rfl
        apply seq_nil
        exact jp_of (by repeat (first | exact sub_nil | apply sub_cons rfl))
      · have u1 : decide ((opn.length : Int) > 67) = false := u1
        have e : T = decide ((points.length : Int) > 80) := by rw [hT, u0, u1]; rfl
        rw [e]
        apply seq_guard (hd := rfl) (hl := rfl); exact do_move rfl; exact rfl
        apply seq_guard (hd := rfl) (hl := rfl); exact do_lenS rfl rfl rfl; exact rfl
        apply seq_guard (hd := rfl) (hl := rfl); exact do_binInt rfl rfl rfl trivial; exact rfl
        apply seq_plain; exact do_pick_f rfl rfl; exact rfl
        apply seq_nil
        exact jp_of (by repeat (first | exact sub_nil | apply sub_cons rfl))
  skip
  refine ct_cond rfl (fun h1 => ?_) (fun h1 => ?_)
  · apply ct_seq
    apply ct_region
    apply seq_call (ht := rfl); exact haw _ (ext_Ext hc); exact rfl
    apply seq_plain; exact do_assign rfl; exact rfl
    apply seq_nil
    apply ct_ret
    exact fin_flat hc rfl rfl ⟨rfl, rfl⟩
  · have hn : pts.length ≤ 27 ∧ opn.length ≤ 67 ∧ points.length ≤ 80 := by
      rw [h1] at hT
      have hT := hT.symm
      simp only [Bool.or_eq_false_iff, decide_eq_false_iff_not] at hT
      omega
    obtain ⟨hn1, hn2, hn3⟩ := hn
    clear hT
    apply ct_skip
    apply ct_seq
    apply ct_region
    apply seq_plain; exact do_load rfl (by exact ext_get_new rfl) rfl (by exact rfl); exact rfl
    apply seq_call (ht := rfl); exact refRace_c (hs.ext (ext_Ext hc)) (ht.ext (ext_Ext hc)) (by omega) (by omega); exact rfl
    apply seq_plain; exact do_assign rfl; exact rfl
    apply seq_nil
    apply ct_seq
    apply ct_seq
    apply ct_region
    apply seq_plain; exact do_load rfl (by exact ext_get_new rfl) rfl (by exact rfl); exact rfl
    apply seq_call (ht := rfl); exact checkRace_c (hs.ext (ext_Ext hc)) (ht.ext (ext_Ext hc)) (by omega) (by omega); exact rfl
    apply seq_plain; exact do_move rfl; exact rfl
    apply seq_plain; exact do_binInt rfl rfl rfl trivial; exact rfl
    apply seq_nil
    refine ct_cond_f rfl (by simp) ?_
    apply ct_skip
    apply ct_seq
    apply ct_region
    apply seq_plain; exact do_move rfl; exact rfl
    apply seq_plain; exact do_move rfl; exact rfl
    apply seq_plain; exact do_fieldAddr rfl rfl; exact rfl
    apply seq_plain; exact do_load rfl (by exact ext_get_new rfl) rfl (by exact rfl); exact rfl
    apply seq_plain; exact do_lenS rfl rfl rfl; exact rfl
    apply seq_plain; exact do_sub rfl rfl (by omega); exact rfl
    apply seq_call (ht := rfl); exact outside24; exact rfl
    apply seq_call (ht := rfl); exact when23; exact rfl
    apply seq_newS; exact do_buildSlice rfl rfl rfl rfl rfl rfl rfl; exact rfl
    apply seq_call (ht := rfl); exact lawFirst_c (l := [_, _]) (slAt_map (ext_get_new rfl)) (by simp); exact rfl
    apply seq_plain; exact do_assign rfl; exact rfl
    apply seq_nil
    apply ct_seq
    apply ct_region
    apply seq_plain; exact do_load rfl (by exact ext_get_new rfl) rfl (by exact rfl); exact rfl
    apply seq_plain; exact do_move rfl; exact rfl
    apply seq_plain; exact do_move rfl; exact rfl
    rw [bad_chk]
    apply seq_call (ht := rfl); exact checkTitle_c (hs.ext (ext_Ext hc)) (ht.ext (ext_Ext hc)) (hu.ext (ext_Ext hc)) (by omega) (by omega) (by omega); exact rfl
    apply seq_plain; exact do_assign rfl; exact rfl
    apply seq_nil
    apply ct_seq
    apply ct_seq
    apply ct_region
    apply seq_plain; exact do_move rfl; exact rfl
    apply seq_plain; exact do_binInt rfl rfl rfl trivial; exact rfl
    apply seq_plain; exact do_move rfl; exact rfl
    by_cases hok : chkR pts opn team = 0
    · obtain ⟨hk1, hk2, hk3⟩ := chkR_zero hok
      have hg := race_good hk1
      obtain ⟨tm, rfl⟩ := Int.eq_ofNat_of_zero_le hk2
      have htm : tm < pts.length := by omega
      have eel : titleE pts opn tm points = titleF pts opn tm points := by unfold titleE; rw [if_neg (by simp [hok])]
      rw [hok, eel]
      apply seq_passed (hd := rfl) (hl := rfl) (hb := rfl); exact rfl
      apply seq_passed (hd := rfl) (hl := rfl) (hb := rfl); exact rfl
      apply seq_passed (hd := rfl) (hl := rfl) (hb := rfl); exact rfl
      apply seq_plain; exact do_pick_f rfl rfl; exact rfl
      apply seq_plain; exact do_move rfl; exact rfl
      apply seq_guard (hd := rfl) (hl := rfl); exact do_move rfl; exact rfl
      apply seq_guard (hd := rfl) (hl := rfl); exact do_binInt rfl rfl rfl trivial; exact rfl
      apply seq_guard (hd := rfl) (hl := rfl); exact do_move rfl; exact rfl
      apply seq_guard (hd := rfl) (hl := rfl); exact do_move rfl; exact rfl
      apply seq_guard (hd := rfl) (hl := rfl); exact do_load rfl (by exact ext_get_new rfl) rfl (by exact rfl); exact rfl
      apply seq_guard (hd := rfl) (hl := rfl); exact do_move rfl; exact rfl
      apply seq_guard (hd := rfl) (hl := rfl); exact do_move rfl; exact rfl
      apply seq_gcall (hg := rfl) (hl := rfl) (ht := rfl); exact refCheckTitle_c (hs.ext (ext_Ext hc)) (ht.ext (ext_Ext hc)) (hu.ext (ext_Ext hc)) hg hk2 hk3; exact rfl
      apply seq_guard (hd := rfl) (hl := rfl); exact do_binInt rfl rfl rfl trivial; exact rfl
      apply seq_guard (hd := rfl) (hl := rfl); exact do_pick_t rfl rfl; exact rfl
      apply seq_plain; exact do_pick_f rfl rfl; exact rfl
      apply seq_nil
      refine ct_cond_f rfl (by simp) ?_
      apply ct_skip
      apply ct_seq
      apply ct_seq
      apply ct_region
      apply seq_plain; exact do_move rfl; exact rfl
      apply seq_plain; exact do_binInt rfl rfl rfl trivial; exact rfl
      apply seq_plain; exact do_move rfl; exact rfl
      apply seq_guard (hd := rfl) (hl := rfl); exact do_fieldAddr rfl rfl; exact rfl
      apply seq_guard (hd := rfl) (hl := rfl); exact do_load rfl (by exact ext_get_new rfl) rfl (by exact rfl); exact rfl
      apply seq_guard (hd := rfl) (hl := rfl); exact do_lenS rfl rfl rfl; exact rfl
      apply seq_guard (hd := rfl) (hl := rfl); exact do_binInt rfl rfl rfl trivial; exact rfl
      apply seq_plain; exact do_pick_t rfl rfl; exact rfl
      apply seq_nil
      refine ct_cond rfl (fun h2 => ?_) (fun h2 => ?_)
      · apply ct_seq
        apply ct_region
        apply seq_plain; exact do_assign rfl; exact rfl
        apply seq_nil
        apply ct_ret
        exact fin_flat hc rfl rfl ⟨rfl, rfl⟩
      · have h2 : decide ((pts.length : Int) > 7) = false := h2
        simp only [decide_eq_false_iff_not] at h2
        have c2 : ∀ L, Ret Tryz.prog 65 [Rv q pts.length c r opn.length d, I tm] (ext H H.fresh L) (lstV (nb H L.length) (bestL pts opn tm)) (ext H H.fresh (L ++ lstL 1 i1 (bestL pts opn tm))) := fun L => by
          have := refEliminated_c (c := c) (d := d) (hs.ext (ext_Ext hc (lo := H.fresh) (L := L))) (ht.ext (ext_Ext hc)) hg htm (by omega)
          rw [lstH_ext, ext_fresh] at this
          exact this
        apply ct_skip
        apply ct_seq
        apply ct_region
        apply seq_plain; exact do_load rfl (by exact ext_get_new rfl) rfl (by exact rfl); exact rfl
        apply seq_plain; exact do_move rfl; exact rfl
        refine seq_callQ rfl (title_c (hs.ext (ext_Ext hc)) (ht.ext (ext_Ext hc)) hok) rfl (fun v h hv => ?_)
        rcases hv with ⟨hb, rfl, rfl⟩ | ⟨hb, p, ht0, hpl, rfl, rfl⟩
        · have hbl : 0 < (bestL pts opn tm).length := List.length_pos_iff.2 hb
          apply seq_plain; exact do_move rfl; exact rfl
          apply seq_plain; exact do_extract rfl rfl; exact rfl
          apply seq_plain; exact do_extract rfl rfl; exact rfl
          apply seq_plain; exact do_assign rfl; exact rfl
          apply seq_plain; exact do_assign rfl; exact rfl
          apply seq_nil
          apply ct_seq
          apply ct_seq
          apply ct_region
          apply seq_plain; exact do_move rfl; exact rfl
          apply seq_plain; exact do_binInt rfl rfl rfl trivial; exact rfl
          apply seq_nil
          refine ct_cond_f rfl rfl ?_
          apply ct_skip
          apply ct_seq
          apply ct_seq
          apply ct_region
          apply seq_plain; exact do_load rfl (by exact ext_get_new rfl) rfl (by exact rfl); exact rfl
          apply seq_plain; exact do_move rfl; exact rfl
          apply seq_call (ht := rfl); exact c2 _; exact rfl
          apply seq_plain; exact do_lenS rfl rfl rfl; exact rfl
          apply seq_plain; exact do_binInt rfl rfl rfl trivial; exact rfl
          apply seq_nil
          refine ct_cond_t rfl (by simp; omega) ?_
          apply ct_seq
          apply ct_region
          apply seq_plain; exact do_move rfl; exact rfl
          apply seq_plain; exact do_move rfl; exact rfl
          apply seq_call (ht := rfl); exact list27_bad (n := 0) (by decide); exact rfl
          apply seq_plain; exact do_assign rfl; exact rfl
          apply seq_nil
          apply ct_ret
          exact fin_flat hc rfl rfl ⟨rfl, rfl⟩
        · rw [hb] at c2
          rw [lstH_ext, ext_fresh]
          apply seq_plain; exact do_move rfl; exact rfl
          apply seq_plain; exact do_extract rfl rfl; exact rfl
          apply seq_plain; exact do_extract rfl rfl; exact rfl
          apply seq_plain; exact do_assign rfl; exact rfl
          apply seq_plain; exact do_assign rfl; exact rfl
          apply seq_nil
          apply ct_seq
          apply ct_seq
          apply ct_region
          apply seq_plain; exact do_move rfl; exact rfl
          apply seq_plain; exact do_binInt rfl rfl rfl trivial; exact rfl
          apply seq_nil
          refine ct_cond_f rfl rfl ?_
          apply ct_skip
          apply ct_seq
          apply ct_seq
          apply ct_region
          apply seq_plain; exact do_load rfl (by exact ext_get_new rfl) rfl (by exact rfl); exact rfl
          apply seq_plain; exact do_move rfl; exact rfl
          apply seq_call (ht := rfl); exact c2 _; exact rfl
          apply seq_plain; exact do_lenS rfl rfl rfl; exact rfl
          apply seq_plain; exact do_binInt rfl rfl rfl trivial; exact rfl
          apply seq_nil
          refine ct_cond_f rfl rfl ?_
          apply ct_skip
          apply ct_seq
          apply ct_region
          apply seq_plain; exact do_move rfl; exact rfl
          apply seq_plain; exact do_binInt rfl rfl rfl trivial; exact rfl
          apply seq_plain; exact do_move rfl; exact rfl
          apply seq_guard (hd := rfl) (hl := rfl); exact do_load rfl (by exact ext_get_new rfl) rfl (by exact rfl); exact rfl
          apply seq_guard (hd := rfl) (hl := rfl); exact do_move rfl; exact rfl
          apply seq_guard (hd := rfl) (hl := rfl); exact do_move rfl; exact rfl
          apply seq_gcall (hg := rfl) (hl := rfl) (ht := rfl); exact refCheckTitle_c (points := p) (hs.ext (ext_Ext hc)) (ht.ext (ext_Ext hc)) ((lst_slAt (m := 1) (f := i1) fun _ => rfl).ext (lst_Ext hc)) hg hk2 hk3; exact rfl
          apply seq_guard (hd := rfl) (hl := rfl); exact do_binInt rfl rfl rfl trivial; exact rfl
          apply seq_plain; exact do_pick_t rfl rfl; exact rfl
          apply seq_plain; exact do_assign rfl; exact rfl
          apply seq_nil
          apply ct_ret
          refine fin_flat hc rfl rfl ⟨?_, rfl⟩
          show Value.bool (titleF pts opn tm p == 0) = _
          rw [ht0]; rfl
    · have eel : titleE pts opn team points = chkR pts opn team := by unfold titleE; rw [if_pos hok]
      have hx1 : (chkR pts opn team != 0) = true := by simpa using hok
      have hx2 : (chkR pts opn team == 0) = false := by simpa using hok
      have hx3 : (chkR pts opn team != chkR pts opn team) = false := by simp
      rw [eel, hx1]
      apply seq_guard (hd := rfl) (hl := rfl); exact do_move rfl; exact rfl
      apply seq_guard (hd := rfl) (hl := rfl); exact do_move rfl; exact rfl
      apply seq_guard (hd := rfl) (hl := rfl); exact do_binInt rfl rfl rfl trivial; exact rfl
      apply seq_plain; exact do_pick_t rfl rfl; exact rfl
      apply seq_plain; exact do_move rfl; exact rfl
      rw [hx3]
      apply seq_guard (hd := rfl) (hl := rfl); exact do_move rfl; exact rfl
      apply seq_guard (hd := rfl) (hl := rfl); exact do_binInt rfl rfl rfl trivial; exact rfl
      apply seq_guard (hd := rfl) (hl := rfl); exact do_move rfl; exact rfl
      rw [hx2]
      apply seq_passed (hd := rfl) (hl := rfl) (hb := rfl); exact rfl
      apply seq_passed (hd := rfl) (hl := rfl) (hb := rfl); exact rfl
      apply seq_passed (hd := rfl) (hl := rfl) (hb := rfl); exact rfl
      apply seq_passed (hd := rfl) (hl := rfl) (hb := rfl); exact rfl
      apply seq_passed (hd := rfl) (hl := rfl) (hb := rfl); exact rfl
      apply seq_passed (hd := rfl) (hl := rfl) (hb := rfl); exact rfl
      apply seq_guard (hd := rfl) (hl := rfl); exact do_pick_f rfl rfl; exact rfl
      apply seq_plain; exact do_pick_f rfl rfl; exact rfl
      apply seq_nil
      refine ct_cond_f rfl rfl ?_
      apply ct_skip
      apply ct_seq
      apply ct_seq
      apply ct_region
      apply seq_plain; exact do_move rfl; exact rfl
      apply seq_plain; exact do_binInt rfl rfl rfl trivial; exact rfl
      apply seq_plain; exact do_move rfl; exact rfl
      rw [hx2]
      apply seq_passed (hd := rfl) (hl := rfl) (hb := rfl); exact rfl
      apply seq_passed (hd := rfl) (hl := rfl) (hb := rfl); exact rfl
      apply seq_passed (hd := rfl) (hl := rfl) (hb := rfl); exact rfl
      apply seq_passed (hd := rfl) (hl := rfl) (hb := rfl); exact rfl
      apply seq_plain; exact do_pick_f rfl rfl; exact rfl
      apply seq_nil
      refine ct_cond_f rfl rfl ?_
      apply ct_skip
      apply ct_seq
      apply ct_region
      apply seq_plain; exact do_load rfl (by exact ext_get_new rfl) rfl (by exact rfl); exact rfl
      apply seq_plain; exact do_move rfl; exact rfl
      apply seq_call (ht := rfl); exact title_bad (hs.ext (ext_Ext hc)) (ht.ext (ext_Ext hc)) (by omega) (by omega) hok; exact rfl
      apply seq_plain; exact do_move rfl; exact rfl
      apply seq_plain; exact do_extract rfl rfl; exact rfl
      apply seq_plain; exact do_extract rfl rfl; exact rfl
      apply seq_plain; exact do_assign rfl; exact rfl
      apply seq_plain; exact do_assign rfl; exact rfl
      apply seq_nil
      apply ct_seq
      apply ct_seq
      apply ct_region
      apply seq_plain; exact do_move rfl; exact rfl
      apply seq_plain; exact do_binInt rfl rfl rfl trivial; exact rfl
      apply seq_nil
      refine ct_cond_t rfl hx1 ?_
      apply ct_seq
      apply ct_region
      apply seq_plain; exact do_move rfl; exact rfl
      apply seq_plain; exact do_move rfl; exact rfl
      apply seq_plain; exact do_move rfl; exact rfl
      apply seq_call (ht := rfl); exact list27_bad (n := 0) hok; exact rfl
      apply seq_plain; exact do_assign rfl; exact rfl
      apply seq_nil
      apply ct_ret
      exact fin_flat hc rfl rfl ⟨by simp [packA], rfl⟩
end Go.Proofs.YtiggikjbknoohaaGreatDoor
