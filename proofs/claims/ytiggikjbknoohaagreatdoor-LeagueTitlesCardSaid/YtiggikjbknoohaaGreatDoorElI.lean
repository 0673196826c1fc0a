/- LeagueEliminates: the law's own walk. -/
import Derived.Test.YtiggikjbknoohaaGreatDoorElH
import Derived.Test.YtiggikjbknoohaaGreatDoorFnJ
noncomputable section
namespace Go.Proofs.YtiggikjbknoohaaGreatDoor
open Go Go.Den
set_option maxRecDepth 10000

structure LowS (q : Option Addr) (c n : Nat) : Prop where
  cap : n ≤ c
  nil : q = none → n = 0 ∧ c = 0
  spot : ∀ a, q = some a → a.spot = none

theorem lawFirst_c {H : AHeap} {q : Option Addr} {c : Nat} {l : List Int} (hs : SlAt H 1 i1 q l) (hn : l.length < 1000000000000) :
    Ret Tryz.prog 22 [.slice q l.length c] H (I (firstL l)) H := by
  refine fn_start Tryz.func22 rfl rfl rfl fun hc => ?_
  apply ct_seq
  apply ct_region
  apply seq_plain; exact do_assign rfl; exact rfl
  apply seq_nil
  apply ct_seq
  apply ct_seq
  apply ct_region
  apply seq_plain; exact do_assign rfl; exact rfl
  apply seq_nil
  apply ct_block
  apply ct_loop
  refine lt_up (fun i => [(0, .slice q l.length c), (3, I i)]) (fun i => ∀ j (hj : j < l.length), j < i → l[j] = 0) l.length (fun i hi hJ ih => ?_) 0 (by omega) (by intros; omega) (by repeat (first | exact sub_nil | apply sub_cons rfl))
  apply ct_seq
  apply ct_seq
  apply ct_region
  apply seq_plain; exact do_move rfl; exact rfl
  apply seq_plain; exact do_move rfl; exact rfl
  apply seq_plain; exact do_lenS rfl rfl rfl; exact rfl
  apply seq_plain; exact do_binInt rfl rfl rfl trivial; exact rfl
  apply seq_nil
  refine ct_cond rfl (fun hb => ?_) (fun hb => ?_)
  · simp only [decide_eq_true_eq, Int.ofNat_lt] at hb
    obtain ⟨b, o, cs, z, s, ro, rfl, hg, hw⟩ := hs.out (by intro e; rw [e] at hb; simp at hb)
    apply ct_skip
    apply ct_seq
    apply ct_block
    apply ct_seq
    apply ct_region
    apply seq_plain; exact do_move rfl; exact rfl
    apply seq_plain; exact do_move rfl; exact rfl
    apply seq_plain; exact do_indexAddrS rfl rfl rfl (by exact idx_nat (by omega)); exact rfl
    apply seq_plain; exact do_load rfl (by exact ext_get_old (by assumption) (by assumption)) rfl (by exact pt_sl0 (by assumption) (by omega)); exact rfl
    apply seq_plain; exact do_binInt rfl rfl rfl trivial; exact rfl
    apply seq_nil
    refine ct_cond rfl (fun h2 => ?_) (fun h2 => ?_)
    · apply ct_seq
      apply ct_region
      apply seq_plain; exact do_move rfl; exact rfl
      apply seq_plain; exact do_move rfl; exact rfl
      apply seq_plain; exact do_indexAddrS rfl rfl rfl (by exact idx_nat (by omega)); exact rfl
      apply seq_plain; exact do_load rfl (by exact ext_get_old (by assumption) (by assumption)) rfl (by exact pt_sl0 (by assumption) (by omega)); exact rfl
      apply seq_plain; exact do_assign rfl; exact rfl
      apply seq_nil
      apply ct_ret
      refine fin_flat hc rfl rfl ⟨?_, rfl⟩
      rw [firstL_at hb hJ (by simpa using h2)]; rfl
    · apply ct_skip
      apply ct_region
      apply seq_plain; exact do_move rfl; exact rfl
      apply seq_plain; exact do_succ rfl (by omega); exact rfl
      apply seq_plain; exact do_assign rfl; exact rfl
      apply seq_nil
      refine lt_sub ?_ (ih (i + 1) (by omega) (by omega) fun j hj hji => ?_)
      · (repeat (first | exact sub_nil | apply sub_cons rfl))
      · rcases Nat.lt_or_ge j i with h | h
        · exact hJ j hj h
        · have : j = i := by omega
          subst this; simpa using h2
  · simp only [decide_eq_false_iff_not, Int.ofNat_lt] at hb
    apply ct_exit
    apply exit_eq; exact rfl
    apply ct_seq
    apply ct_region
    apply seq_plain; exact do_assign rfl; exact rfl
    apply seq_nil
    apply ct_ret
    refine fin_flat hc rfl rfl ⟨?_, rfl⟩
    rw [firstL_none fun j hj => hJ j hj (by omega)]; rfl

theorem bad_chk {pts : List Int} {opn : List (Int × Int)} {team : Int} : firstL [raceL pts opn, whenL (outL team 0 ((pts.length : Int) - 1)) 10] = chkR pts opn team := by
  have : outL team 0 ((pts.length : Int) - 1) = [team].any (unknownL pts.length) := by
    rw [Bool.eq_iff_iff]; simp [outL, unknownL]; omega
  unfold chkR
  rw [this]

set_option maxHeartbeats 2000000 in
theorem law11 {H : AHeap} {q r u : Option Addr} {c d e : Nat} {pts set : List Int} {opn : List (Int × Int)} {team : Int} (haw : ∀ h, Ext H h → Ret Tryz.prog 17 [] h (.bool true) h) (hs : SlAt H 1 i1 q pts) (ht : SlAt H 2 p2 r opn) (hu : SlAt H 1 i1 u set) :
    Ret Tryz.prog 11 [Rv q pts.length c r opn.length d, I team, .slice u set.length e] H (.bool true) H := by
  refine fn_start Tryz.func11 rfl rfl rfl fun hc => ?_
  apply ct_seq
  apply ct_region
  apply seq_newP; exact do_box rfl rfl rfl; exact rfl
  apply seq_plain; exact do_assign rfl; exact rfl
  apply seq_nil
  apply ct_seq
  apply ct_region
  apply seq_plain; exact do_load rfl (by exact ext_get_new rfl) rfl (by exact rfl); exact rfl
  apply seq_newP; exact do_alloc rfl rfl; exact rfl
  apply seq_putC (hc := by assumption); rotate_left; exact do_store rfl rfl (by exact ext_get_new rfl) rfl rfl (nb_own _); rotate_left; exact Nat.le_of_ble_eq_true rfl
  apply ct_seq
  apply ct_seq
  apply ct_region
  apply seq_call (ht := rfl); exact haw _ (ext_Ext hc); exact rfl
  apply seq_plain; exact do_unOp rfl rfl; exact rfl
  apply seq_plain; exact do_move rfl; exact rfl
  apply seq_guard (hd := rfl) (hl := rfl); exact do_fieldAddr rfl rfl; exact rfl
  apply seq_guard (hd := rfl) (hl := rfl); exact do_load rfl (by exact ext_get_new rfl) rfl (by exact rfl); exact rfl
  apply seq_guard (hd := rfl) (hl := rfl); exact do_lenS rfl rfl rfl; exact rfl
  apply seq_guard (hd := rfl) (hl := rfl); exact do_binInt rfl rfl rfl trivial; exact rfl
  apply seq_plain; exact do_pick_f rfl rfl; exact rfl
  apply seq_plain; exact do_move rfl; exact rfl
  have hT : ∃ T : Bool, T = (decide ((pts.length : Int) > 27) || (decide ((opn.length : Int) > 67) || decide ((set.length : Int) > 40))) := ⟨_, rfl⟩
  obtain ⟨T, hT⟩ := hT
  refine seq_J [(1, I team), (2, .slice u set.length e), (3, .pointer (some ⟨nb H 0, 0, none⟩)), (7, .pointer (some ⟨nb H 1, 0, none⟩)), (32, .bool T)] (ds := []) (h := ext H H.fresh [some (.cells [.slice q pts.length c, .slice r opn.length d] 0 false false), some (.cells [.slice q pts.length c, .slice r opn.length d] 0 false false)]) ?_ ?_
  · refine seq_gsplit rfl rfl (fun u0 => ?_) (fun u0 => ?_)
    · have u0 : decide ((pts.length : Int) > 27) = true := u0
      have e : T = true := by rw [hT, u0]; rfl
      rw [e]
      apply seq_passed (hd := rfl) (hl := rfl) (hb := rfl); exact rfl
      apply seq_passed (hd := rfl) (hl := rfl) (hb := rfl); exact rfl
      apply seq_passed (hd := rfl) (hl := rfl) (hb := rfl); exact rfl
      apply seq_passed (hd := rfl) (hl := rfl) (hb := rfl); exact rfl
      apply seq_plain; exact do_pick_t rfl rfl; exact rfl
      apply seq_plain; exact do_move rfl; exact rfl
      apply seq_passed (hd := rfl) (hl := rfl) (hb := rfl); exact rfl
      apply seq_passed (hd := rfl) (hl := rfl) (hb := rfl); exact rfl
      apply seq_passed (hd := rfl) (hl := rfl) (hb := rfl); exact rfl
      apply seq_plain; exact do_pick_t rfl rfl; exact rfl
      apply seq_nil
      exact jp_of (by repeat (first | exact sub_nil | apply sub_cons rfl))
    · have u0 : decide ((pts.length : Int) > 27) = false := u0
      apply seq_guard (hd := rfl) (hl := rfl); exact do_fieldAddr rfl rfl; exact rfl
      apply seq_guard (hd := rfl) (hl := rfl); exact do_load rfl (by exact ext_get_new rfl) rfl (by exact rfl); exact rfl
      apply seq_guard (hd := rfl) (hl := rfl); exact do_lenS rfl rfl rfl; exact rfl
      apply seq_guard (hd := rfl) (hl := rfl); exact do_binInt rfl rfl rfl trivial; exact rfl
      apply seq_plain; exact do_pick_f rfl rfl; exact rfl
      apply seq_plain; exact do_move rfl; exact rfl
      refine seq_gsplit rfl rfl (fun u1 => ?_) (fun u1 => ?_)
      · have u1 : decide ((opn.length : Int) > 67) = true := u1
        have e : T = true := by rw [hT, u0, u1]; rfl
        rw [e]
        apply seq_passed (hd := rfl) (hl := rfl) (hb := rfl); exact rfl
        apply seq_passed (hd := rfl) (hl := rfl) (hb := rfl); exact rfl
        apply seq_passed (hd := rfl) (hl := rfl) (hb := rfl); exact rfl
        apply seq_plain; exact do_pick_t rfl rfl; exact rfl
        apply seq_nil
        exact jp_of (by repeat (first | exact sub_nil | apply sub_cons rfl))
      · have u1 : decide ((opn.length : Int) > 67) = false := u1
        have e : T = decide ((set.length : Int) > 40) := by rw [hT, u0, u1]; rfl
        rw [e]
        apply seq_guard (hd := rfl) (hl := rfl); exact do_move rfl; exact rfl
        apply seq_guard (hd := rfl) (hl := rfl); exact do_lenS rfl rfl rfl; exact rfl
        apply seq_guard (hd := rfl) (hl := rfl); exact do_binInt rfl rfl rfl trivial; exact rfl
        apply seq_plain; exact do_pick_f rfl rfl; exact rfl
        apply seq_nil
        exact jp_of (by repeat (first | exact sub_nil | apply sub_cons rfl))
  skip
  refine ct_cond rfl (fun h1 => ?_) (fun h1 => ?_)
  · apply ct_seq
    apply ct_region
    apply seq_call (ht := rfl); exact haw _ (ext_Ext hc); exact rfl
    apply seq_plain; exact do_assign rfl; exact rfl
    apply seq_nil
    apply ct_ret
    exact fin_flat hc rfl rfl ⟨rfl, rfl⟩
  · have hn : pts.length ≤ 27 ∧ opn.length ≤ 67 ∧ set.length ≤ 40 := by
      rw [h1] at hT
      have hT := hT.symm
      simp only [Bool.or_eq_false_iff, decide_eq_false_iff_not] at hT
      omega
    obtain ⟨hn1, hn2, hn3⟩ := hn
    clear hT
    apply ct_skip
    apply ct_seq
    apply ct_draw (by assumption); decide +kernel
    apply sd_look (hfree := rfl); exact do_load rfl (by exact ext_get_new rfl) rfl (by exact rfl); exact rfl
    apply sd_call (ht := rfl); exact refRace_c (hs.ext (ext_Ext hc)) (ht.ext (ext_Ext hc)) (by omega) (by omega); exact rfl
    apply sd_plain (hfree := rfl); intro _; exact do_move rfl; exact rfl
    apply sd_plain (hfree := rfl); intro _; exact do_fieldAddr rfl rfl; exact rfl
    apply sd_look (hfree := rfl); exact do_load rfl (by exact ext_get_new rfl) rfl (by exact rfl); exact rfl
    apply sd_look (hfree := rfl); exact do_lenS rfl rfl rfl; exact rfl
    apply sd_plain (hfree := rfl); intro _; exact do_sub rfl rfl (by omega); exact rfl
    apply sd_call (ht := rfl); exact outside24; exact rfl
    apply sd_call (ht := rfl); exact when23; exact rfl
    apply sd_newS (hfree := rfl); exact do_buildSlice rfl rfl rfl rfl rfl rfl rfl; exact rfl
    apply sd_callM (ht := rfl) (hw := rfl); decide +kernel; exact lawFirst_c (l := [_, _]) (slAt_map (ext_get_new rfl)) (by simp); exact rfl
    apply sd_plain (hfree := rfl); intro _; exact do_assign rfl; exact rfl
    apply sd_nil
    apply ct_seq
    apply ct_region
    apply seq_plain; exact do_load rfl (by exact ext_get_new rfl) rfl (by exact rfl); exact rfl
    apply seq_plain; exact do_move rfl; exact rfl
    apply seq_plain; exact do_move rfl; exact rfl
    rw [bad_chk]
    apply seq_call (ht := rfl); exact checkEliminated_c (hs.ext (ext_Ext hc)) (ht.ext (ext_Ext hc)) (hu.ext (ext_Ext hc)) (by omega) (by omega) (by omega); exact rfl
    apply seq_plain; exact do_assign rfl; exact rfl
    apply seq_nil
    apply ct_seq
    apply ct_seq
    apply ct_region
    apply seq_plain; exact do_move rfl; exact rfl
    apply seq_plain; exact do_binInt rfl rfl rfl trivial; exact rfl
    apply seq_plain; exact do_move rfl; exact rfl
    by_cases hok : chkR pts opn team = 0
    · obtain ⟨hk1, hk2, hk3⟩ := chkR_zero hok
      have hg := race_good hk1
      obtain ⟨tm, rfl⟩ := Int.eq_ofNat_of_zero_le hk2
      have htm : tm < pts.length := by omega
      have eel : elimE pts opn tm set = setE pts opn tm set := by unfold elimE; rw [if_neg (by simp [hok])]
      rw [hok, eel]
      apply seq_passed (hd := rfl) (hl := rfl) (hb := rfl); exact rfl
      apply seq_passed (hd := rfl) (hl := rfl) (hb := rfl); exact rfl
      apply seq_passed (hd := rfl) (hl := rfl) (hb := rfl); exact rfl
      apply seq_plain; exact do_pick_f rfl rfl; exact rfl
      apply seq_plain; exact do_move rfl; exact rfl
      apply seq_guard (hd := rfl) (hl := rfl); exact do_move rfl; exact rfl
      apply seq_guard (hd := rfl) (hl := rfl); exact do_binInt rfl rfl rfl trivial; exact rfl
      apply seq_guard (hd := rfl) (hl := rfl); exact do_move rfl; exact rfl
      apply seq_guard (hd := rfl) (hl := rfl); exact do_move rfl; exact rfl
      apply seq_guard (hd := rfl) (hl := rfl); exact do_load rfl (by exact ext_get_new rfl) rfl (by exact rfl); exact rfl
      apply seq_guard (hd := rfl) (hl := rfl); exact do_move rfl; exact rfl
      apply seq_guard (hd := rfl) (hl := rfl); exact do_move rfl; exact rfl
      apply seq_gcall (hg := rfl) (hl := rfl) (ht := rfl); exact refCheckEliminated_c (hs.ext (ext_Ext hc)) (ht.ext (ext_Ext hc)) (hu.ext (ext_Ext hc)) hg hk2 hk3 (by omega); exact rfl
      apply seq_guard (hd := rfl) (hl := rfl); exact do_binInt rfl rfl rfl trivial; exact rfl
      apply seq_guard (hd := rfl) (hl := rfl); exact do_pick_t rfl rfl; exact rfl
      apply seq_plain; exact do_pick_f rfl rfl; exact rfl
      apply seq_nil
      refine ct_cond_f rfl (by simp) ?_
      apply ct_skip
      apply ct_seq
      apply ct_seq
      apply ct_region
      apply seq_plain; exact do_move rfl; exact rfl
      apply seq_plain; exact do_binInt rfl rfl rfl trivial; exact rfl
      apply seq_plain; exact do_move rfl; exact rfl
      apply seq_guard (hd := rfl) (hl := rfl); exact do_fieldAddr rfl rfl; exact rfl
      apply seq_guard (hd := rfl) (hl := rfl); exact do_load rfl (by exact ext_get_new rfl) rfl (by exact rfl); exact rfl
      apply seq_guard (hd := rfl) (hl := rfl); exact do_lenS rfl rfl rfl; exact rfl
      apply seq_guard (hd := rfl) (hl := rfl); exact do_binInt rfl rfl rfl trivial; exact rfl
      apply seq_plain; exact do_pick_t rfl rfl; exact rfl
      apply seq_nil
      refine ct_cond rfl (fun h2 => ?_) (fun h2 => ?_)
      · apply ct_seq
        apply ct_region
        apply seq_plain; exact do_assign rfl; exact rfl
        apply seq_nil
        apply ct_ret
        exact fin_flat hc rfl rfl ⟨rfl, rfl⟩
      · have h2 : ((pts.length : Int) == 8) = false := h2
        have h2 : pts.length ≠ 8 := by simp at h2; omega
        by_cases h8 : pts.length ≤ 8
        · have hd : decide ((pts.length : Int) > 8) = false := by simp; omega
          have c1 : ∀ L, Ret Tryz.prog 64 [Rv q pts.length c r opn.length d, I tm] (ext H H.fresh L) (.tuple ⟨[lstV (nb H L.length) (bestL pts opn tm), I (whenL (bestL pts opn tm).isEmpty 7)]⟩) (ext H H.fresh (L ++ lstL 1 i1 (bestL pts opn tm))) := fun L => by
            have := eliminated_c (c := c) (d := d) (hs.ext (ext_Ext hc (lo := H.fresh) (L := L))) (ht.ext (ext_Ext hc)) hok h8
            rw [lstH_ext, ext_fresh] at this
            exact this
          have c2 : ∀ L, Ret Tryz.prog 65 [Rv q pts.length c r opn.length d, I tm] (ext H H.fresh L) (lstV (nb H L.length) (bestL pts opn tm)) (ext H H.fresh (L ++ lstL 1 i1 (bestL pts opn tm))) := fun L => by
            have := refEliminated_c (c := c) (d := d) (hs.ext (ext_Ext hc (lo := H.fresh) (L := L))) (ht.ext (ext_Ext hc)) hg htm h8
            rw [lstH_ext, ext_fresh] at this
            exact this
          have hbl := bestTo_len (pts := pts) (opn := opn) (team := tm) (2 ^ pts.length)
          have hbl : (bestL pts opn tm).length ≤ pts.length := hbl
          apply ct_skip
          apply ct_seq
          apply ct_region
          apply seq_plain; exact do_load rfl (by exact ext_get_new rfl) rfl (by exact rfl); exact rfl
          apply seq_plain; exact do_move rfl; exact rfl
          apply seq_call (ht := rfl); exact c1 _; exact rfl
          apply seq_plain; exact do_move rfl; exact rfl
          apply seq_plain; exact do_extract rfl rfl; exact rfl
          apply seq_plain; exact do_extract rfl rfl; exact rfl
          apply seq_plain; exact do_assign rfl; exact rfl
          apply seq_plain; exact do_assign rfl; exact rfl
          apply seq_nil
          apply ct_seq
          apply ct_seq
          apply ct_region
          apply seq_plain; exact do_move rfl; exact rfl
          apply seq_plain; exact do_binInt rfl rfl rfl trivial; exact rfl
          apply seq_nil
          refine ct_cond_t rfl rfl ?_
          apply ct_region
          apply seq_plain; exact do_fieldAddr rfl rfl; exact rfl
          apply seq_plain; exact do_load rfl (by exact ext_get_new rfl) rfl (by exact rfl); exact rfl
          apply seq_plain; exact do_lenS rfl rfl rfl; exact rfl
          apply seq_plain; exact do_binInt rfl rfl rfl trivial; exact rfl
          apply seq_call (ht := rfl); exact when23; exact rfl
          apply seq_plain; exact do_assign rfl; exact rfl
          apply seq_nil
          apply ct_seq
          apply ct_seq
          apply ct_region
          apply seq_plain; exact do_move rfl; exact rfl
          apply seq_plain; exact do_binInt rfl rfl rfl trivial; exact rfl
          apply seq_nil
          rw [hd]
          refine ct_cond_f rfl rfl ?_
          apply ct_skip
          apply ct_seq
          apply ct_region
          apply seq_plain; exact do_load rfl (by exact ext_get_new rfl) rfl (by exact rfl); exact rfl
          apply seq_plain; exact do_move rfl; exact rfl
          apply seq_call (ht := rfl); exact c2 _; exact rfl
          apply seq_plain; exact do_assign rfl; exact rfl
          apply seq_nil
          apply ct_seq
          apply ct_region
          apply seq_plain; exact do_move rfl; exact rfl
          apply seq_plain; exact do_move rfl; exact rfl
          apply seq_plain; exact do_move rfl; exact rfl
          apply seq_plain; exact do_lenS rfl rfl rfl; exact rfl
          apply seq_plain; exact do_binInt rfl rfl rfl trivial; exact rfl
          apply seq_call (ht := rfl); exact when23; exact rfl
          apply seq_plain; exact do_move rfl; exact rfl
          generalize hb : bestL pts opn tm = best at hbl ⊢
          cases best with
          | nil =>
            apply seq_call (ht := rfl); exact list27_bad (n := 0) (by decide); exact rfl
            apply seq_plain; exact do_assign rfl; exact rfl
            apply seq_nil
            apply ct_ret
            exact fin_flat hc rfl rfl ⟨rfl, rfl⟩
          | cons x y =>
            have hz : (((x :: y).length : Int) == 0) = false := by rw [List.length_cons]; simp; omega
            rw [hz]
            apply seq_call (ht := rfl)
            exact list27 (l := x :: y) (m := x :: y) ((lst_slAt (m := 1) (f := i1) fun _ => rfl).ext (lst_Ext hc)) (lst_slAt (m := 1) (f := i1) fun _ => rfl) (by omega)
            exact rfl
            apply seq_plain; exact do_assign rfl; exact rfl
            apply seq_nil
            apply ct_ret
            exact fin_flat hc rfl rfl ⟨by simp [packA], rfl⟩
        · have hd : decide ((pts.length : Int) > 8) = true := by simp; omega
          have hbad : firstL [chkR pts opn tm, whenL (decide ((pts.length : Int) > 8)) 22] ≠ 0 := by rw [hok, hd]; decide
          apply ct_skip
          apply ct_seq
          apply ct_region
          apply seq_plain; exact do_load rfl (by exact ext_get_new rfl) rfl (by exact rfl); exact rfl
          apply seq_plain; exact do_move rfl; exact rfl
          apply seq_call (ht := rfl); exact eliminated_bad (hs.ext (ext_Ext hc)) (ht.ext (ext_Ext hc)) (by omega) (by omega) hbad; exact rfl
          apply seq_plain; exact do_move rfl; exact rfl
          apply seq_plain; exact do_extract rfl rfl; exact rfl
          apply seq_plain; exact do_extract rfl rfl; exact rfl
          apply seq_plain; exact do_assign rfl; exact rfl
          apply seq_plain; exact do_assign rfl; exact rfl
          apply seq_nil
          apply ct_seq
          apply ct_seq
          apply ct_region
          apply seq_plain; exact do_move rfl; exact rfl
          apply seq_plain; exact do_binInt rfl rfl rfl trivial; exact rfl
          apply seq_nil
          refine ct_cond_t rfl rfl ?_
          apply ct_region
          apply seq_plain; exact do_fieldAddr rfl rfl; exact rfl
          apply seq_plain; exact do_load rfl (by exact ext_get_new rfl) rfl (by exact rfl); exact rfl
          apply seq_plain; exact do_lenS rfl rfl rfl; exact rfl
          apply seq_plain; exact do_binInt rfl rfl rfl trivial; exact rfl
          apply seq_call (ht := rfl); exact when23; exact rfl
          apply seq_plain; exact do_assign rfl; exact rfl
          apply seq_nil
          apply ct_seq
          apply ct_seq
          apply ct_region
          apply seq_plain; exact do_move rfl; exact rfl
          apply seq_plain; exact do_binInt rfl rfl rfl trivial; exact rfl
          apply seq_nil
          rw [hok, hd]
          refine ct_cond_t rfl rfl ?_
          apply ct_seq
          apply ct_region
          apply seq_plain; exact do_move rfl; exact rfl
          apply seq_plain; exact do_move rfl; exact rfl
          apply seq_plain; exact do_move rfl; exact rfl
          apply seq_call (ht := rfl); exact list27_bad (n := 0) (by decide); exact rfl
          apply seq_plain; exact do_assign rfl; exact rfl
          apply seq_nil
          apply ct_ret
          exact fin_flat hc rfl rfl ⟨rfl, rfl⟩
    · have eel : elimE pts opn team set = chkR pts opn team := by unfold elimE; rw [if_pos hok]
      have hbad : firstL [chkR pts opn team, whenL (decide ((pts.length : Int) > 8)) 22] = chkR pts opn team := by simp [firstL, hok]
      have hx1 : (chkR pts opn team != 0) = true := by simpa using hok
      have hx2 : (chkR pts opn team == 0) = false := by simpa using hok
      have hx3 : (chkR pts opn team != chkR pts opn team) = false := by simp
      have c1 := fun L => eliminated_bad (c := c) (d := d) (hs.ext (ext_Ext hc (lo := H.fresh) (L := L))) (ht.ext (ext_Ext hc)) (by omega) (by omega) (by rw [hbad]; exact hok)
      rw [hbad] at c1
      rw [eel, hx1]
      apply seq_guard (hd := rfl) (hl := rfl); exact do_move rfl; exact rfl
      apply seq_guard (hd := rfl) (hl := rfl); exact do_move rfl; exact rfl
      apply seq_guard (hd := rfl) (hl := rfl); exact do_binInt rfl rfl rfl trivial; exact rfl
      apply seq_plain; exact do_pick_t rfl rfl; exact rfl
      apply seq_plain; exact do_move rfl; exact rfl
      rw [hx3]
      apply seq_guard (hd := rfl) (hl := rfl); exact do_move rfl; exact rfl
      apply seq_guard (hd := rfl) (hl := rfl); exact do_binInt rfl rfl rfl trivial; exact rfl
      apply seq_guard (hd := rfl) (hl := rfl); exact do_move rfl; exact rfl
      rw [hx2]
      apply seq_passed (hd := rfl) (hl := rfl) (hb := rfl); exact rfl
      apply seq_passed (hd := rfl) (hl := rfl) (hb := rfl); exact rfl
      apply seq_passed (hd := rfl) (hl := rfl) (hb := rfl); exact rfl
      apply seq_passed (hd := rfl) (hl := rfl) (hb := rfl); exact rfl
      apply seq_passed (hd := rfl) (hl := rfl) (hb := rfl); exact rfl
      apply seq_passed (hd := rfl) (hl := rfl) (hb := rfl); exact rfl
      apply seq_guard (hd := rfl) (hl := rfl); exact do_pick_f rfl rfl; exact rfl
      apply seq_plain; exact do_pick_f rfl rfl; exact rfl
      apply seq_nil
      refine ct_cond_f rfl rfl ?_
      apply ct_skip
      apply ct_seq
      apply ct_seq
      apply ct_region
      apply seq_plain; exact do_move rfl; exact rfl
      apply seq_plain; exact do_binInt rfl rfl rfl trivial; exact rfl
      apply seq_plain; exact do_move rfl; exact rfl
      rw [hx2]
      apply seq_passed (hd := rfl) (hl := rfl) (hb := rfl); exact rfl
      apply seq_passed (hd := rfl) (hl := rfl) (hb := rfl); exact rfl
      apply seq_passed (hd := rfl) (hl := rfl) (hb := rfl); exact rfl
      apply seq_passed (hd := rfl) (hl := rfl) (hb := rfl); exact rfl
      apply seq_plain; exact do_pick_f rfl rfl; exact rfl
      apply seq_nil
      refine ct_cond_f rfl rfl ?_
      apply ct_skip
      apply ct_seq
      apply ct_region
      apply seq_plain; exact do_load rfl (by exact ext_get_new rfl) rfl (by exact rfl); exact rfl
      apply seq_plain; exact do_move rfl; exact rfl
      apply seq_call (ht := rfl); exact c1 _; exact rfl
      apply seq_plain; exact do_move rfl; exact rfl
      apply seq_plain; exact do_extract rfl rfl; exact rfl
      apply seq_plain; exact do_extract rfl rfl; exact rfl
      apply seq_plain; exact do_assign rfl; exact rfl
      apply seq_plain; exact do_assign rfl; exact rfl
      apply seq_nil
      apply ct_seq
      apply ct_seq
      apply ct_region
      apply seq_plain; exact do_move rfl; exact rfl
      apply seq_plain; exact do_binInt rfl rfl rfl trivial; exact rfl
      apply seq_nil
      refine ct_cond_f rfl hx2 ?_
      apply ct_skip
      apply ct_seq
      apply ct_seq
      apply ct_region
      apply seq_plain; exact do_move rfl; exact rfl
      apply seq_plain; exact do_binInt rfl rfl rfl trivial; exact rfl
      apply seq_nil
      refine ct_cond_t rfl hx1 ?_
      apply ct_seq
      apply ct_region
      apply seq_plain; exact do_move rfl; exact rfl
      apply seq_plain; exact do_move rfl; exact rfl
      apply seq_plain; exact do_move rfl; exact rfl
      apply seq_call (ht := rfl); exact list27_bad (n := 0) hok; exact rfl
      apply seq_plain; exact do_assign rfl; exact rfl
      apply seq_nil
      apply ct_ret
      exact fin_flat hc rfl rfl ⟨by simp [packA], rfl⟩
end Go.Proofs.YtiggikjbknoohaaGreatDoor
