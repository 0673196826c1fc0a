/- HallDepths: the law's own walk. -/
import Derived.Test.YtfegloadbajbhaaGreatDoorDeM
import Derived.Test.YtfegloadbajbhaaGreatDoorBgH
import Derived.Test.YtfegloadbajbhaaGreatDoorHkB
import Derived.Test.YtfegloadbajbhaaGreatDoorBkL
import Derived.Test.YtfegloadbajbhaaGreatDoorHbC
noncomputable section
namespace Go.Proofs.YtfegloadbajbhaaGreatDoor
open Go Go.Den
set_option maxRecDepth 100000
theorem seq_any {P : Program} {rd : Option Nat} {nt : Nat} {ops : Array Oper} {r : List Oper} {i : Nat} {ds : List Nat} {e : Env} {H : AHeap} {lo : Nat} {L : List (Option ABlk)} {K : St → Prop} (hk : ∀ L' : List (Option ABlk), SeqL P rd nt ops r i ⟨e, ds, ext H lo L'⟩ K) : SeqL P rd nt ops r i ⟨e, ds, ext H lo L⟩ K := hk L
theorem ovb_zero {t : List Tb} {l : List Bk} (h : (OvbV t l).2.2 ≠ 0) : (OvbV t l).2.1 = 0 := by
  unfold OvbV at h ⊢
  by_cases hb : bothE t l ≠ 0
  · rw [if_pos hb]
  · rw [if_neg hb] at h ⊢
    have ok := both_ok (Classical.not_not.1 hb)
    have hr := roA_inv t l l.length (Nat.le_refl _)
    have e := ok.ov
    have hf : fitB t l = true := by
      cases ef : fitB t l
      · rw [ef] at h; exact absurd rfl h
      · rfl
    rw [hf] at e
    have e1 : (roA t l l.length).2.2 = false := by simpa using e.2.symm
    show (ovV t l).2 = 0
    rw [e.1, (hr.none e1).1]
theorem ovb_ref {t : List Tb} {l : List Bk} (h : bothE t l = 0) : OvbV t l = ((roA t l l.length).1, (roA t l l.length).2.1, whenL (!(roA t l l.length).2.2) 7) := by
  unfold OvbV
  rw [if_neg (by rw [h]; simp), (both_ok h).ov.1, (both_ok h).ov.2]
theorem ovb_bad {t : List Tb} {l : List Bk} (h : bothE t l ≠ 0) : OvbV t l = (strB [], 0, bothE t l) := if_pos h
theorem ext_more {H : AHeap} (hc : Closed H) {lo lo' : Nat} {L M : List (Option ABlk)} : Ext (ext H lo L) (ext H lo' (L ++ M)) := fun b y hb => by
  rw [ext_get hc] at hb ⊢
  by_cases h : b % 2 = 0 ∧ H.fresh ≤ b
  · rw [if_pos h] at hb ⊢
    cases e : L[b / 2 - H.next]? with
    | none => rw [e] at hb; cases hb
    | some x => rw [getApp e]; rw [e] at hb; exact hb
  · rw [if_neg h] at hb ⊢; exact hb
set_option maxHeartbeats 8000000 in
theorem depths_w {H : AHeap} {q r : Option Addr} {c d : Nat} {t : List Tb} {l : List Bk} {k : ByteArray} (haw : ∀ h, Ext H h → Ret Tryz.prog 17 [] h (.bool true) h) (hs : SlAt H 2 tb q t) (hlow : LowS q c t.length) (hn : t.length ≤ 1048576) (hr : SlAt H 4 bk r l) (hlow2 : LowS r d l.length) (hq : OldS H r) (hm : l.length ≤ 1048576) :
    Ret Tryz.prog 3 [.slice q t.length c, .slice r l.length d, .string k] H (.bool true) H := by
  refine fn_start Tryz.func3 rfl rfl rfl fun hc => ?_
  have c1 := fun L => own_c (c := c) (d := d) (hs.ext (ext_Ext hc (lo := H.fresh) (L := L))) (by omega) (hr.ext (ext_Ext hc (lo := H.fresh) (L := L))) (by omega)
  simp only [lstH_ext, ext_fresh] at c1
  apply ct_seq
  apply ct_region
  apply seq_plain; exact do_assign rfl; exact rfl
  apply seq_nil
  apply ct_seq
  apply ct_region
  apply seq_plain; exact do_move rfl; exact rfl
  apply seq_plain; exact do_move rfl; exact rfl
  apply seq_call (ht := rfl); exact c1 []; exact rfl
  apply seq_plain; exact do_move rfl; exact rfl
  apply seq_plain; exact do_extract rfl rfl; exact rfl
  apply seq_plain; exact do_extract rfl rfl; exact rfl
  apply seq_plain; exact do_assign rfl; exact rfl
  apply seq_plain; exact do_assign rfl; exact rfl
  apply seq_nil
  apply ct_seq
  apply ct_seq
  apply ct_region
  obtain ⟨p, hp⟩ : ∃ p, p = lstP (nb H ([] : List (Option ABlk)).length) t := ⟨_, rfl⟩
  obtain ⟨u, hu⟩ : ∃ u, u = lstP (nb H (([] : List (Option ABlk)) ++ lstL 2 tb t).length) l := ⟨_, rfl⟩
  have s1 : SlAt (ext H H.fresh ([] ++ lstL 2 tb t ++ lstL 4 bk l)) 4 bk u l := by rw [hu]; exact lst_slAt bk_len
  have s2 : SlAt (ext H H.fresh ([] ++ lstL 2 tb t ++ lstL 4 bk l)) 2 tb p t := by
    have := lst_slAt (H := H) (lo := H.fresh) (L := []) (m := 2) (f := tb) (l := t) tb_len
    rw [hp]
    exact this.ext (ext_more hc)
  refine seqL_to (l' := [(0, .slice q t.length c), (1, .slice r l.length d), (2, .string k), (6, .bool false), (7, .slice p t.length t.length), (8, .slice u l.length l.length)]) (by rw [hp, hu]; repeat (first | exact sub_nil | apply sub_cons rfl)) ext_base (by simp) ?_
  obtain ⟨h, hh⟩ : ∃ h, h = ext H H.fresh ([] ++ lstL 2 tb t ++ lstL 4 bk l) := ⟨_, rfl⟩
  have hc' : Closed h := by rw [hh]; exact ext_closed hc
  have hE : Ext H h := by rw [hh]; exact ext_Ext hc
  have hq' : OldS h r := by rw [hh]; exact hq.ext
  rw [← hh] at s1 s2 ⊢
  clear hh hp hu c1
  have aw := fun lo L => haw _ (hE.trans (ext_Ext (lo := lo) (L := L) hc'))
  have sh := fun lo L => short_c (d := l.length) (c := t.length) (e := 0) (s2.ext (ext_Ext (lo := lo) (L := L) hc')) (by omega) (s1.ext (ext_Ext (lo := lo) (L := L) hc')) (by omega) (SlAt.nil (p := none)) (by simp)
  obtain ⟨T, hT⟩ : ∃ T, T = (!shortH t l [] || decide ((k.size : Int) > 40)) := ⟨_, rfl⟩
  apply seq_call (ht := rfl); exact aw _ _; exact rfl
  apply seq_plain; exact do_unOp rfl rfl; exact rfl
  apply seq_plain; exact do_move rfl; exact rfl
  apply seq_guard (hd := rfl) (hl := rfl); exact do_move rfl; exact rfl
  apply seq_guard (hd := rfl) (hl := rfl); exact do_move rfl; exact rfl
  apply seq_gcall (hg := rfl) (hl := rfl) (ht := rfl); exact sh _ _; exact rfl
  apply seq_guard (hd := rfl) (hl := rfl); exact do_unOp rfl rfl; exact rfl
  apply seq_plain; exact do_pick_f rfl rfl; exact rfl
  apply seq_plain; exact do_move rfl; exact rfl
  refine seq_J [(0, .slice q t.length c), (1, .slice r l.length d), (2, .string k), (6, .bool false), (7, .slice p t.length t.length), (8, .slice u l.length l.length), (39, .bool T)] (ds := []) (h := ext h (min H.fresh H.fresh) []) ?_ ?_
  · refine seq_gsplit rfl rfl (fun u0 => ?_) (fun u0 => ?_)
    · have u0 : (!shortH t l []) = true := u0
      have e : T = true := by rw [hT, u0]; rfl
      rw [e]
      apply seq_passed (hd := rfl) (hl := rfl) (hb := rfl); exact rfl
      apply seq_passed (hd := rfl) (hl := rfl) (hb := rfl); exact rfl
      apply seq_passed (hd := rfl) (hl := rfl) (hb := rfl); exact rfl
      apply seq_plain; exact do_pick_t rfl rfl; exact rfl
      apply seq_nil
      exact jp_of (by repeat (first | exact sub_nil | apply sub_cons rfl))
    · have u0 : (!shortH t l []) = false := u0
      have e : T = decide ((k.size : Int) > 40) := by rw [hT, u0]; rfl
      rw [e]
      apply seq_guard (hd := rfl) (hl := rfl); exact do_move rfl; exact rfl
      apply seq_guard (hd := rfl) (hl := rfl); exact do_lenStr rfl rfl rfl; exact rfl
      apply seq_guard (hd := rfl) (hl := rfl); exact do_binInt rfl rfl rfl trivial; exact rfl
      apply seq_plain; exact do_pick_f rfl rfl; exact rfl
      apply seq_nil
      exact jp_of (by repeat (first | exact sub_nil | apply sub_cons rfl))
  refine ct_cond rfl (fun u0 => ?_) (fun u0 => ?_)
  · apply ct_seq
    apply ct_region
    apply seq_call (ht := rfl); exact aw _ _; exact rfl
    apply seq_plain; exact do_assign rfl; exact rfl
    apply seq_nil
    apply ct_ret
    exact fin_flatB hc hc' hE rfl rfl ⟨rfl, rfl⟩
  rw [u0] at hT
  obtain ⟨n1, n2⟩ : shortH t l [] = true ∧ ((k.size : Int) ≤ 40) := by
    have := hT.symm
    simp only [Bool.or_eq_false_iff, Bool.not_eq_false', decide_eq_false_iff_not] at this
    exact ⟨this.1, by omega⟩
  obtain ⟨m1, m2, _⟩ := shortH_len n1
  clear hT u0 n1 sh
  have hse := hs.ext hE
  have hre := hr.ext hE
  apply ct_skip
  apply ct_seq
  apply ct_seq
  apply ct_region
  apply seq_plain; exact do_move rfl; exact rfl
  apply seq_call (ht := rfl); exact checkTables_c (hse.ext (ext_Ext hc')) hlow (by omega); exact rfl
  apply seq_plain; exact do_move rfl; exact rfl
  apply seq_call (ht := rfl); exact refTables_c (s2.ext (ext_Ext hc')) (by omega); exact rfl
  apply seq_plain; exact do_binInt rfl rfl rfl trivial; exact rfl
  apply seq_plain; exact do_move rfl; exact rfl
  simp only [bne_self_eq_false]
  apply seq_guard (hd := rfl) (hl := rfl); exact do_move rfl; exact rfl
  apply seq_gcall (hg := rfl) (hl := rfl) (ht := rfl); exact checkBookings_c (hre.ext (ext_Ext hc')) hlow2 (by omega); exact rfl
  apply seq_guard (hd := rfl) (hl := rfl); exact do_move rfl; exact rfl
  apply seq_gcall (hg := rfl) (hl := rfl) (ht := rfl); exact refBookings_c (s1.ext (ext_Ext hc')) (by omega); exact rfl
  apply seq_guard (hd := rfl) (hl := rfl); exact do_binInt rfl rfl rfl trivial; exact rfl
  apply seq_plain; exact do_pick_f rfl rfl; exact rfl
  apply seq_nil
  simp only [bne_self_eq_false]
  skip
  refine ct_cond_f rfl rfl ?_
  apply ct_skip
  apply ct_seq
  apply ct_seq
  apply ct_region
  apply seq_plain; exact do_move rfl; exact rfl
  apply seq_plain; exact do_lenS rfl rfl rfl; exact rfl
  apply seq_plain; exact do_binInt rfl rfl rfl trivial; exact rfl
  apply seq_plain; exact do_move rfl; exact rfl
  obtain ⟨T, hT⟩ : ∃ T, T = (decide ((l.length : Int) > 40) && decide ((l.length : Int) ≤ 256)) := ⟨_, rfl⟩
  refine seq_J [(0, .slice q t.length c), (1, .slice r l.length d), (2, .string k), (6, .bool false), (7, .slice p t.length t.length), (8, .slice u l.length l.length), (60, .bool T)] (ds := []) (h := ext h (min H.fresh H.fresh) []) ?_ ?_
  · refine seq_gsplit rfl rfl (fun u0 => ?_) (fun u0 => ?_)
    · have u0 : decide ((l.length : Int) > 40) = true := u0
      have e : T = decide ((l.length : Int) ≤ 256) := by rw [hT, u0]; rfl
      rw [e]
      apply seq_guard (hd := rfl) (hl := rfl); exact do_move rfl; exact rfl
      apply seq_guard (hd := rfl) (hl := rfl); exact do_lenS rfl rfl rfl; exact rfl
      apply seq_guard (hd := rfl) (hl := rfl); exact do_binInt rfl rfl rfl trivial; exact rfl
      apply seq_plain; exact do_pick_t rfl rfl; exact rfl
      apply seq_nil
      exact jp_of (by repeat (first | exact sub_nil | apply sub_cons rfl))
    · have u0 : decide ((l.length : Int) > 40) = false := u0
      have e : T = false := by rw [hT, u0]; rfl
      rw [e]
      apply seq_passed (hd := rfl) (hl := rfl) (hb := rfl); exact rfl
      apply seq_passed (hd := rfl) (hl := rfl) (hb := rfl); exact rfl
      apply seq_passed (hd := rfl) (hl := rfl) (hb := rfl); exact rfl
      apply seq_plain; exact do_pick_f rfl rfl; exact rfl
      apply seq_nil
      exact jp_of (by repeat (first | exact sub_nil | apply sub_cons rfl))
  refine ct_cond rfl (fun u0 => ?_) (fun u0 => ?_)
  · apply ct_seq
    apply ct_region
    apply seq_plain; exact do_assign rfl; exact rfl
    apply seq_nil
    apply ct_ret
    exact fin_flatB hc hc' hE rfl rfl ⟨rfl, rfl⟩
  clear hT aw
  -- HERE
  apply ct_skip
  apply ct_seq
  apply ct_region
  apply seq_plain; exact do_move rfl; exact rfl
  apply seq_plain; exact do_move rfl; exact rfl
  apply seq_call (ht := rfl); exact Depth_c (hre.ext (ext_Ext hc')) hlow2 hq'.ext (by omega); exact rfl
  apply seq_plain; exact do_move rfl; exact rfl
  apply seq_plain; exact do_extract rfl rfl; exact rfl
  apply seq_plain; exact do_extract rfl rfl; exact rfl
  apply seq_plain; exact do_extract rfl rfl; exact rfl
  apply seq_plain; exact do_assign rfl; exact rfl
  apply seq_plain; exact do_assign rfl; exact rfl
  apply seq_plain; exact do_assign rfl; exact rfl
  apply seq_nil
  apply ct_seq
  apply ct_region
  apply seq_plain; exact do_move rfl; exact rfl
  apply seq_call (ht := rfl); exact refBookings_c (s1.ext (ext_Ext hc')) (by omega); exact rfl
  apply seq_plain; exact do_move rfl; exact rfl
  apply seq_call (ht := rfl); exact refIsName_c; exact rfl
  apply seq_plain; exact do_unOp rfl rfl; exact rfl
  apply seq_call (ht := rfl); exact when23; exact rfl
  apply seq_newS; exact do_buildSlice rfl rfl rfl rfl rfl rfl rfl; exact rfl
  apply seq_call (ht := rfl); exact lawFirst_c (l := [_, _]) (slAt_map (ext_get_new rfl)) (by simp); exact rfl
  apply seq_plain; exact do_assign rfl; exact rfl
  apply seq_nil
  apply ct_seq
  apply ct_seq
  apply ct_region
  apply seq_plain; exact do_move rfl; exact rfl
  apply seq_plain; exact do_binInt rfl rfl rfl trivial; exact rfl
  apply seq_plain; exact do_move rfl; exact rfl
  have hE1 : firstL [booksE l, whenL (!nameB k) 8] = depE l k := by unfold depE nameE; simp
  simp only [hE1]
  refine seq_any fun L1 => ?_
  refine seq_J [(0, .slice q t.length c), (1, .slice r l.length d), (2, .string k), (6, .bool false), (7, .slice p t.length t.length), (8, .slice u l.length l.length), (9, I (depV l k).1), (10, I (depV l k).2), (11, I (depE l k)), (12, I (depE l k)), (88, .bool false)] (ds := []) (h := ext h (min H.fresh H.fresh) L1) ?_ ?_
  · refine seq_gsplit rfl rfl (fun w => ?_) (fun w => ?_)
    · have w : depE l k ≠ 0 := by simpa using w
      have hv : depV l k = (0, 0) := if_pos w
      have i1 : integerB 0 (depE l k) (depE l k) 0 = true := by unfold integerB; rw [if_pos w]; simp
      rw [hv]
      apply seq_guard (hd := rfl) (hl := rfl); exact do_move rfl; exact rfl
      apply seq_guard (hd := rfl) (hl := rfl); exact do_binInt rfl rfl rfl trivial; exact rfl
      apply seq_guard (hd := rfl) (hl := rfl); exact do_move rfl; exact rfl
      apply seq_guard (hd := rfl) (hl := rfl); exact do_move rfl; exact rfl
      apply seq_guard (hd := rfl) (hl := rfl); exact do_move rfl; exact rfl
      apply seq_guard (hd := rfl) (hl := rfl); exact do_move rfl; exact rfl
      apply seq_gcall (hg := rfl) (hl := rfl) (ht := rfl); exact integer_c; exact rfl
      apply seq_guard (hd := rfl) (hl := rfl); exact do_unOp rfl rfl; exact rfl
      apply seq_guard (hd := rfl) (hl := rfl); exact do_pick_f rfl rfl; exact rfl
      apply seq_plain; exact do_pick_t rfl rfl; exact rfl
      apply seq_nil
      simp only [i1]
      exact jp_of (by repeat (first | exact sub_nil | apply sub_cons rfl))
    · apply seq_passed (hd := rfl) (hl := rfl) (hb := rfl); exact rfl
      apply seq_passed (hd := rfl) (hl := rfl) (hb := rfl); exact rfl
      apply seq_passed (hd := rfl) (hl := rfl) (hb := rfl); exact rfl
      apply seq_passedU (hd := rfl) (hl := rfl); exact rfl
      apply seq_passedU (hd := rfl) (hl := rfl); exact rfl
      apply seq_passedU (hd := rfl) (hl := rfl); exact rfl
      apply seq_passedU (hd := rfl) (hl := rfl); exact rfl
      apply seq_passedU (hd := rfl) (hl := rfl); exact rfl
      apply seq_passed (hd := rfl) (hl := rfl) (hb := rfl); exact rfl
      apply seq_plain; exact do_pick_f rfl rfl; exact rfl
      apply seq_nil
      exact jp_of (by repeat (first | exact sub_nil | apply sub_cons rfl))
  refine ct_cond_f rfl rfl ?_
  apply ct_skip
  apply ct_seq
  apply ct_seq
  apply ct_region
  apply seq_plain; exact do_move rfl; exact rfl
  apply seq_plain; exact do_binInt rfl rfl rfl trivial; exact rfl
  apply seq_nil
  refine ct_JE [(0, .slice q t.length c), (1, .slice r l.length d), (6, .bool false), (7, .slice p t.length t.length), (8, .slice u l.length l.length)] (ds := []) (h := ext h (min H.fresh H.fresh) L1) ?_ ?_
  · refine ct_cond rfl (fun w => ?_) (fun w => ?_)
    · have w : depE l k = 0 := by simpa using w
      have hv : depV l k = rdA l k l.length := (depV_zero w).trans (depA_eq l k)
      have i1 : integerB (rdA l k l.length).2 0 0 (rdA l k l.length).2 = true := by simp [integerB]
      rw [w, hv]
      apply ct_seq
      apply ct_region
      apply seq_plain; exact do_move rfl; exact rfl
      apply seq_plain; exact do_move rfl; exact rfl
      apply seq_call (ht := rfl); exact refDepth_c (s1.ext (ext_Ext hc')) (by omega); exact rfl
      apply seq_plain; exact do_move rfl; exact rfl
      apply seq_plain; exact do_extract rfl rfl; exact rfl
      apply seq_plain; exact do_extract rfl rfl; exact rfl
      apply seq_plain; exact do_assign rfl; exact rfl
      apply seq_plain; exact do_assign rfl; exact rfl
      apply seq_nil
      apply ct_seq
      apply ct_region
      apply seq_plain; exact do_move rfl; exact rfl
      apply seq_plain; exact do_move rfl; exact rfl
      apply seq_plain; exact do_binInt rfl rfl rfl trivial; exact rfl
      apply seq_plain; exact do_move rfl; exact rfl
      simp only [bne_self_eq_false]
      apply seq_guard (hd := rfl) (hl := rfl); exact do_move rfl; exact rfl
      apply seq_guard (hd := rfl) (hl := rfl); exact do_move rfl; exact rfl
      apply seq_guard (hd := rfl) (hl := rfl); exact do_move rfl; exact rfl
      apply seq_gcall (hg := rfl) (hl := rfl) (ht := rfl); exact integer_c; exact rfl
      apply seq_guard (hd := rfl) (hl := rfl); exact do_unOp rfl rfl; exact rfl
      apply seq_plain; exact do_pick_f rfl rfl; exact rfl
      apply seq_nil
      simp only [i1]
      refine ct_cond_f rfl rfl ?_
      apply ct_skip
      exact jp_of (by repeat (first | exact sub_nil | apply sub_cons rfl))
    · apply ct_skip
      exact jp_of (by repeat (first | exact sub_nil | apply sub_cons rfl))
  apply ct_seq
  apply ct_region
  apply seq_plain; exact do_move rfl; exact rfl
  apply seq_plain; exact do_move rfl; exact rfl
  apply seq_call (ht := rfl); exact Overbooked_c (hse.ext (ext_Ext hc')) hlow (by omega) (hre.ext (ext_Ext hc')) hlow2 hq'.ext (by omega); exact rfl
  apply seq_plain; exact do_move rfl; exact rfl
  apply seq_plain; exact do_extract rfl rfl; exact rfl
  apply seq_plain; exact do_extract rfl rfl; exact rfl
  apply seq_plain; exact do_extract rfl rfl; exact rfl
  apply seq_plain; exact do_assign rfl; exact rfl
  apply seq_plain; exact do_assign rfl; exact rfl
  apply seq_plain; exact do_assign rfl; exact rfl
  apply seq_nil
  apply ct_seq
  apply ct_region
  apply seq_plain; exact do_move rfl; exact rfl
  apply seq_plain; exact do_move rfl; exact rfl
  apply seq_call (ht := rfl); exact refCheck_c (s2.ext (ext_Ext hc')) (by omega) (s1.ext (ext_Ext hc')) (by omega); exact rfl
  apply seq_plain; exact do_assign rfl; exact rfl
  apply seq_nil
  apply ct_seq
  apply ct_region
  apply seq_plain; exact do_assign rfl; exact rfl
  apply seq_plain; exact do_assign rfl; exact rfl
  apply seq_nil
  apply ct_seq
  apply ct_seq
  apply ct_region
  apply seq_plain; exact do_move rfl; exact rfl
  apply seq_plain; exact do_binInt rfl rfl rfl trivial; exact rfl
  apply seq_nil
  refine ct_JE [(6, .bool false), (12, I (OvbV t l).2.2), (15, .string (OvbV t l).1), (16, I (OvbV t l).2.1), (17, I (OvbV t l).2.2), (18, .string (OvbV t l).1), (19, I (OvbV t l).2.1)] (ds := []) (h := ext h (min H.fresh H.fresh) L1) ?_ ?_
  · refine ct_cond rfl (fun w => ?_) (fun w => ?_)
    · have w : bothE t l = 0 := by simpa using w
      rw [ovb_ref w]
      apply ct_seq
      apply ct_region
      apply seq_plain; exact do_assign rfl; exact rfl
      apply seq_nil
      apply ct_seq
      apply ct_region
      apply seq_plain; exact do_move rfl; exact rfl
      apply seq_plain; exact do_move rfl; exact rfl
      apply seq_call (ht := rfl); exact refOverbooked_c (s2.ext (ext_Ext hc')) (by omega) (s1.ext (ext_Ext hc')) (by omega); exact rfl
      apply seq_plain; exact do_move rfl; exact rfl
      apply seq_plain; exact do_extract rfl rfl; exact rfl
      apply seq_plain; exact do_extract rfl rfl; exact rfl
      apply seq_plain; exact do_extract rfl rfl; exact rfl
      apply seq_plain; exact do_assign rfl; exact rfl
      apply seq_plain; exact do_assign rfl; exact rfl
      apply seq_plain; exact do_assign rfl; exact rfl
      apply seq_nil
      apply ct_region
      apply seq_plain; exact do_move rfl; exact rfl
      apply seq_plain; exact do_unOp rfl rfl; exact rfl
      apply seq_call (ht := rfl); exact when23; exact rfl
      apply seq_plain; exact do_assign rfl; exact rfl
      apply seq_nil
      exact jp_of (by repeat (first | exact sub_nil | apply sub_cons rfl))
    · have w : bothE t l ≠ 0 := by simpa using w
      rw [ovb_bad w]
      apply ct_skip
      exact jp_of (by repeat (first | exact sub_nil | apply sub_cons rfl))
  have i1 : integerB (OvbV t l).2.1 (OvbV t l).2.2 (OvbV t l).2.2 (OvbV t l).2.1 = true := by
    unfold integerB
    by_cases w : (OvbV t l).2.2 ≠ 0
    · rw [if_pos w, ovb_zero w]; simp
    · rw [if_neg w, Classical.not_not.1 w]; simp
  have b1 : byteL (OvbV t l).1.data.toList (OvbV t l).1.data.toList = true := by rw [bytes_eq]; simp
  apply ct_seq
  apply ct_region
  apply seq_plain; exact do_move rfl; exact rfl
  apply seq_plain; exact do_move rfl; exact rfl
  apply seq_plain; exact do_binStr rfl rfl rfl; exact rfl
  apply seq_plain; exact do_move rfl; exact rfl
  simp only [b1]
  apply seq_guard (hd := rfl) (hl := rfl); exact do_move rfl; exact rfl
  apply seq_guard (hd := rfl) (hl := rfl); exact do_move rfl; exact rfl
  apply seq_guard (hd := rfl) (hl := rfl); exact do_move rfl; exact rfl
  apply seq_guard (hd := rfl) (hl := rfl); exact do_move rfl; exact rfl
  apply seq_gcall (hg := rfl) (hl := rfl) (ht := rfl); exact integer_c; exact rfl
  apply seq_plain; exact do_pick_t rfl rfl; exact rfl
  apply seq_plain; exact do_assign rfl; exact rfl
  apply seq_nil
  apply ct_ret
  simp only [i1]
  exact fin_flatB hc hc' hE rfl rfl ⟨rfl, rfl⟩
end Go.Proofs.YtfegloadbajbhaaGreatDoor
