/- HallEither: the law's own walk. -/
import Derived.Test.YtfegloadbajbhaaGreatDoorEitM
noncomputable section
namespace Go.Proofs.YtfegloadbajbhaaGreatDoor
open Go Go.Den
set_option maxRecDepth 100000
set_option maxHeartbeats 16000000 in
theorem either_w {H : AHeap} {q r : Option Addr} {c d : Nat} {t : List Tb} {l : List Bk} {key : Int} (haw : ∀ h, Ext H h → Ret Tryz.prog 17 [] h (.bool true) h) (hs : SlAt H 2 tb q t) (hlow : LowS q c t.length) (hn : t.length ≤ 1048576) (hr : SlAt H 4 bk r l) (hlow2 : LowS r d l.length) (hq : OldS H r) (hm : l.length ≤ 1048576) :
    Ret Tryz.prog 10 [.slice q t.length c, .slice r l.length d, I key] H (.bool true) H := by
  refine fn_start Tryz.func10 rfl rfl rfl fun hc => ?_
  have c1 := fun L => own_c (c := c) (d := d) (hs.ext (ext_Ext hc (lo := H.fresh) (L := L))) (by omega) (hr.ext (ext_Ext hc (lo := H.fresh) (L := L))) (by omega)
  simp only [lstH_ext, ext_fresh] at c1
  apply ct_seq
  apply ct_region
  apply seq_plain; exact do_assign rfl; exact rfl
  apply seq_nil
  apply ct_seq
  apply ct_region
  apply seq_plain; exact do_move rfl; exact rfl
  apply seq_plain; exact do_move rfl; exact rfl
  apply seq_call (ht := rfl); exact c1 []; exact rfl
  apply seq_plain; exact do_move rfl; exact rfl
  apply seq_plain; exact do_extract rfl rfl; exact rfl
  apply seq_plain; exact do_extract rfl rfl; exact rfl
  apply seq_plain; exact do_assign rfl; exact rfl
  apply seq_plain; exact do_assign rfl; exact rfl
  apply seq_nil
  apply ct_seq
  apply ct_seq
  apply ct_region
  obtain ⟨p, hp⟩ : ∃ p, p = lstP (nb H ([] : List (Option ABlk)).length) t := ⟨_, rfl⟩
  obtain ⟨u, hu⟩ : ∃ u, u = lstP (nb H (([] : List (Option ABlk)) ++ lstL 2 tb t).length) l := ⟨_, rfl⟩
  have s1 : SlAt (ext H H.fresh ([] ++ lstL 2 tb t ++ lstL 4 bk l)) 4 bk u l := by rw [hu]; exact lst_slAt bk_len
  have s2 : SlAt (ext H H.fresh ([] ++ lstL 2 tb t ++ lstL 4 bk l)) 2 tb p t := by
    have := lst_slAt (H := H) (lo := H.fresh) (L := []) (m := 2) (f := tb) (l := t) tb_len
    rw [hp]
    exact this.ext (ext_more hc)
  refine seqL_to (l' := [(0, .slice q t.length c), (1, .slice r l.length d), (2, I key), (6, .bool false), (7, .slice p t.length t.length), (8, .slice u l.length l.length)]) (by rw [hp, hu]; repeat (first | exact sub_nil | apply sub_cons rfl)) ext_base (by simp) ?_
  obtain ⟨h, hh⟩ : ∃ h, h = ext H H.fresh ([] ++ lstL 2 tb t ++ lstL 4 bk l) := ⟨_, rfl⟩
  have hc' : Closed h := by rw [hh]; exact ext_closed hc
  have hE : Ext H h := by rw [hh]; exact ext_Ext hc
  have hq' : OldS h r := by rw [hh]; exact hq.ext
  rw [← hh] at s1 s2 ⊢
  clear hh hp hu c1
  have aw := fun lo L => haw _ (hE.trans (ext_Ext (lo := lo) (L := L) hc'))
  have sh := fun lo L => short_c (d := l.length) (c := t.length) (e := 0) (s2.ext (ext_Ext (lo := lo) (L := L) hc')) (by omega) (s1.ext (ext_Ext (lo := lo) (L := L) hc')) (by omega) (SlAt.nil (p := none)) (by simp)
  obtain ⟨T, hT⟩ : ∃ T, T = ((((decide ((t.length : Int) > 6) || decide ((l.length : Int) > 10)) || !shortH t l []) || (bothE t l != 0)) || (drwE key l.length != 0)) := ⟨_, rfl⟩
  apply seq_call (ht := rfl); exact aw _ _; exact rfl
  apply seq_plain; exact do_unOp rfl rfl; exact rfl
  apply seq_plain; exact do_move rfl; exact rfl
  apply seq_guard (hd := rfl) (hl := rfl); exact do_move rfl; exact rfl
  apply seq_guard (hd := rfl) (hl := rfl); exact do_lenS rfl rfl rfl; exact rfl
  apply seq_guard (hd := rfl) (hl := rfl); exact do_binInt rfl rfl rfl trivial; exact rfl
  apply seq_plain; exact do_pick_f rfl rfl; exact rfl
  apply seq_plain; exact do_move rfl; exact rfl
  refine seq_J [(0, .slice q t.length c), (1, .slice r l.length d), (2, I key), (69, .bool T)] (ds := []) (h := ext h (min H.fresh H.fresh) []) ?_ ?_
  · refine seq_gsplit rfl rfl (fun u1 => ?_) (fun u1 => ?_)
    · have u1 : decide ((t.length : Int) > 6) = true := u1
      have e : T = true := by rw [hT, u1]; rfl
      rw [e]
      apply seq_passed (hd := rfl) (hl := rfl) (hb := rfl); exact rfl
      apply seq_passed (hd := rfl) (hl := rfl) (hb := rfl); exact rfl
      apply seq_passed (hd := rfl) (hl := rfl) (hb := rfl); exact rfl
      apply seq_plain; exact do_pick_t rfl rfl; exact rfl
      apply seq_plain; exact do_move rfl; exact rfl
      apply seq_passed (hd := rfl) (hl := rfl) (hb := rfl); exact rfl
      apply seq_passed (hd := rfl) (hl := rfl) (hb := rfl); exact rfl
      apply seq_passed (hd := rfl) (hl := rfl) (hb := rfl); exact rfl
      apply seq_passed (hd := rfl) (hl := rfl) (hb := rfl); exact rfl
      apply seq_plain; exact do_pick_t rfl rfl; exact rfl
      apply seq_plain; exact do_move rfl; exact rfl
      apply seq_passed (hd := rfl) (hl := rfl) (hb := rfl); exact rfl
      apply seq_passed (hd := rfl) (hl := rfl) (hb := rfl); exact rfl
      apply seq_passed (hd := rfl) (hl := rfl) (hb := rfl); exact rfl
      apply seq_passed (hd := rfl) (hl := rfl) (hb := rfl); exact rfl
      apply seq_plain; exact do_pick_t rfl rfl; exact rfl
      apply seq_plain; exact do_move rfl; exact rfl
      apply seq_passed (hd := rfl) (hl := rfl) (hb := rfl); exact rfl
      apply seq_passed (hd := rfl) (hl := rfl) (hb := rfl); exact rfl
      apply seq_passed (hd := rfl) (hl := rfl) (hb := rfl); exact rfl
      apply seq_passed (hd := rfl) (hl := rfl) (hb := rfl); exact rfl
      apply seq_passed (hd := rfl) (hl := rfl) (hb := rfl); exact rfl
      apply seq_plain; exact do_pick_t rfl rfl; exact rfl
      apply seq_nil
      exact jp_of (by repeat (first | exact sub_nil | apply sub_cons rfl))
    have u1 : decide ((t.length : Int) > 6) = false := u1
    apply seq_guard (hd := rfl) (hl := rfl); exact do_move rfl; exact rfl
    apply seq_guard (hd := rfl) (hl := rfl); exact do_lenS rfl rfl rfl; exact rfl
    apply seq_guard (hd := rfl) (hl := rfl); exact do_binInt rfl rfl rfl trivial; exact rfl
    apply seq_plain; exact do_pick_f rfl rfl; exact rfl
    apply seq_plain; exact do_move rfl; exact rfl
    refine seq_gsplit rfl rfl (fun u2 => ?_) (fun u2 => ?_)
    · have u2 : decide ((l.length : Int) > 10) = true := u2
      have e : T = true := by rw [hT, u1, u2]; rfl
      rw [e]
      apply seq_passed (hd := rfl) (hl := rfl) (hb := rfl); exact rfl
      apply seq_passed (hd := rfl) (hl := rfl) (hb := rfl); exact rfl
      apply seq_passed (hd := rfl) (hl := rfl) (hb := rfl); exact rfl
      apply seq_passed (hd := rfl) (hl := rfl) (hb := rfl); exact rfl
      apply seq_plain; exact do_pick_t rfl rfl; exact rfl
      apply seq_plain; exact do_move rfl; exact rfl
      apply seq_passed (hd := rfl) (hl := rfl) (hb := rfl); exact rfl
      apply seq_passed (hd := rfl) (hl := rfl) (hb := rfl); exact rfl
      apply seq_passed (hd := rfl) (hl := rfl) (hb := rfl); exact rfl
      apply seq_passed (hd := rfl) (hl := rfl) (hb := rfl); exact rfl
      apply seq_plain; exact do_pick_t rfl rfl; exact rfl
      apply seq_plain; exact do_move rfl; exact rfl
      apply seq_passed (hd := rfl) (hl := rfl) (hb := rfl); exact rfl
      apply seq_passed (hd := rfl) (hl := rfl) (hb := rfl); exact rfl
      apply seq_passed (hd := rfl) (hl := rfl) (hb := rfl); exact rfl
      apply seq_passed (hd := rfl) (hl := rfl) (hb := rfl); exact rfl
      apply seq_passed (hd := rfl) (hl := rfl) (hb := rfl); exact rfl
      apply seq_plain; exact do_pick_t rfl rfl; exact rfl
      apply seq_nil
      exact jp_of (by repeat (first | exact sub_nil | apply sub_cons rfl))
    have u2 : decide ((l.length : Int) > 10) = false := u2
    apply seq_guard (hd := rfl) (hl := rfl); exact do_move rfl; exact rfl
    apply seq_guard (hd := rfl) (hl := rfl); exact do_move rfl; exact rfl
    apply seq_gcall (hg := rfl) (hl := rfl) (ht := rfl); exact sh _ _; exact rfl
    apply seq_guard (hd := rfl) (hl := rfl); exact do_unOp rfl rfl; exact rfl
    apply seq_plain; exact do_pick_f rfl rfl; exact rfl
    apply seq_plain; exact do_move rfl; exact rfl
    refine seq_gsplit rfl rfl (fun u3 => ?_) (fun u3 => ?_)
    · have u3 : (!shortH t l []) = true := u3
      have e : T = true := by rw [hT, u1, u2, u3]; rfl
      rw [e]
      apply seq_passed (hd := rfl) (hl := rfl) (hb := rfl); exact rfl
      apply seq_passed (hd := rfl) (hl := rfl) (hb := rfl); exact rfl
      apply seq_passed (hd := rfl) (hl := rfl) (hb := rfl); exact rfl
      apply seq_passed (hd := rfl) (hl := rfl) (hb := rfl); exact rfl
      apply seq_plain; exact do_pick_t rfl rfl; exact rfl
      apply seq_plain; exact do_move rfl; exact rfl
      apply seq_passed (hd := rfl) (hl := rfl) (hb := rfl); exact rfl
      apply seq_passed (hd := rfl) (hl := rfl) (hb := rfl); exact rfl
      apply seq_passed (hd := rfl) (hl := rfl) (hb := rfl); exact rfl
      apply seq_passed (hd := rfl) (hl := rfl) (hb := rfl); exact rfl
      apply seq_passed (hd := rfl) (hl := rfl) (hb := rfl); exact rfl
      apply seq_plain; exact do_pick_t rfl rfl; exact rfl
      apply seq_nil
      exact jp_of (by repeat (first | exact sub_nil | apply sub_cons rfl))
    have u3 : (!shortH t l []) = false := u3
    apply seq_guard (hd := rfl) (hl := rfl); exact do_move rfl; exact rfl
    apply seq_guard (hd := rfl) (hl := rfl); exact do_move rfl; exact rfl
    apply seq_gcall (hg := rfl) (hl := rfl) (ht := rfl); exact refCheck_c (s2.ext (ext_Ext hc')) (by omega) (s1.ext (ext_Ext hc')) (by omega); exact rfl
    apply seq_guard (hd := rfl) (hl := rfl); exact do_binInt rfl rfl rfl trivial; exact rfl
    apply seq_plain; exact do_pick_f rfl rfl; exact rfl
    apply seq_plain; exact do_move rfl; exact rfl
    refine seq_gsplit rfl rfl (fun u4 => ?_) (fun u4 => ?_)
    · have u4 : (bothE t l != 0) = true := u4
      have e : T = true := by rw [hT, u1, u2, u3, u4]; rfl
      rw [e]
      apply seq_passed (hd := rfl) (hl := rfl) (hb := rfl); exact rfl
      apply seq_passed (hd := rfl) (hl := rfl) (hb := rfl); exact rfl
      apply seq_passed (hd := rfl) (hl := rfl) (hb := rfl); exact rfl
      apply seq_passed (hd := rfl) (hl := rfl) (hb := rfl); exact rfl
      apply seq_passed (hd := rfl) (hl := rfl) (hb := rfl); exact rfl
      apply seq_plain; exact do_pick_t rfl rfl; exact rfl
      apply seq_nil
      exact jp_of (by repeat (first | exact sub_nil | apply sub_cons rfl))
    have u4 : (bothE t l != 0) = false := u4
    have e : T = (drwE key l.length != 0) := by rw [hT, u1, u2, u3, u4]; rfl
    rw [e]
    apply seq_guard (hd := rfl) (hl := rfl); exact do_move rfl; exact rfl
    apply seq_guard (hd := rfl) (hl := rfl); exact do_move rfl; exact rfl
    apply seq_guard (hd := rfl) (hl := rfl); exact do_lenS rfl rfl rfl; exact rfl
    apply seq_gcall (hg := rfl) (hl := rfl) (ht := rfl); exact checkDraw_c; exact rfl
    apply seq_guard (hd := rfl) (hl := rfl); exact do_binInt rfl rfl rfl trivial; exact rfl
    apply seq_plain; exact do_pick_f rfl rfl; exact rfl
    apply seq_nil
    exact jp_of (by repeat (first | exact sub_nil | apply sub_cons rfl))
  refine ct_cond rfl (fun u0 => ?_) (fun u0 => ?_)
  · apply ct_seq
    apply ct_region
    apply seq_call (ht := rfl); exact aw _ _; exact rfl
    apply seq_plain; exact do_assign rfl; exact rfl
    apply seq_nil
    apply ct_ret
    exact fin_flatB hc hc' hE rfl rfl ⟨rfl, rfl⟩
  have hin : EitIn t l key := by
    have u0 : T = false := u0
    rw [u0] at hT
    have := hT.symm
    simp only [Bool.or_eq_false_iff, decide_eq_false_iff_not, bne_eq_false_iff_eq, Bool.not_eq_false'] at this
    obtain ⟨⟨⟨⟨a1, a2⟩, _⟩, a4⟩, a5⟩ := this
    exact ⟨by omega, by omega, a4, a5⟩
  clear hT u0 sh aw s1 s2
  have m1 := hin.tl
  have m2 := hin.ll
  have hb := hin.both
  obtain ⟨k1, k2⟩ := drw_ok hin.drw
  obtain ⟨kn, rfl⟩ : ∃ kn : Nat, key = kn := ⟨key.toNat, by omega⟩
  clear hin
  have hse := hs.ext hE
  have hre := hr.ext hE
  obtain ⟨X1, pa, na, ev1, eh1, ok1, bad1⟩ := asg_state (h := h) (lo := min H.fresh H.fresh) (L := []) t l
  have ca := Assign_c (c := c) (d := d) (hse.ext (ext_Ext hc' (lo := min H.fresh H.fresh) (L := []))) hlow (by omega) (hre.ext (ext_Ext hc')) hlow2 hq'.ext (by omega)
  rw [ev1, eh1] at ca
  obtain ⟨X, hX⟩ : ∃ X, X = asgX t l := ⟨_, rfl⟩
  rw [← hX] at ca ok1 bad1
  apply ct_skip
  apply ct_seq
  apply ct_region
  apply seq_plain; exact do_move rfl; exact rfl
  apply seq_plain; exact do_move rfl; exact rfl
  apply seq_call (ht := rfl); exact ca; exact rfl
  refine seqL_to (l' := [(0, .slice q t.length c), (1, .slice r l.length d), (2, I kn), (74, .tuple ⟨[.slice pa na na, I X]⟩)]) (by repeat (first | exact sub_nil | apply sub_cons rfl)) ext_base (by simp) ?_
  obtain ⟨h2, hh2⟩ : ∃ h2, h2 = ext h (min H.fresh H.fresh) ([] ++ X1) := ⟨_, rfl⟩
  have hq' : OldS h2 r := by rw [hh2]; exact hq'.ext
  have hse : SlAt h2 2 tb q t := by rw [hh2]; exact hse.ext (ext_Ext hc')
  have hre : SlAt h2 4 bk r l := by rw [hh2]; exact hre.ext (ext_Ext hc')
  have hE : Ext H h2 := by rw [hh2]; exact hE.trans (ext_Ext hc')
  have hc' : Closed h2 := by rw [hh2]; exact ext_closed hc'
  rw [← hh2] at ok1 ⊢
  refine seq_anyLo fun lo => ?_
  clear hh2 ca ev1 eh1
  apply seq_plain; exact do_move rfl; exact rfl
  apply seq_plain; exact do_extract rfl rfl; exact rfl
  apply seq_plain; exact do_extract rfl rfl; exact rfl
  apply seq_plain; exact do_assign rfl; exact rfl
  apply seq_plain; exact do_assign rfl; exact rfl
  apply seq_nil
  apply ct_seq
  apply ct_region
  apply seq_plain; exact do_move rfl; exact rfl
  apply seq_plain; exact do_move rfl; exact rfl
  apply seq_call (ht := rfl); exact Overbooked_c (hse.ext (ext_Ext hc')) hlow (by omega) (hre.ext (ext_Ext hc')) hlow2 hq'.ext (by omega); exact rfl
  apply seq_plain; exact do_move rfl; exact rfl
  apply seq_plain; exact do_extract rfl rfl; exact rfl
  apply seq_plain; exact do_extract rfl rfl; exact rfl
  apply seq_plain; exact do_extract rfl rfl; exact rfl
  apply seq_plain; exact do_assign rfl; exact rfl
  apply seq_plain; exact do_assign rfl; exact rfl
  apply seq_plain; exact do_assign rfl; exact rfl
  apply seq_nil
  apply ct_seq
  apply ct_region
  apply seq_plain; exact do_assign rfl; exact rfl
  apply seq_nil
  apply ct_seq
  apply ct_seq
  apply ct_region
  apply seq_plain; exact do_move rfl; exact rfl
  apply seq_plain; exact do_move rfl; exact rfl
  apply seq_plain; exact do_lenS rfl rfl rfl; exact rfl
  obtain ⟨O, hO⟩ : ∃ O, O = OvbV t l := ⟨_, rfl⟩
  rw [← hO]
  obtain ⟨D, hD⟩ : ∃ D, D = drawL kn l.length := ⟨_, rfl⟩
  have cd := Draw_c (H := ext h2 lo []) (key := kn) (n := l.length) (by omega) (by omega)
  simp only [lstH_ext, ext_fresh] at cd
  rw [← hD] at cd
  apply seq_call (ht := rfl); exact cd; exact rfl
  obtain ⟨w, hw⟩ : ∃ w, w = lstP (nb h2 ([] : List (Option ABlk)).length) D := ⟨_, rfl⟩
  have s3 : SlAt (ext h2 lo ([] ++ lstL 1 i1 D)) 1 i1 w D := by rw [hw]; exact lst_slAt (fun _ => rfl)
  refine seqL_to (l' := [(0, .slice q t.length c), (1, .slice r l.length d), (9, .slice pa na na), (10, I X), (11, .string O.1), (12, I O.2.1), (13, I O.2.2), (14, .slice none 0 0), (87, .slice w D.length D.length)]) (by rw [hw]; repeat (first | exact sub_nil | apply sub_cons rfl)) ext_base (by simp) ?_
  obtain ⟨h3, hh3⟩ : ∃ h3, h3 = ext h2 lo ([] ++ lstL 1 i1 D) := ⟨_, rfl⟩
  have hq' : OldS h3 r := by rw [hh3]; exact hq'.ext
  have hse : SlAt h3 2 tb q t := by rw [hh3]; exact hse.ext (ext_Ext hc')
  have hre : SlAt h3 4 bk r l := by rw [hh3]; exact hre.ext (ext_Ext hc')
  have hE : Ext H h3 := by rw [hh3]; exact hE.trans (ext_Ext hc')
  have ok1 : X = 0 → na = l.length ∧ SlAt h3 1 i1 pa (asgV t l) := fun e => ⟨(ok1 e).1, by rw [hh3]; exact (ok1 e).2.ext (ext_Ext hc')⟩
  have hc' : Closed h3 := by rw [hh3]; exact ext_closed hc'
  rw [← hh3] at s3 ⊢
  refine seq_anyLo fun lo => ?_
  clear hh3 cd hw
  have hDl : D.length = l.length := by rw [hD]; exact draw_len
  have hDt : ∀ j (h : j < D.length), 0 ≤ D[j] ∧ D[j] < l.length := by rw [hD]; exact fun j h => draw_lt h
  have hpm : (turnL l D).Perm l := by rw [hD]; exact turn_perm
  clear hD
  apply seq_plain; exact do_lenS rfl rfl rfl; exact rfl
  apply seq_plain; exact do_move rfl; exact rfl
  apply seq_nil
  apply ct_block
  apply ct_loop
  refine lt_meas (α := Nat × Value × Nat × List (Option ABlk)) (fun a => [(0, .slice q t.length c), (1, .slice r l.length d), (9, .slice pa na na), (10, I X), (11, .string O.1), (12, I O.2.1), (13, I O.2.2), (14, a.2.1), (87, .slice w D.length D.length), (88, I D.length), (89, I a.1)]) (fun a => ext h3 lo a.2.2.2) (fun a => a.1 ≤ D.length ∧ LstI h3 a.2.2.2 4 bk a.2.2.1 a.2.1 (turnL l (D.take a.1))) (fun a => D.length - a.1) (fun a ha ih => ?_) (0, .slice none 0 0, 0, []) ⟨Nat.zero_le _, .nil⟩ (by repeat (first | exact sub_nil | apply sub_cons rfl)) (.refl _)
  obtain ⟨j, v, K, L⟩ := a
  obtain ⟨hj, hv⟩ := ha
  simp only at hj hv ih ⊢
  have ih' := fun j' v' K' L' a1 a2 a3 => ih (j', v', K', L') a1 ⟨a2, a3⟩
  simp only at ih'
  clear ih
  have htle := turn_le (l := l) (D := D.take j)
  rw [List.length_take] at htle
  apply ct_seq
  apply ct_region
  apply seq_plain; exact do_binInt rfl rfl rfl trivial; exact rfl
  apply seq_nil
  apply ct_seq
  refine ct_cond rfl (fun h1 => ?_) (fun h1 => ?_)
  · have h1 : j < D.length := by
      have h1 : decide ((j : Int) < (D.length : Int)) = true := h1
      simp only [decide_eq_true_eq] at h1; omega
    have hDj := hDt j h1
    obtain ⟨b3, o3, cs3, z3, st3, ro3, rfl, hg3, hw3⟩ := s3.out (by intro e; rw [e] at h1; simp at h1)
    obtain ⟨b2, o2, cs2, z2, st2, ro2, rfl, hg2, hw2⟩ := hre.out (by intro e; rw [e] at hDj; simp at hDj; omega)
    have htn := turnL_snoc (l := l) h1 (by omega)
    apply ct_skip
    apply ct_seq
    apply ct_block
    apply ct_seq
    apply ct_region
    apply seq_plain; exact do_indexAddrS rfl rfl rfl (by exact idx_nat (by omega)); exact rfl
    apply seq_plain; exact do_load rfl (by exact ext_get_old (by assumption) (by assumption)) rfl (by exact pt_sl0 (by assumption) (by omega)); exact rfl
    apply seq_plain; exact do_assign rfl; exact rfl
    apply seq_nil
    apply ct_region
    apply seq_plain; exact do_move rfl; exact rfl
    apply seq_plain; exact do_move rfl; exact rfl
    apply seq_plain; exact do_move rfl; exact rfl
    apply seq_plain; exact do_indexAddrS rfl rfl rfl (by exact idx_int (by omega)); exact rfl
    apply seq_plain; exact do_load rfl (by exact ext_get_old (by assumption) (by assumption)) rfl (by exact pt_sl (by assumption) (by omega)); exact rfl
    apply seq_newS; exact do_buildSlice rfl rfl rfl rfl rfl rfl rfl; exact rfl
    refine seq_growI (xs := [l[D[j].toNat]]) hc' (hv.keeps (.app _)) (fun _ => rfl) (fun _ => rfl) rfl rfl rfl rfl rfl rfl (ext_get_new List.getElem?_concat_length) rfl (by simp) ?_ (Nat.ne_of_beq_eq_false rfl) (Nat.ne_of_beq_eq_false rfl) rfl (fun v' L3 hv' hst3 hlen3 => ?_)
    · exact Nat.le_trans (Nat.mul_le_mul_right _ (by simp only [List.length_cons, List.length_nil]; omega : _ ≤ 3000000000)) (Nat.le_of_ble_eq_true rfl)
    rw [← htn] at hv'
    apply seq_plain; exact do_assign rfl; exact rfl
    apply seq_nil
    apply ct_region
    apply seq_plain; exact do_succ rfl (by omega); exact rfl
    apply seq_plain; exact do_move rfl; exact rfl
    apply seq_nil
    exact lt_to (by repeat (first | exact sub_nil | apply sub_cons rfl)) (.refl _) (ih' (j + 1) v' _ L3 (by omega) (by omega) hv')
  have h1 : j = D.length := by
    have h1 : decide ((j : Int) < (D.length : Int)) = false := h1
    simp only [decide_eq_false_iff_not] at h1; omega
  subst h1
  rw [List.take_length] at hv
  clear ih' hj htle hDt s3
  obtain ⟨tl, htl⟩ : ∃ tl, tl = turnL l D := ⟨_, rfl⟩
  rw [← htl] at hv hpm
  clear htl
  have htn : tl.length = l.length := hpm.length_eq
  obtain ⟨p2, rfl, s4, low4, old4⟩ := LstI.low (lo := lo) hv bk_len
  obtain ⟨X2, pb, n2, ev2, eh2, ok2, bad2⟩ := asg_state (h := h3) (lo := lo) (L := L) t tl
  have cb := Assign_c (c := c) (d := tl.length) (hse.ext (ext_Ext hc' (lo := lo) (L := L))) hlow (by omega) s4 low4 old4 (by omega)
  have hX2 : asgX t tl = X := by rw [hX]; exact asgX_perm hb hpm
  rw [ev2, eh2, hX2] at cb
  rw [hX2] at ok2 bad2
  have hnn : na = n2 := by
    by_cases e : X = 0
    · rw [(ok1 e).1, (ok2 e).1, htn]
    · rw [bad1 e, bad2 e]
  have hXe : ((X == 0) == (O.2.2 == 0)) = false := by
    by_cases e : X = 0
    · rw [e, hO, (eit_good hb (hX ▸ e)).1]; rfl
    · rw [beq_eq_false_iff_ne.2 e, hO, (eit_bad hb (hX ▸ e)).2.1]; rfl
  clear ev2 eh2 ok2 bad2 hX2 bad1 hv s4 low4 old4
  apply ct_exit
  apply exit_eq; exact rfl
  apply ct_seq
  apply ct_region
  apply seq_plain; exact do_move rfl; exact rfl
  apply seq_plain; exact do_move rfl; exact rfl
  apply seq_call (ht := rfl); exact cb; exact rfl
  obtain ⟨M, hM⟩ : ∃ M, M = L ++ X2 := ⟨_, rfl⟩
  rw [← hM]
  clear hM cb hpm
  apply seq_plain; exact do_move rfl; exact rfl
  apply seq_plain; exact do_extract rfl rfl; exact rfl
  apply seq_plain; exact do_extract rfl rfl; exact rfl
  apply seq_plain; exact do_assign rfl; exact rfl
  apply seq_plain; exact do_assign rfl; exact rfl
  apply seq_nil
  apply ct_seq
  apply ct_seq
  apply ct_region
  apply seq_plain; exact do_move rfl; exact rfl
  apply seq_plain; exact do_move rfl; exact rfl
  apply seq_plain; exact do_binInt rfl rfl rfl trivial; exact rfl
  apply seq_plain; exact do_move rfl; exact rfl
  simp only [bne_self_eq_false]
  apply seq_guard (hd := rfl) (hl := rfl); exact do_move rfl; exact rfl
  apply seq_guard (hd := rfl) (hl := rfl); exact do_binInt rfl rfl rfl trivial; exact rfl
  apply seq_guard (hd := rfl) (hl := rfl); exact do_move rfl; exact rfl
  apply seq_guard (hd := rfl) (hl := rfl); exact do_binInt rfl rfl rfl trivial; exact rfl
  apply seq_guard (hd := rfl) (hl := rfl); exact do_eql rfl rfl trivial rfl; exact rfl
  rw [hXe]
  apply seq_plain; exact do_pick_f rfl rfl; exact rfl
  apply seq_plain; exact do_move rfl; exact rfl
  apply seq_guard (hd := rfl) (hl := rfl); exact do_move rfl; exact rfl
  apply seq_guard (hd := rfl) (hl := rfl); exact do_lenS rfl rfl rfl; exact rfl
  apply seq_guard (hd := rfl) (hl := rfl); exact do_move rfl; exact rfl
  apply seq_guard (hd := rfl) (hl := rfl); exact do_lenS rfl rfl rfl; exact rfl
  apply seq_guard (hd := rfl) (hl := rfl); exact do_binInt rfl rfl rfl trivial; exact rfl
  apply seq_plain; exact do_pick_f rfl rfl; exact rfl
  apply seq_nil
  rw [hnn]
  simp only [bne_self_eq_false]
  skip
  refine ct_cond_f rfl rfl ?_
  apply ct_skip
  apply ct_seq
  apply ct_seq
  apply ct_region
  apply seq_plain; exact do_move rfl; exact rfl
  apply seq_plain; exact do_binInt rfl rfl rfl trivial; exact rfl
  apply seq_nil
  refine ct_cond rfl (fun v0 => ?_) (fun v0 => ?_)
  · have v0 : X ≠ 0 := by simpa using v0
    obtain ⟨x1, x2, x3, x4⟩ := eit_bad hb (hX ▸ v0)
    rw [← hX] at x1
    rw [← hO] at x2 x3 x4
    clear hXe hnn ok1
    apply ct_seq
    apply ct_region
    apply seq_plain; exact do_assign rfl; exact rfl
    apply seq_plain; exact do_assign rfl; exact rfl
    apply seq_nil
    apply ct_seq
    apply ct_seq
    apply ct_region
    apply seq_plain; exact do_move rfl; exact rfl
    apply seq_plain; exact do_lenS rfl rfl rfl; exact rfl
    apply seq_plain; exact do_move rfl; exact rfl
    apply seq_nil
    apply ct_block
    apply ct_loop
    refine lt_meas (α := Nat × List (Option ABlk)) (fun a => [(0, .slice q t.length c), (10, I X), (11, .string O.1), (12, I O.2.1), (13, I O.2.2), (19, I (cntD (l.take a.1) O.1 O.2.1)), (20, I 0), (126, .slice r l.length d), (127, I l.length), (128, I a.1)]) (fun a => ext h3 lo a.2) (fun a => a.1 ≤ l.length) (fun a => l.length - a.1) (fun a ha ih => ?_) (0, M) (Nat.zero_le _) (by repeat (first | exact sub_nil | apply sub_cons rfl)) (.refl _)
    obtain ⟨j, L⟩ := a
    simp only at ha ih ⊢
    have ih' := fun j' L' a1 a2 => ih (j', L') a1 a2
    simp only at ih'
    clear ih
    apply ct_seq
    apply ct_region
    apply seq_plain; exact do_binInt rfl rfl rfl trivial; exact rfl
    apply seq_nil
    apply ct_seq
    refine ct_cond rfl (fun h1 => ?_) (fun h1 => ?_)
    · simp only [decide_eq_true_eq, Int.ofNat_lt] at h1
      obtain ⟨b2, o2, cs2, z2, st2, ro2, rfl, hg2, hw2⟩ := hre.out (by intro e; rw [e] at h1; simp at h1)
      have se := cntD_snoc (k := O.1) (q := O.2.1) h1
      have sl := cntD_take (l := l) (k := O.1) (q := O.2.1) (i := j)
      obtain ⟨Z, hZ⟩ : ∃ Z, Z = isAt O.1 O.2.1 l[j] := ⟨_, rfl⟩
      rw [← hZ] at se
      apply ct_skip
      apply ct_seq
      apply ct_block
      apply ct_seq
      apply ct_region
      apply seq_plain; exact do_indexAddrS rfl rfl rfl (by exact idx_nat (by omega)); exact rfl
      apply seq_plain; exact do_load rfl (by exact ext_get_old (by assumption) (by assumption)) rfl (by exact pt_sl (by assumption) (by omega)); exact rfl
      apply seq_newP; exact do_alloc rfl rfl; exact rfl
      apply seq_putC (hc := by assumption); rotate_left; exact do_store rfl rfl (by exact ext_get_new List.getElem?_concat_length) rfl rfl (nb_own _); rotate_left; exact (by simp)
      apply ct_seq
      apply ct_region
      apply seq_plain; exact do_fieldAddr rfl rfl; exact rfl
      apply seq_plain; exact do_load rfl (by exact ext_get_new getSetLast) rfl (by exact rfl); exact rfl
      apply seq_plain; exact do_move rfl; exact rfl
      apply seq_plain; exact do_binStr rfl rfl rfl; exact rfl
      apply seq_plain; exact do_move rfl; exact rfl
      rw [set_mid rfl]
      refine seq_J [(0, .slice q t.length c), (10, I X), (11, .string O.1), (12, I O.2.1), (13, I O.2.2), (19, I (cntD (l.take j) O.1 O.2.1)), (20, I 0), (126, .slice (some ⟨b2, o2, none⟩) l.length d), (127, I l.length), (128, I j), (147, .bool Z)] (ds := []) (h := ext h3 lo (L ++ [some (.cells (bk l[j]) 0 false false)])) ?_ ?_
      · refine seq_gsplit rfl rfl (fun w1 => ?_) (fun w1 => ?_)
        · have w1 : byteL l[j].kind.data.toList O.1.data.toList = true := w1
          rw [bytes_eq] at w1
          apply seq_guard (hd := rfl) (hl := rfl); exact do_fieldAddr rfl rfl; exact rfl
          apply seq_guard (hd := rfl) (hl := rfl); exact do_load rfl (by exact ext_get_new List.getElem?_concat_length) rfl (by exact rfl); exact rfl
          apply seq_guard (hd := rfl) (hl := rfl); exact do_move rfl; exact rfl
          apply seq_guard (hd := rfl) (hl := rfl); exact do_binInt rfl rfl rfl trivial; exact rfl
          apply seq_plain; exact do_pick_t rfl rfl; exact rfl
          apply seq_plain; exact do_move rfl; exact rfl
          refine seq_gsplit rfl rfl (fun w2 => ?_) (fun w2 => ?_)
          · have w2 : decide (l[j].frm ≤ O.2.1) = true := w2
            have e : Z = decide (O.2.1 < l[j].to) := by rw [hZ]; unfold isAt; rw [w1, w2]; rfl
            rw [e]
            apply seq_guard (hd := rfl) (hl := rfl); exact do_move rfl; exact rfl
            apply seq_guard (hd := rfl) (hl := rfl); exact do_fieldAddr rfl rfl; exact rfl
            apply seq_guard (hd := rfl) (hl := rfl); exact do_load rfl (by exact ext_get_new List.getElem?_concat_length) rfl (by exact rfl); exact rfl
            apply seq_guard (hd := rfl) (hl := rfl); exact do_binInt rfl rfl rfl trivial; exact rfl
            apply seq_plain; exact do_pick_t rfl rfl; exact rfl
            apply seq_nil
            exact jp_of (by repeat (first | exact sub_nil | apply sub_cons rfl))
          · have w2 : decide (l[j].frm ≤ O.2.1) = false := w2
            have e : Z = false := by rw [hZ]; unfold isAt; rw [w1, w2]; rfl
            rw [e]
            apply seq_passed (hd := rfl) (hl := rfl) (hb := rfl); exact rfl
            apply seq_passed (hd := rfl) (hl := rfl) (hb := rfl); exact rfl
            apply seq_passed (hd := rfl) (hl := rfl) (hb := rfl); exact rfl
            apply seq_passed (hd := rfl) (hl := rfl) (hb := rfl); exact rfl
            apply seq_plain; exact do_pick_f rfl rfl; exact rfl
            apply seq_nil
            exact jp_of (by repeat (first | exact sub_nil | apply sub_cons rfl))
        · have w1 : byteL l[j].kind.data.toList O.1.data.toList = false := w1
          rw [bytes_eq] at w1
          have e : Z = false := by rw [hZ]; unfold isAt; rw [w1]; rfl
          rw [e]
          apply seq_passed (hd := rfl) (hl := rfl) (hb := rfl); exact rfl
          apply seq_passed (hd := rfl) (hl := rfl) (hb := rfl); exact rfl
          apply seq_passed (hd := rfl) (hl := rfl) (hb := rfl); exact rfl
          apply seq_passed (hd := rfl) (hl := rfl) (hb := rfl); exact rfl
          apply seq_plain; exact do_pick_f rfl rfl; exact rfl
          apply seq_plain; exact do_move rfl; exact rfl
          apply seq_passed (hd := rfl) (hl := rfl) (hb := rfl); exact rfl
          apply seq_passed (hd := rfl) (hl := rfl) (hb := rfl); exact rfl
          apply seq_passed (hd := rfl) (hl := rfl) (hb := rfl); exact rfl
          apply seq_passed (hd := rfl) (hl := rfl) (hb := rfl); exact rfl
          apply seq_plain; exact do_pick_f rfl rfl; exact rfl
          apply seq_nil
          exact jp_of (by repeat (first | exact sub_nil | apply sub_cons rfl))
      refine ct_JE [(0, .slice q t.length c), (10, I X), (11, .string O.1), (12, I O.2.1), (13, I O.2.2), (19, I (cntD (l.take (j + 1)) O.1 O.2.1)), (20, I 0), (126, .slice (some ⟨b2, o2, none⟩) l.length d), (127, I l.length), (128, I j)] (ds := []) (h := ext h3 lo (L ++ [some (.cells (bk l[j]) 0 false false)])) ?_ ?_
      · rw [se]
        refine ct_cond rfl (fun w1 => ?_) (fun w1 => ?_)
        · have w1 : Z = true := w1
          rw [if_pos w1]
          apply ct_region
          apply seq_plain; exact do_move rfl; exact rfl
          apply seq_plain; exact do_succ rfl (by omega); exact rfl
          apply seq_plain; exact do_assign rfl; exact rfl
          apply seq_nil
          exact jp_of (by repeat (first | exact sub_nil | apply sub_cons rfl))
        · have w1 : Z = false := w1
          rw [if_neg (by rw [w1]; simp)]
          apply ct_skip
          exact jp_of (by repeat (first | exact sub_nil | apply sub_cons rfl))
      apply ct_region
      apply seq_plain; exact do_succ rfl (by omega); exact rfl
      apply seq_plain; exact do_move rfl; exact rfl
      apply seq_nil
      exact lt_to (by repeat (first | exact sub_nil | apply sub_cons rfl)) (.refl _) (ih' (j + 1) _ (by omega) (by omega))
    have h1 : j = l.length := by simp at h1; omega
    subst h1
    rw [List.take_length]
    clear ih'
    apply ct_exit
    apply exit_eq; exact rfl
    apply ct_seq
    apply ct_seq
    apply ct_region
    apply seq_plain; exact do_move rfl; exact rfl
    apply seq_plain; exact do_lenS rfl rfl rfl; exact rfl
    apply seq_plain; exact do_move rfl; exact rfl
    apply seq_nil
    apply ct_block
    apply ct_loop
    refine lt_meas (α := Nat × List (Option ABlk)) (fun a => [(10, I X), (11, .string O.1), (13, I O.2.2), (19, I (cntD l O.1 O.2.1)), (20, I (cntK (t.take a.1) O.1)), (151, .slice q t.length c), (152, I t.length), (153, I a.1)]) (fun a => ext h3 lo a.2) (fun a => a.1 ≤ t.length) (fun a => t.length - a.1) (fun a hx ih => ?_) (0, L) (Nat.zero_le _) (by repeat (first | exact sub_nil | apply sub_cons rfl)) (.refl _)
    clear L ha
    obtain ⟨j, L⟩ := a
    simp only at hx ih ⊢
    have ih' := fun j' L' a1 a2 => ih (j', L') a1 a2
    simp only at ih'
    clear ih
    apply ct_seq
    apply ct_region
    apply seq_plain; exact do_binInt rfl rfl rfl trivial; exact rfl
    apply seq_nil
    apply ct_seq
    refine ct_cond rfl (fun h1 => ?_) (fun h1 => ?_)
    · simp only [decide_eq_true_eq, Int.ofNat_lt] at h1
      obtain ⟨b2, o2, cs2, z2, st2, ro2, rfl, hg2, hw2⟩ := hse.out (by intro e; rw [e] at h1; simp at h1)
      have se := cntK_snoc (k := O.1) h1
      have sl := cntK_take (t := t) (k := O.1) (i := j)
      apply ct_skip
      apply ct_seq
      apply ct_block
      apply ct_seq
      apply ct_region
      apply seq_plain; exact do_indexAddrS rfl rfl rfl (by exact idx_nat (by omega)); exact rfl
      apply seq_plain; exact do_load rfl (by exact ext_get_old (by assumption) (by assumption)) rfl (by exact pt_sl (by assumption) (by omega)); exact rfl
      apply seq_newP; exact do_alloc rfl rfl; exact rfl
      apply seq_putC (hc := by assumption); rotate_left; exact do_store rfl rfl (by exact ext_get_new List.getElem?_concat_length) rfl rfl (nb_own _); rotate_left; exact (by simp)
      apply ct_seq
      apply ct_region
      apply seq_plain; exact do_fieldAddr rfl rfl; exact rfl
      apply seq_plain; exact do_load rfl (by exact ext_get_new getSetLast) rfl (by exact rfl); exact rfl
      apply seq_plain; exact do_move rfl; exact rfl
      apply seq_plain; exact do_binStr rfl rfl rfl; exact rfl
      apply seq_nil
      rw [set_mid rfl]
      skip
      refine ct_JE [(10, I X), (11, .string O.1), (13, I O.2.2), (19, I (cntD l O.1 O.2.1)), (20, I (cntK (t.take (j + 1)) O.1)), (151, .slice (some ⟨b2, o2, none⟩) t.length c), (152, I t.length), (153, I j)] (ds := []) (h := ext h3 lo (L ++ [some (.cells (tb t[j]) 0 false false)])) ?_ ?_
      · rw [se]
        refine ct_cond rfl (fun w1 => ?_) (fun w1 => ?_)
        · have w1 : byteL t[j].kind.data.toList O.1.data.toList = true := w1
          rw [bytes_eq, decide_eq_true_eq] at w1
          rw [if_pos w1]
          apply ct_region
          apply seq_plain; exact do_move rfl; exact rfl
          apply seq_plain; exact do_succ rfl (by omega); exact rfl
          apply seq_plain; exact do_assign rfl; exact rfl
          apply seq_nil
          exact jp_of (by repeat (first | exact sub_nil | apply sub_cons rfl))
        · have w1 : byteL t[j].kind.data.toList O.1.data.toList = false := w1
          rw [bytes_eq, decide_eq_false_iff_not] at w1
          rw [if_neg w1]
          apply ct_skip
          exact jp_of (by repeat (first | exact sub_nil | apply sub_cons rfl))
      apply ct_region
      apply seq_plain; exact do_succ rfl (by omega); exact rfl
      apply seq_plain; exact do_move rfl; exact rfl
      apply seq_nil
      exact lt_to (by repeat (first | exact sub_nil | apply sub_cons rfl)) (.refl _) (ih' (j + 1) _ (by omega) (by omega))
    have h1 : j = t.length := by simp at h1; omega
    subst h1
    rw [List.take_length, x1, x2]
    clear ih'
    have y3 : decide ((cntD l O.1 O.2.1 : Int) > cntK t O.1) = true := decide_eq_true (by omega)
    have y4 : decide ((cntK t O.1 : Int) > 0) = true := decide_eq_true (by omega)
    apply ct_exit
    apply exit_eq; exact rfl
    apply ct_seq
    apply ct_region
    apply seq_plain; exact do_move rfl; exact rfl
    apply seq_plain; exact do_binInt rfl rfl rfl trivial; exact rfl
    apply seq_plain; exact do_move rfl; exact rfl
    apply seq_guard (hd := rfl) (hl := rfl); exact do_move rfl; exact rfl
    apply seq_guard (hd := rfl) (hl := rfl); exact do_binInt rfl rfl rfl trivial; exact rfl
    apply seq_plain; exact do_pick_t rfl rfl; exact rfl
    apply seq_plain; exact do_move rfl; exact rfl
    apply seq_guard (hd := rfl) (hl := rfl); exact do_move rfl; exact rfl
    apply seq_guard (hd := rfl) (hl := rfl); exact do_move rfl; exact rfl
    apply seq_guard (hd := rfl) (hl := rfl); exact do_binInt rfl rfl rfl trivial; exact rfl
    apply seq_plain; exact do_pick_t rfl rfl; exact rfl
    apply seq_plain; exact do_move rfl; exact rfl
    rw [y3]
    apply seq_guard (hd := rfl) (hl := rfl); exact do_move rfl; exact rfl
    apply seq_guard (hd := rfl) (hl := rfl); exact do_binInt rfl rfl rfl trivial; exact rfl
    apply seq_plain; exact do_pick_t rfl rfl; exact rfl
    apply seq_plain; exact do_assign rfl; exact rfl
    apply seq_nil
    apply ct_ret
    rw [y4]
    skip
    exact fin_flatB hc hc' hE rfl rfl ⟨rfl, rfl⟩
  have v0 : X = 0 := by simpa using v0
  obtain ⟨x1, hA⟩ := eit_good hb (hX ▸ v0)
  obtain ⟨rfl, sA⟩ := ok1 v0
  rw [← hO] at x1
  obtain ⟨A, hAe⟩ : ∃ A, A = asgV t l := ⟨_, rfl⟩
  rw [← hAe] at hA sA
  have hP := hA.done
  have hAl := hP.len
  have hl := (both_ok hb).ok
  have ck := fun lo L => CheckAssign_c (c := c) (d := d) (e := l.length) (hse.ext (ext_Ext hc' (lo := lo) (L := L))) hlow (by omega) (hre.ext (ext_Ext hc')) hlow2 (by omega) (sA.ext (ext_Ext hc')) (by omega)
  simp only [cas_zero hb hP, hAl] at ck
  subst hnn
  clear ok1 hXe hAe hX v0
  rw [x1]
  apply ct_skip
  apply ct_seq
  apply ct_seq
  apply ct_region
  apply seq_plain; exact do_move rfl; exact rfl
  apply seq_plain; exact do_binInt rfl rfl rfl trivial; exact rfl
  apply seq_plain; exact do_move rfl; exact rfl
  apply seq_guard (hd := rfl) (hl := rfl); exact do_move rfl; exact rfl
  apply seq_guard (hd := rfl) (hl := rfl); exact do_lenS rfl rfl rfl; exact rfl
  apply seq_guard (hd := rfl) (hl := rfl); exact do_move rfl; exact rfl
  apply seq_guard (hd := rfl) (hl := rfl); exact do_lenS rfl rfl rfl; exact rfl
  apply seq_guard (hd := rfl) (hl := rfl); exact do_binInt rfl rfl rfl trivial; exact rfl
  apply seq_plain; exact do_pick_f rfl rfl; exact rfl
  apply seq_plain; exact do_move rfl; exact rfl
  simp only [bne_self_eq_false]
  apply seq_guard (hd := rfl) (hl := rfl); exact do_move rfl; exact rfl
  apply seq_guard (hd := rfl) (hl := rfl); exact do_move rfl; exact rfl
  apply seq_guard (hd := rfl) (hl := rfl); exact do_move rfl; exact rfl
  apply seq_gcall (hg := rfl) (hl := rfl) (ht := rfl); exact ck _ _; exact rfl
  apply seq_guard (hd := rfl) (hl := rfl); exact do_binInt rfl rfl rfl trivial; exact rfl
  apply seq_plain; exact do_pick_f rfl rfl; exact rfl
  apply seq_nil
  refine ct_cond_f rfl rfl ?_
  clear ck
  apply ct_skip
  apply ct_seq
  apply ct_seq
  apply ct_region
  apply seq_plain; exact do_move rfl; exact rfl
  apply seq_plain; exact do_lenS rfl rfl rfl; exact rfl
  apply seq_plain; exact do_move rfl; exact rfl
  apply seq_nil
  apply ct_block
  apply ct_loop
  refine lt_meas (α := Nat × List (Option ABlk)) (fun a => [(0, .slice q t.length c), (1, .slice r l.length d), (9, .slice pa l.length l.length), (196, I l.length), (197, I a.1)]) (fun a => ext h3 lo a.2) (fun a => a.1 ≤ l.length) (fun a => l.length - a.1) (fun a ha ih => ?_) (0, M) (Nat.zero_le _) (by repeat (first | exact sub_nil | apply sub_cons rfl)) (.refl _)
  clear M
  obtain ⟨i, L⟩ := a
  simp only at ha ih ⊢
  have ih' := fun i' L' a1 a2 => ih (i', L') a1 a2
  simp only at ih'
  clear ih
  apply ct_seq
  apply ct_region
  apply seq_plain; exact do_binInt rfl rfl rfl trivial; exact rfl
  apply seq_nil
  apply ct_seq
  refine ct_cond rfl (fun h1 => ?_) (fun h1 => ?_)
  · simp only [decide_eq_true_eq, Int.ofNat_lt] at h1
    have hiA : i < A.length := by omega
    have ea := hP.a1 h1 hiA
    have a0 := ea.lo
    have a1 := ea.hi
    have htn0 : A[i].toNat < t.length := by omega
    obtain ⟨b2, o2, cs2, z2, st2, ro2, rfl, hg2, hw2⟩ := hre.out (by intro e; rw [e] at h1; simp at h1)
    obtain ⟨b4, o4, cs4, z4, st4, ro4, rfl, hg4, hw4⟩ := hse.out (by intro e; rw [e] at htn0; simp at htn0)
    obtain ⟨b5, o5, cs5, z5, st5, ro5, rfl, hg5, hw5⟩ := sA.out (by intro e; rw [e] at hiA; simp at hiA)
    have e1 : decide (A[i] < 0) = false := decide_eq_false (by omega)
    have e2 : decide (A[i] ≥ (t.length : Int)) = false := decide_eq_false (by omega)
    apply ct_skip
    apply ct_seq
    apply ct_block
    apply ct_seq
    apply ct_region
    apply seq_plain; exact do_move rfl; exact rfl
    apply seq_plain; exact do_assign rfl; exact rfl
    apply seq_nil
    apply ct_seq
    apply ct_seq
    apply ct_draw (by assumption); decide +kernel
    apply sd_plain (hfree := rfl); intro _; exact do_move rfl; exact rfl
    apply sd_plain (hfree := rfl); intro _; exact do_move rfl; exact rfl
    apply sd_plain (hfree := rfl); intro _; exact do_indexAddrS rfl rfl rfl (by exact idx_nat (by omega)); exact rfl
    apply sd_look (hfree := rfl); exact do_load rfl (by exact ext_get_old (by assumption) (by assumption)) rfl (by exact pt_sl0 (by assumption) (by omega)); exact rfl
    apply sd_plain (hfree := rfl); intro _; exact do_binInt rfl rfl rfl trivial; exact rfl
    apply sd_plain (hfree := rfl); intro _; exact do_move rfl; exact rfl
    rw [e1]
    apply sd_guard (hfree := rfl) (hg := rfl) (hl := rfl); intro _; exact do_move rfl; exact rfl
    apply sd_guard (hfree := rfl) (hg := rfl) (hl := rfl); intro _; exact do_move rfl; exact rfl
    apply sd_guard (hfree := rfl) (hg := rfl) (hl := rfl); intro _; exact do_indexAddrS rfl rfl rfl (by exact idx_nat (by omega)); exact rfl
    apply sd_guardL (hfree := rfl) (hg := rfl) (hl := rfl); exact do_load rfl (by exact ext_get_old (by assumption) (by assumption)) rfl (by exact pt_sl0 (by assumption) (by omega)); exact rfl
    apply sd_guard (hfree := rfl) (hg := rfl) (hl := rfl); intro _; exact do_move rfl; exact rfl
    apply sd_guardL (hfree := rfl) (hg := rfl) (hl := rfl); exact do_lenS rfl rfl rfl; exact rfl
    apply sd_guard (hfree := rfl) (hg := rfl) (hl := rfl); intro _; exact do_binInt rfl rfl rfl trivial; exact rfl
    apply sd_plain (hfree := rfl); intro _; exact do_pick_f rfl rfl; exact rfl
    apply sd_plain (hfree := rfl); intro _; exact do_move rfl; exact rfl
    rw [e2]
    apply sd_guard (hfree := rfl) (hg := rfl) (hl := rfl); intro _; exact do_move rfl; exact rfl
    apply sd_guard (hfree := rfl) (hg := rfl) (hl := rfl); intro _; exact do_move rfl; exact rfl
    apply sd_guard (hfree := rfl) (hg := rfl) (hl := rfl); intro _; exact do_move rfl; exact rfl
    apply sd_guard (hfree := rfl) (hg := rfl) (hl := rfl); intro _; exact do_indexAddrS rfl rfl rfl (by exact idx_nat (by omega)); exact rfl
    apply sd_guardL (hfree := rfl) (hg := rfl) (hl := rfl); exact do_load rfl (by exact ext_get_old (by assumption) (by assumption)) rfl (by exact pt_sl0 (by assumption) (by omega)); exact rfl
    apply sd_guard (hfree := rfl) (hg := rfl) (hl := rfl); intro _; exact do_indexAddrS rfl rfl rfl (by exact idx_int (by omega)); exact rfl
    apply sd_guard (hfree := rfl) (hg := rfl) (hl := rfl); intro _; exact do_fieldAddr rfl rfl; exact rfl
    apply sd_guardL (hfree := rfl) (hg := rfl) (hl := rfl); exact do_load rfl (by exact ext_get_old (by assumption) (by assumption)) rfl (by exact pt_sl1 (by assumption) (by omega) (Nat.le_of_ble_eq_true rfl) rfl); exact rfl
    apply sd_guard (hfree := rfl) (hg := rfl) (hl := rfl); intro _; exact do_move rfl; exact rfl
    apply sd_guard (hfree := rfl) (hg := rfl) (hl := rfl); intro _; exact do_move rfl; exact rfl
    apply sd_guard (hfree := rfl) (hg := rfl) (hl := rfl); intro _; exact do_indexAddrS rfl rfl rfl (by exact idx_nat (by omega)); exact rfl
    apply sd_guard (hfree := rfl) (hg := rfl) (hl := rfl); intro _; exact do_fieldAddr rfl rfl; exact rfl
    apply sd_guardL (hfree := rfl) (hg := rfl) (hl := rfl); exact do_load rfl (by exact ext_get_old (by assumption) (by assumption)) rfl (by exact pt_sl1 (by assumption) (by omega) (Nat.le_of_ble_eq_true rfl) rfl); exact rfl
    apply sd_guard (hfree := rfl) (hg := rfl) (hl := rfl); intro _; exact do_binStr rfl rfl rfl; exact rfl
    apply sd_plain (hfree := rfl); intro _; exact do_pick_f rfl rfl; exact rfl
    apply sd_nil
    simp only [List.map_nil, List.append_nil]
    refine ct_cond rfl (fun w1 => ?_) (fun w1 => ?_)
    · exfalso
      have w1 : (!byteL t[A[i].toNat].kind.data.toList l[i].kind.data.toList) = true := w1
      rw [bytes_eq, ea.kd htn0] at w1
      simp at w1
    clear w1 e1 e2 hg4 hw4
    apply ct_skip
    apply ct_seq
    apply ct_seq
    apply ct_region
    apply seq_plain; exact do_move rfl; exact rfl
    apply seq_plain; exact do_move rfl; exact rfl
    apply seq_nil
    apply ct_block
    apply ct_loop
    refine lt_up (fun k => [(0, .slice (some ⟨b4, o4, none⟩) t.length c), (1, .slice (some ⟨b2, o2, none⟩) l.length d), (9, .slice (some ⟨b5, o5, none⟩) l.length l.length), (25, I i), (196, I l.length), (197, I i), (230, I i), (231, I k)]) (fun _ => True) i (fun k hk _ ih2 => ?_) 0 (by omega) trivial (by repeat (first | exact sub_nil | apply sub_cons rfl))
    apply ct_seq
    apply ct_region
    apply seq_plain; exact do_binInt rfl rfl rfl trivial; exact rfl
    apply seq_nil
    apply ct_seq
    refine ct_cond rfl (fun h2 => ?_) (fun h2 => ?_)
    · simp only [decide_eq_true_eq, Int.ofNat_lt] at h2
      have hkA : k < A.length := by omega
      have hkl : k < l.length := by omega
      have sp := ea.sep k hkl hkA (by omega)
      apply ct_skip
      apply ct_seq
      apply ct_block
      apply ct_seq
      apply ct_region
      apply seq_plain; exact do_move rfl; exact rfl
      apply seq_plain; exact do_assign rfl; exact rfl
      apply seq_nil
      apply ct_seq
      apply ct_draw (by assumption); decide +kernel
      apply sd_plain (hfree := rfl); intro _; exact do_move rfl; exact rfl
      apply sd_plain (hfree := rfl); intro _; exact do_move rfl; exact rfl
      apply sd_plain (hfree := rfl); intro _; exact do_indexAddrS rfl rfl rfl (by exact idx_nat (by omega)); exact rfl
      apply sd_look (hfree := rfl); exact do_load rfl (by exact ext_get_old (by assumption) (by assumption)) rfl (by exact pt_sl0 (by assumption) (by omega)); exact rfl
      apply sd_plain (hfree := rfl); intro _; exact do_move rfl; exact rfl
      apply sd_plain (hfree := rfl); intro _; exact do_move rfl; exact rfl
      apply sd_plain (hfree := rfl); intro _; exact do_indexAddrS rfl rfl rfl (by exact idx_nat (by omega)); exact rfl
      apply sd_look (hfree := rfl); exact do_load rfl (by exact ext_get_old (by assumption) (by assumption)) rfl (by exact pt_sl0 (by assumption) (by omega)); exact rfl
      apply sd_plain (hfree := rfl); intro _; exact do_binInt rfl rfl rfl trivial; exact rfl
      apply sd_plain (hfree := rfl); intro _; exact do_move rfl; exact rfl
      refine sd_J [(0, .slice (some ⟨b4, o4, none⟩) t.length c), (1, .slice (some ⟨b2, o2, none⟩) l.length d), (9, .slice (some ⟨b5, o5, none⟩) l.length l.length), (25, I i), (196, I l.length), (197, I i), (230, I i), (231, I k), (268, .bool false)] (ds := []) (h := ext h3 lo L) ?_ ?_
      · refine sd_gsplit rfl rfl (fun w1 => ?_) (fun w1 => ?_)
        · have w1 : (A[i] == A[k]) = true := w1
          have sp := sp (by simpa using w1)
          unfold meetB at sp
          apply sd_guard (hfree := rfl) (hg := rfl) (hl := rfl); intro _; exact do_move rfl; exact rfl
          apply sd_guard (hfree := rfl) (hg := rfl) (hl := rfl); intro _; exact do_move rfl; exact rfl
          apply sd_guard (hfree := rfl) (hg := rfl) (hl := rfl); intro _; exact do_indexAddrS rfl rfl rfl (by exact idx_nat (by omega)); exact rfl
          apply sd_guard (hfree := rfl) (hg := rfl) (hl := rfl); intro _; exact do_fieldAddr rfl rfl; exact rfl
          apply sd_guardL (hfree := rfl) (hg := rfl) (hl := rfl); exact do_load rfl (by exact ext_get_old (by assumption) (by assumption)) rfl (by exact pt_sl1 (by assumption) (by omega) (Nat.le_of_ble_eq_true rfl) rfl); exact rfl
          apply sd_guard (hfree := rfl) (hg := rfl) (hl := rfl); intro _; exact do_move rfl; exact rfl
          apply sd_guard (hfree := rfl) (hg := rfl) (hl := rfl); intro _; exact do_move rfl; exact rfl
          apply sd_guard (hfree := rfl) (hg := rfl) (hl := rfl); intro _; exact do_indexAddrS rfl rfl rfl (by exact idx_nat (by omega)); exact rfl
          apply sd_guard (hfree := rfl) (hg := rfl) (hl := rfl); intro _; exact do_fieldAddr rfl rfl; exact rfl
          apply sd_guardL (hfree := rfl) (hg := rfl) (hl := rfl); exact do_load rfl (by exact ext_get_old (by assumption) (by assumption)) rfl (by exact pt_sl1 (by assumption) (by omega) (Nat.le_of_ble_eq_true rfl) rfl); exact rfl
          apply sd_guard (hfree := rfl) (hg := rfl) (hl := rfl); intro _; exact do_binInt rfl rfl rfl trivial; exact rfl
          apply sd_plain (hfree := rfl); intro _; exact do_pick_t rfl rfl; exact rfl
          apply sd_plain (hfree := rfl); intro _; exact do_move rfl; exact rfl
          refine sd_gsplit rfl rfl (fun w2 => ?_) (fun w2 => ?_)
          · have w2 : decide (l[i].frm < l[k].to) = true := w2
            rw [w2, Bool.and_true] at sp
            apply sd_guard (hfree := rfl) (hg := rfl) (hl := rfl); intro _; exact do_move rfl; exact rfl
            apply sd_guard (hfree := rfl) (hg := rfl) (hl := rfl); intro _; exact do_move rfl; exact rfl
            apply sd_guard (hfree := rfl) (hg := rfl) (hl := rfl); intro _; exact do_indexAddrS rfl rfl rfl (by exact idx_nat (by omega)); exact rfl
            apply sd_guard (hfree := rfl) (hg := rfl) (hl := rfl); intro _; exact do_fieldAddr rfl rfl; exact rfl
            apply sd_guardL (hfree := rfl) (hg := rfl) (hl := rfl); exact do_load rfl (by exact ext_get_old (by assumption) (by assumption)) rfl (by exact pt_sl1 (by assumption) (by omega) (Nat.le_of_ble_eq_true rfl) rfl); exact rfl
            apply sd_guard (hfree := rfl) (hg := rfl) (hl := rfl); intro _; exact do_move rfl; exact rfl
            apply sd_guard (hfree := rfl) (hg := rfl) (hl := rfl); intro _; exact do_move rfl; exact rfl
            apply sd_guard (hfree := rfl) (hg := rfl) (hl := rfl); intro _; exact do_indexAddrS rfl rfl rfl (by exact idx_nat (by omega)); exact rfl
            apply sd_guard (hfree := rfl) (hg := rfl) (hl := rfl); intro _; exact do_fieldAddr rfl rfl; exact rfl
            apply sd_guardL (hfree := rfl) (hg := rfl) (hl := rfl); exact do_load rfl (by exact ext_get_old (by assumption) (by assumption)) rfl (by exact pt_sl1 (by assumption) (by omega) (Nat.le_of_ble_eq_true rfl) rfl); exact rfl
            apply sd_guard (hfree := rfl) (hg := rfl) (hl := rfl); intro _; exact do_binInt rfl rfl rfl trivial; exact rfl
            apply sd_plain (hfree := rfl); intro _; exact do_pick_t rfl rfl; exact rfl
            apply sd_nil
            rw [sp]
            simp only [List.map_nil, List.append_nil]
            exact jp_of (by repeat (first | exact sub_nil | apply sub_cons rfl))
          · apply sd_passed (hg := rfl) (hl := rfl) (hb := rfl); exact rfl
            apply sd_passed (hg := rfl) (hl := rfl) (hb := rfl); exact rfl
            apply sd_passed (hg := rfl) (hl := rfl) (hb := rfl); exact rfl
            apply sd_passed (hg := rfl) (hl := rfl) (hb := rfl); exact rfl
            apply sd_passed (hg := rfl) (hl := rfl) (hb := rfl); exact rfl
            apply sd_passed (hg := rfl) (hl := rfl) (hb := rfl); exact rfl
            apply sd_passed (hg := rfl) (hl := rfl) (hb := rfl); exact rfl
            apply sd_passed (hg := rfl) (hl := rfl) (hb := rfl); exact rfl
            apply sd_passed (hg := rfl) (hl := rfl) (hb := rfl); exact rfl
            apply sd_passed (hg := rfl) (hl := rfl) (hb := rfl); exact rfl
            apply sd_passed (hg := rfl) (hl := rfl) (hb := rfl); exact rfl
            apply sd_plain (hfree := rfl); intro _; exact do_pick_f rfl rfl; exact rfl
            apply sd_nil
            simp only [List.map_nil, List.append_nil]
            exact jp_of (by repeat (first | exact sub_nil | apply sub_cons rfl))
        · apply sd_passed (hg := rfl) (hl := rfl) (hb := rfl); exact rfl
          apply sd_passed (hg := rfl) (hl := rfl) (hb := rfl); exact rfl
          apply sd_passed (hg := rfl) (hl := rfl) (hb := rfl); exact rfl
          apply sd_passed (hg := rfl) (hl := rfl) (hb := rfl); exact rfl
          apply sd_passed (hg := rfl) (hl := rfl) (hb := rfl); exact rfl
          apply sd_passed (hg := rfl) (hl := rfl) (hb := rfl); exact rfl
          apply sd_passed (hg := rfl) (hl := rfl) (hb := rfl); exact rfl
          apply sd_passed (hg := rfl) (hl := rfl) (hb := rfl); exact rfl
          apply sd_passed (hg := rfl) (hl := rfl) (hb := rfl); exact rfl
          apply sd_passed (hg := rfl) (hl := rfl) (hb := rfl); exact rfl
          apply sd_passed (hg := rfl) (hl := rfl) (hb := rfl); exact rfl
          apply sd_plain (hfree := rfl); intro _; exact do_pick_f rfl rfl; exact rfl
          apply sd_plain (hfree := rfl); intro _; exact do_move rfl; exact rfl
          apply sd_passed (hg := rfl) (hl := rfl) (hb := rfl); exact rfl
          apply sd_passed (hg := rfl) (hl := rfl) (hb := rfl); exact rfl
          apply sd_passed (hg := rfl) (hl := rfl) (hb := rfl); exact rfl
          apply sd_passed (hg := rfl) (hl := rfl) (hb := rfl); exact rfl
          apply sd_passed (hg := rfl) (hl := rfl) (hb := rfl); exact rfl
          apply sd_passed (hg := rfl) (hl := rfl) (hb := rfl); exact rfl
          apply sd_passed (hg := rfl) (hl := rfl) (hb := rfl); exact rfl
          apply sd_passed (hg := rfl) (hl := rfl) (hb := rfl); exact rfl
          apply sd_passed (hg := rfl) (hl := rfl) (hb := rfl); exact rfl
          apply sd_passed (hg := rfl) (hl := rfl) (hb := rfl); exact rfl
          apply sd_passed (hg := rfl) (hl := rfl) (hb := rfl); exact rfl
          apply sd_plain (hfree := rfl); intro _; exact do_pick_f rfl rfl; exact rfl
          apply sd_nil
          simp only [List.map_nil, List.append_nil]
          exact jp_of (by repeat (first | exact sub_nil | apply sub_cons rfl))
      refine ct_cond_f rfl rfl ?_
      apply ct_skip
      apply ct_region
      apply seq_plain; exact do_succ rfl (by omega); exact rfl
      apply seq_plain; exact do_move rfl; exact rfl
      apply seq_nil
      exact lt_sub (by repeat (first | exact sub_nil | apply sub_cons rfl)) (ih2 (k + 1) (by omega) (by omega) trivial)
    have h2 : k = i := by simp at h2; omega
    subst h2
    clear ih2 hk
    have hdz := dep_zero hb h1
    have hdv := depV_zero hdz
    rw [depA_eq] at hdv
    obtain ⟨g1, g2, g3⟩ := use_depth hA h1 hl
    rw [← hdv] at g1 g2 g3
    apply ct_exit
    apply exit_eq; exact rfl
    apply ct_seq
    apply ct_region
    apply seq_plain; exact do_move rfl; exact rfl
    apply seq_plain; exact do_move rfl; exact rfl
    apply seq_plain; exact do_move rfl; exact rfl
    apply seq_plain; exact do_indexAddrS rfl rfl rfl (by exact idx_nat (by omega)); exact rfl
    apply seq_plain; exact do_fieldAddr rfl rfl; exact rfl
    apply seq_plain; exact do_load rfl (by exact ext_get_old (by assumption) (by assumption)) rfl (by exact pt_sl1 (by assumption) (by omega) (Nat.le_of_ble_eq_true rfl) rfl); exact rfl
    apply seq_call (ht := rfl); exact Depth_c (hre.ext (ext_Ext hc')) hlow2 hq'.ext (by omega); exact rfl
    apply seq_plain; exact do_move rfl; exact rfl
    apply seq_plain; exact do_extract rfl rfl; exact rfl
    apply seq_plain; exact do_extract rfl rfl; exact rfl
    apply seq_plain; exact do_extract rfl rfl; exact rfl
    apply seq_plain; exact do_assign rfl; exact rfl
    apply seq_plain; exact do_assign rfl; exact rfl
    apply seq_plain; exact do_assign rfl; exact rfl
    apply seq_nil
    apply ct_seq
    apply ct_region
    apply seq_newM; exact do_makeMap0; exact rfl
    apply seq_plain; exact do_assign rfl; exact rfl
    apply seq_nil
    apply ct_seq
    apply ct_region
    apply seq_plain; exact do_assign rfl; exact rfl
    apply seq_nil
    apply ct_seq
    apply ct_seq
    apply ct_region
    apply seq_plain; exact do_move rfl; exact rfl
    apply seq_plain; exact do_lenS rfl rfl rfl; exact rfl
    apply seq_plain; exact do_move rfl; exact rfl
    apply seq_nil
    apply ct_block
    apply ct_loop
    rw [hdz]
    obtain ⟨dv, hdv2⟩ : ∃ dv, dv = depV l l[k].kind := ⟨_, rfl⟩
    rw [← hdv2] at g1 g2 g3 ⊢
    clear hdv hdz hdv2 ea a0 a1 htn0
    obtain ⟨kk, hkk⟩ : ∃ kk, kk = l[k].kind := ⟨_, rfl⟩
    rw [← hkk] at g2 g3
    skip
    refine lt_meas (α := Nat × List (Option ABlk)) (fun a => [(0, .slice (some ⟨b4, o4, none⟩) t.length c), (1, .slice (some ⟨b2, o2, none⟩) l.length d), (9, .slice (some ⟨b5, o5, none⟩) l.length l.length), (25, I k), (27, I dv.1), (28, I dv.2), (29, I 0), (30, .map (some (nb h3 L.length))), (31, I (cntD (l.take a.1) kk dv.2)), (196, I l.length), (197, I k), (283, I l.length), (284, I a.1)]) (fun a => ext h3 lo a.2) (fun a => a.1 ≤ l.length ∧ a.2[L.length]? = some (some (setM I (useK l A kk a.1)))) (fun a => l.length - a.1) (fun a ha2 ih2 => ?_) (0, L ++ [some (.map [] 0 false)]) ⟨Nat.zero_le _, List.getElem?_concat_length⟩ (by repeat (first | exact sub_nil | apply sub_cons rfl)) (.refl _)
    obtain ⟨K, hK⟩ : ∃ K, K = L.length := ⟨_, rfl⟩
    rw [← hK] at ha2 ih2 ⊢
    clear hK L
    obtain ⟨m, L⟩ := a
    obtain ⟨hml, hM⟩ := ha2
    simp only at hml hM ih2 ⊢
    have ih2' := fun m' L' a1 a2 a3 => ih2 (m', L') a1 ⟨a2, a3⟩
    simp only at ih2'
    clear ih2
    apply ct_seq
    apply ct_region
    apply seq_plain; exact do_binInt rfl rfl rfl trivial; exact rfl
    apply seq_nil
    apply ct_seq
    refine ct_cond rfl (fun h3x => ?_) (fun h3x => ?_)
    · simp only [decide_eq_true_eq, Int.ofNat_lt] at h3x
      have hmA : m < A.length := by omega
      have us := useK_succ (l := l) (a := A) (k := kk) (j := m)
      rw [List.getElem?_eq_getElem h3x, Option.elim_some, List.getElem?_eq_getElem hmA, Option.getD_some] at us
      have se := cntD_snoc (k := kk) (q := dv.2) h3x
      have sl := cntD_take (l := l) (k := kk) (q := dv.2) (i := m)
      apply ct_skip
      apply ct_seq
      apply ct_block
      apply ct_seq
      apply ct_region
      apply seq_plain; exact do_move rfl; exact rfl
      apply seq_plain; exact do_assign rfl; exact rfl
      apply seq_nil
      apply ct_seq
      apply ct_draw (by assumption); decide +kernel
      apply sd_plain (hfree := rfl); intro _; exact do_move rfl; exact rfl
      apply sd_plain (hfree := rfl); intro _; exact do_move rfl; exact rfl
      apply sd_plain (hfree := rfl); intro _; exact do_indexAddrS rfl rfl rfl (by exact idx_nat (by omega)); exact rfl
      apply sd_plain (hfree := rfl); intro _; exact do_fieldAddr rfl rfl; exact rfl
      apply sd_look (hfree := rfl); exact do_load rfl (by exact ext_get_old (by assumption) (by assumption)) rfl (by exact pt_sl1 (by assumption) (by omega) (Nat.le_of_ble_eq_true rfl) rfl); exact rfl
      apply sd_plain (hfree := rfl); intro _; exact do_move rfl; exact rfl
      apply sd_plain (hfree := rfl); intro _; exact do_move rfl; exact rfl
      apply sd_plain (hfree := rfl); intro _; exact do_indexAddrS rfl rfl rfl (by exact idx_nat (by omega)); exact rfl
      apply sd_plain (hfree := rfl); intro _; exact do_fieldAddr rfl rfl; exact rfl
      apply sd_look (hfree := rfl); exact do_load rfl (by exact ext_get_old (by assumption) (by assumption)) rfl (by exact pt_sl1 (by assumption) (by omega) (Nat.le_of_ble_eq_true rfl) rfl); exact rfl
      apply sd_plain (hfree := rfl); intro _; exact do_binStr rfl rfl rfl; exact rfl
      apply sd_nil
      simp only [List.map_nil, List.append_nil]
      rw [← hkk]
      refine ct_cond rfl (fun w1 => ?_) (fun w1 => ?_)
      · have w1 : byteL l[m].kind.data.toList kk.data.toList = true := w1
        rw [bytes_eq] at w1
        rw [if_pos w1] at us
        obtain ⟨Z, hZ⟩ : ∃ Z, Z = isAt kk dv.2 l[m] := ⟨_, rfl⟩
        rw [← hZ] at se
        apply ct_seq
        apply ct_region
        apply seq_plain; exact do_move rfl; exact rfl
        apply seq_plain; exact do_move rfl; exact rfl
        apply seq_plain; exact do_move rfl; exact rfl
        apply seq_plain; exact do_indexAddrS rfl rfl rfl (by exact idx_nat (by omega)); exact rfl
        apply seq_plain; exact do_load rfl (by exact ext_get_old (by assumption) (by assumption)) rfl (by exact pt_sl0 (by assumption) (by omega)); exact rfl
        refine seq_putQC (k := K) hc' (List.getElem?_eq_some_iff.1 hM).1 (do_setAdd (ks := useK l A kk m) (a := A[m]) rfl rfl rfl (ext_get_new hM) rfl keyInt (nb_own _)) (fun M hl2 ho2 hk2 => ?_)
        rw [← us] at hk2
        clear us ho2 hl2 hM
        apply ct_seq
        apply ct_region
        apply seq_plain; exact do_move rfl; exact rfl
        apply seq_plain; exact do_move rfl; exact rfl
        apply seq_plain; exact do_indexAddrS rfl rfl rfl (by exact idx_nat (by omega)); exact rfl
        apply seq_plain; exact do_fieldAddr rfl rfl; exact rfl
        apply seq_plain; exact do_load rfl (by exact ext_get_old (by assumption) (by assumption)) rfl (by exact pt_sl1 (by assumption) (by omega) (Nat.le_of_ble_eq_true rfl) rfl); exact rfl
        apply seq_plain; exact do_move rfl; exact rfl
        apply seq_plain; exact do_binInt rfl rfl rfl trivial; exact rfl
        apply seq_plain; exact do_move rfl; exact rfl
        refine seq_J [(0, .slice (some ⟨b4, o4, none⟩) t.length c), (1, .slice (some ⟨b2, o2, none⟩) l.length d), (9, .slice (some ⟨b5, o5, none⟩) l.length l.length), (25, I k), (27, I dv.1), (28, I dv.2), (29, I 0), (30, .map (some (nb h3 K))), (31, I (cntD (l.take m) kk dv.2)), (196, I l.length), (197, I k), (283, I l.length), (284, I m), (318, .bool Z)] (ds := []) (h := ext h3 lo M) ?_ ?_
        · refine seq_gsplit rfl rfl (fun w2 => ?_) (fun w2 => ?_)
          · have w2 : decide (l[m].frm ≤ dv.2) = true := w2
            have e : Z = decide (dv.2 < l[m].to) := by rw [hZ]; unfold isAt; rw [w1, w2]; rfl
            rw [e]
            apply seq_guard (hd := rfl) (hl := rfl); exact do_move rfl; exact rfl
            apply seq_guard (hd := rfl) (hl := rfl); exact do_move rfl; exact rfl
            apply seq_guard (hd := rfl) (hl := rfl); exact do_move rfl; exact rfl
            apply seq_guard (hd := rfl) (hl := rfl); exact do_indexAddrS rfl rfl rfl (by exact idx_nat (by omega)); exact rfl
            apply seq_guard (hd := rfl) (hl := rfl); exact do_fieldAddr rfl rfl; exact rfl
            apply seq_guard (hd := rfl) (hl := rfl); exact do_load rfl (by exact ext_get_old (by assumption) (by assumption)) rfl (by exact pt_sl1 (by assumption) (by omega) (Nat.le_of_ble_eq_true rfl) rfl); exact rfl
            apply seq_guard (hd := rfl) (hl := rfl); exact do_binInt rfl rfl rfl trivial; exact rfl
            apply seq_plain; exact do_pick_t rfl rfl; exact rfl
            apply seq_nil
            exact jp_of (by repeat (first | exact sub_nil | apply sub_cons rfl))
          · have w2 : decide (l[m].frm ≤ dv.2) = false := w2
            have e : Z = false := by rw [hZ]; unfold isAt; rw [w1, w2]; rfl
            rw [e]
            apply seq_passed (hd := rfl) (hl := rfl) (hb := rfl); exact rfl
            apply seq_passed (hd := rfl) (hl := rfl) (hb := rfl); exact rfl
            apply seq_passed (hd := rfl) (hl := rfl) (hb := rfl); exact rfl
            apply seq_passed (hd := rfl) (hl := rfl) (hb := rfl); exact rfl
            apply seq_passed (hd := rfl) (hl := rfl) (hb := rfl); exact rfl
            apply seq_passed (hd := rfl) (hl := rfl) (hb := rfl); exact rfl
            apply seq_passed (hd := rfl) (hl := rfl) (hb := rfl); exact rfl
            apply seq_plain; exact do_pick_f rfl rfl; exact rfl
            apply seq_nil
            exact jp_of (by repeat (first | exact sub_nil | apply sub_cons rfl))
        refine ct_JE [(0, .slice (some ⟨b4, o4, none⟩) t.length c), (1, .slice (some ⟨b2, o2, none⟩) l.length d), (9, .slice (some ⟨b5, o5, none⟩) l.length l.length), (25, I k), (27, I dv.1), (28, I dv.2), (29, I 0), (30, .map (some (nb h3 K))), (31, I (cntD (l.take (m + 1)) kk dv.2)), (196, I l.length), (197, I k), (283, I l.length), (284, I m)] (ds := []) (h := ext h3 lo M) ?_ ?_
        · rw [se]
          refine ct_cond rfl (fun w2 => ?_) (fun w2 => ?_)
          · have w2 : Z = true := w2
            rw [if_pos w2]
            apply ct_region
            apply seq_plain; exact do_move rfl; exact rfl
            apply seq_plain; exact do_succ rfl (by omega); exact rfl
            apply seq_plain; exact do_assign rfl; exact rfl
            apply seq_nil
            exact jp_of (by repeat (first | exact sub_nil | apply sub_cons rfl))
          · have w2 : Z = false := w2
            rw [if_neg (by rw [w2]; simp)]
            apply ct_skip
            exact jp_of (by repeat (first | exact sub_nil | apply sub_cons rfl))
        apply ct_region
        apply seq_plain; exact do_succ rfl (by omega); exact rfl
        apply seq_plain; exact do_move rfl; exact rfl
        apply seq_nil
        exact lt_to (by repeat (first | exact sub_nil | apply sub_cons rfl)) (.refl _) (ih2' (m + 1) M (by omega) (by omega) hk2)
      have w1 : byteL l[m].kind.data.toList kk.data.toList = false := w1
      rw [bytes_eq] at w1
      rw [if_neg (by rw [w1]; simp)] at us
      have hz : isAt kk dv.2 l[m] = false := by unfold isAt; rw [w1]; rfl
      rw [hz, if_neg (by simp)] at se
      have se : cntD (l.take (m + 1)) kk dv.2 = cntD (l.take m) kk dv.2 := se
      rw [← us] at hM
      rw [← se]
      apply ct_skip
      apply ct_region
      apply seq_plain; exact do_succ rfl (by omega); exact rfl
      apply seq_plain; exact do_move rfl; exact rfl
      apply seq_nil
      exact lt_to (by repeat (first | exact sub_nil | apply sub_cons rfl)) (.refl _) (ih2' (m + 1) L (by omega) (by omega) hM)
    have h3x : m = l.length := by simp at h3x; omega
    subst h3x
    rw [List.take_length]
    clear ih2'
    have y1 : decide (dv.1 < 1) = false := decide_eq_false (by omega)
    apply ct_exit
    apply exit_eq; exact rfl
    apply ct_seq
    apply ct_region
    apply seq_plain; exact do_move rfl; exact rfl
    apply seq_plain; exact do_binInt rfl rfl rfl trivial; exact rfl
    apply seq_plain; exact do_move rfl; exact rfl
    apply seq_guard (hd := rfl) (hl := rfl); exact do_move rfl; exact rfl
    apply seq_guard (hd := rfl) (hl := rfl); exact do_binInt rfl rfl rfl trivial; exact rfl
    apply seq_plain; exact do_pick_f rfl rfl; exact rfl
    apply seq_plain; exact do_move rfl; exact rfl
    rw [y1]
    apply seq_guard (hd := rfl) (hl := rfl); exact do_move rfl; exact rfl
    apply seq_guard (hd := rfl) (hl := rfl); exact do_move rfl; exact rfl
    apply seq_guard (hd := rfl) (hl := rfl); exact do_binInt rfl rfl rfl trivial; exact rfl
    apply seq_plain; exact do_pick_f rfl rfl; exact rfl
    apply seq_plain; exact do_move rfl; exact rfl
    rw [g2]
    simp only [bne_self_eq_false]
    apply seq_guard (hd := rfl) (hl := rfl); exact do_move rfl; exact rfl
    apply seq_guard (hd := rfl) (hl := rfl); exact do_builtin rfl (bi_lenSet rfl (by exact ext_get_new hM)); exact rfl
    apply seq_guard (hd := rfl) (hl := rfl); exact do_move rfl; exact rfl
    apply seq_guard (hd := rfl) (hl := rfl); exact do_binInt rfl rfl rfl trivial; exact rfl
    apply seq_plain; exact do_pick_f rfl rfl; exact rfl
    apply seq_nil
    rw [g3]
    simp only [bne_self_eq_false]
    skip
    refine ct_cond_f rfl rfl ?_
    apply ct_skip
    apply ct_region
    apply seq_plain; exact do_succ rfl (by omega); exact rfl
    apply seq_plain; exact do_move rfl; exact rfl
    apply seq_nil
    exact lt_to (by repeat (first | exact sub_nil | apply sub_cons rfl)) (.refl _) (ih' (k + 1) L (by omega) (by omega))
  have h1 : i = l.length := by simp at h1; omega
  subst h1
  apply ct_exit
  apply exit_eq; exact rfl
  apply ct_seq
  apply ct_region
  apply seq_plain; exact do_assign rfl; exact rfl
  apply seq_nil
  apply ct_ret
  exact fin_flatB hc hc' hE rfl rfl ⟨rfl, rfl⟩
end Go.Proofs.YtfegloadbajbhaaGreatDoor
