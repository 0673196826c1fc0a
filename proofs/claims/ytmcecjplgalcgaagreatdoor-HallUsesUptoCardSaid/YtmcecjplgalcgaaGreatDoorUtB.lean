/- HallUses: the law's own walk. -/
import Derived.Test.YtmcecjplgalcgaaGreatDoorUtA
import Derived.Test.YtmcecjplgalcgaaGreatDoorWoC
import Derived.Test.YtmcecjplgalcgaaGreatDoorFxC
import Derived.Test.YtmcecjplgalcgaaGreatDoorUtM
import Derived.Test.YtmcecjplgalcgaaGreatDoorHkO
import Derived.Test.YtmcecjplgalcgaaGreatDoorBgH
noncomputable section
namespace Go.Proofs.YtmcecjplgalcgaaGreatDoor
open Go Go.Den
set_option maxRecDepth 100000
structure UseIn (t : List Tb) (l : List Bk) (A : List Int) (lim : Int) : Prop where
 t5 : t.length ≤ 5
 l8 : l.length ≤ 8
 a10 : A.length ≤ 10
 both : bothE t l = 0
 chk : chkRef t l A = 0
 lim1 : 1 ≤ lim
 lim2 : lim ≤ 999999999
set_option maxHeartbeats 16000000 in
theorem uses_w {H : AHeap} {q r w : Option Addr} {c d g : Nat} {t : List Tb} {l : List Bk} {A : List Int} {lim : Int} {ma mb mc : Mk} (haw : ∀ h, Ext H h → Ret Tryz.prog 5 [] h (.bool true) h) (hG : Glo B0 H) (hs : SlAt H 2 tb q t) (hlow : LowS q c t.length) (hn : t.length ≤ 1048576) (hr : SlAt H 4 bk r l) (hlow2 : LowS r d l.length) (hq : OldS H r) (hm : l.length ≤ 1048576) (hw : SlAt H 1 i1 w A) (hA : A.length ≤ 1048576) :
  Ret Tryz.prog 3 [.slice q t.length c, .agg ⟨[.slice r l.length d, .slice w A.length g, I lim]⟩, .agg ⟨m9 ma mb mc⟩] H (.bool true) H := by
 refine fn_start Tryz.func3 rfl rfl rfl fun hc => ?_
 have c1 := fun L => own_c (H := ext H H.fresh L) (c := c) (d := d) (hs.ext (ext_Ext hc)) (by omega) (hr.ext (ext_Ext hc)) (by omega)
 simp only [lstH_ext, ext_fresh] at c1
 apply ct_seq
 apply ct_region
 iterate 2 (apply seq_newP; exact do_box rfl rfl rfl; exact rfl)
 apply seq_plain; exact do_assign rfl; exact rfl
 apply seq_nil
 apply ct_seq
 apply ct_region
 apply seq_plain; exact do_move rfl; exact rfl
 apply seq_plain; exact do_fieldAddr rfl rfl; exact rfl
 apply seq_plain; exact do_load rfl (by exact ext_get_new rfl) rfl (by exact rfl); exact rfl
 refine seq_call rfl (c1 _) rfl ?_
 obtain ⟨L0, hL0⟩ : ∃ L0 : List (Option ABlk), L0 = [some (.cells [.slice r l.length d, .slice w A.length g, I lim] 0 false false), some (.cells (m9 ma mb mc) 0 false false)] := ⟨_, rfl⟩
 obtain ⟨p, hp⟩ : ∃ p, p = lstP (nb H L0.length) t := ⟨_, rfl⟩
 obtain ⟨u, hu⟩ : ∃ u, u = lstP (nb H (L0 ++ lstL 2 tb t).length) l := ⟨_, rfl⟩
 have s1 : SlAt (ext H H.fresh (L0 ++ lstL 2 tb t ++ lstL 4 bk l)) 4 bk u l := by rw [hu]; exact lst_slAt bk_len
 have s2 : SlAt (ext H H.fresh (L0 ++ lstL 2 tb t ++ lstL 4 bk l)) 2 tb p t := by
  have := lst_slAt (H := H) (lo := H.fresh) (L := L0) (m := 2) (f := tb) (l := t) tb_len
  rw [hp]
  exact this.ext (ext_more hc)
 have hb0 : (ext H H.fresh (L0 ++ lstL 2 tb t ++ lstL 4 bk l)).get (nb H 0) = some (.cells [.slice r l.length d, .slice w A.length g, I lim] 0 false false) := ext_get_new (getApp (getApp (by rw [hL0]; rfl)))
 have hb1 : (ext H H.fresh (L0 ++ lstL 2 tb t ++ lstL 4 bk l)).get (nb H 1) = some (.cells (m9 ma mb mc) 0 false false) := ext_get_new (getApp (getApp (by rw [hL0]; rfl)))
 refine seqL_to (l' := [(0, .slice q t.length c), (4, .pointer (some ⟨nb H 0, 0, none⟩)), (5, .pointer (some ⟨nb H 1, 0, none⟩)), (6, .bool false), (39, .tuple ⟨[.slice p t.length t.length, .slice u l.length l.length]⟩)]) (h' := ext (ext H H.fresh (L0 ++ lstL 2 tb t ++ lstL 4 bk l)) (min H.fresh H.fresh) []) (by rw [hp, hu, hL0]; repeat (first | exact sub_nil | apply sub_cons rfl)) (by rw [hL0]; exact ext_base) (by simp) ?_
 obtain ⟨h, hh⟩ : ∃ h, h = ext H H.fresh (L0 ++ lstL 2 tb t ++ lstL 4 bk l) := ⟨_, rfl⟩
 have hc' : Closed h := by rw [hh]; exact ext_closed hc
 have hE : Ext H h := by rw [hh]; exact ext_Ext hc
 have hq' : OldS h r := by rw [hh]; exact hq.ext
 have hG' : Glo B0 h := by rw [hh]; exact Glo.ext hG
 rw [← hh] at s1 s2 hb0 hb1 ⊢
 clear hh hp hu c1 hL0
 have aw := fun lo L => haw _ (hE.trans (ext_Ext (lo := lo) (L := L) hc'))
 have sh := fun lo L => short_c (d := l.length) (c := t.length) (e := 0) (s2.ext (ext_Ext (lo := lo) (L := L) hc')) (by omega) (s1.ext (ext_Ext (lo := lo) (L := L) hc')) (by omega) (SlAt.nil (p := none)) (by simp)
 have rc := fun lo L => refCheck_c (d := l.length) (c := t.length) (s2.ext (ext_Ext (lo := lo) (L := L) hc')) (by omega) (s1.ext (ext_Ext (lo := lo) (L := L) hc')) (by omega)
 have rca := fun (k1 : t.length ≤ 5) (k2 : l.length ≤ 8) (k3 : A.length ≤ 10) lo L => refCheckAssign_c (c := t.length) (d := l.length) (e := g) (s2.ext (ext_Ext (lo := lo) (L := L) hc')) (by omega) (s1.ext (ext_Ext (lo := lo) (L := L) hc')) (by omega) ((hw.ext hE).ext (ext_Ext (lo := lo) (L := L) hc')) (by omega)
 apply seq_plain; exact do_move rfl; exact rfl
 iterate 2 (apply seq_plain; exact do_extract rfl rfl; exact rfl)
 iterate 2 (apply seq_plain; exact do_assign rfl; exact rfl)
 apply seq_nil
 iterate 2 (apply ct_seq)
 apply ct_region
 apply seq_call (ht := rfl); exact aw _ _; exact rfl
 apply seq_plain; exact do_unOp rfl rfl; exact rfl
 apply seq_plain; exact do_move rfl; exact rfl
 apply seq_guard (hd := rfl) (hl := rfl); exact do_move rfl; exact rfl
 apply seq_guard (hd := rfl) (hl := rfl); exact do_lenS rfl rfl rfl; exact rfl
 apply seq_guard (hd := rfl) (hl := rfl); exact do_binInt rfl rfl rfl trivial; exact rfl
 apply seq_plain; exact do_pick_f rfl rfl; exact rfl
 apply seq_plain; exact do_move rfl; exact rfl
 refine seq_JX (ds := []) (α := Bool) (fun B => [(0, .slice q t.length c), (4, .pointer (some ⟨nb H 0, 0, none⟩)), (5, .pointer (some ⟨nb H 1, 0, none⟩)), (6, .bool false), (85, .bool B)]) (fun _ => ext h (min H.fresh H.fresh) []) (fun B => B = false → UseIn t l A lim) ?_ ?_
 ·refine seq_gsplit rfl rfl (fun u1 => ?_) (fun u1 => ?_)
  ·apply seq_passed (hd := rfl) (hl := rfl) (hb := rfl); exact rfl
   iterate 3 (apply seq_passed (hd := rfl) (hl := rfl) (hb := rfl); exact rfl)
   apply seq_plain; exact do_pick_t rfl rfl; exact rfl
   apply seq_plain; exact do_move rfl; exact rfl
   iterate 4 (apply seq_passed (hd := rfl) (hl := rfl) (hb := rfl); exact rfl)
   apply seq_plain; exact do_pick_t rfl rfl; exact rfl
   apply seq_plain; exact do_move rfl; exact rfl
   iterate 4 (apply seq_passed (hd := rfl) (hl := rfl) (hb := rfl); exact rfl)
   apply seq_plain; exact do_pick_t rfl rfl; exact rfl
   apply seq_plain; exact do_move rfl; exact rfl
   iterate 4 (apply seq_passed (hd := rfl) (hl := rfl) (hb := rfl); exact rfl)
   apply seq_plain; exact do_pick_t rfl rfl; exact rfl
   apply seq_plain; exact do_move rfl; exact rfl
   iterate 6 (apply seq_passed (hd := rfl) (hl := rfl) (hb := rfl); exact rfl)
   apply seq_plain; exact do_pick_t rfl rfl; exact rfl
   apply seq_plain; exact do_move rfl; exact rfl
   iterate 3 (apply seq_passed (hd := rfl) (hl := rfl) (hb := rfl); exact rfl)
   apply seq_plain; exact do_pick_t rfl rfl; exact rfl
   apply seq_nil
   exact jx_of true (fun e => by cases e) (by repeat (first | exact sub_nil | apply sub_cons rfl)) rfl
  have u1 : t.length ≤ 5 := by have := of_decide_eq_false u1; omega
  apply seq_guard (hd := rfl) (hl := rfl); exact do_fieldAddr rfl rfl; exact rfl
  apply seq_guard (hd := rfl) (hl := rfl); exact do_load rfl (by exact ext_get_old (by assumption) (by assumption)) rfl (by exact rfl); exact rfl
  apply seq_guard (hd := rfl) (hl := rfl); exact do_lenS rfl rfl rfl; exact rfl
  apply seq_guard (hd := rfl) (hl := rfl); exact do_binInt rfl rfl rfl trivial; exact rfl
  apply seq_plain; exact do_pick_f rfl rfl; exact rfl
  apply seq_plain; exact do_move rfl; exact rfl
  refine seq_gsplit rfl rfl (fun u2 => ?_) (fun u2 => ?_)
  ·apply seq_passed (hd := rfl) (hl := rfl) (hb := rfl); exact rfl
   iterate 3 (apply seq_passed (hd := rfl) (hl := rfl) (hb := rfl); exact rfl)
   apply seq_plain; exact do_pick_t rfl rfl; exact rfl
   apply seq_plain; exact do_move rfl; exact rfl
   iterate 4 (apply seq_passed (hd := rfl) (hl := rfl) (hb := rfl); exact rfl)
   apply seq_plain; exact do_pick_t rfl rfl; exact rfl
   apply seq_plain; exact do_move rfl; exact rfl
   iterate 4 (apply seq_passed (hd := rfl) (hl := rfl) (hb := rfl); exact rfl)
   apply seq_plain; exact do_pick_t rfl rfl; exact rfl
   apply seq_plain; exact do_move rfl; exact rfl
   iterate 6 (apply seq_passed (hd := rfl) (hl := rfl) (hb := rfl); exact rfl)
   apply seq_plain; exact do_pick_t rfl rfl; exact rfl
   apply seq_plain; exact do_move rfl; exact rfl
   iterate 3 (apply seq_passed (hd := rfl) (hl := rfl) (hb := rfl); exact rfl)
   apply seq_plain; exact do_pick_t rfl rfl; exact rfl
   apply seq_nil
   exact jx_of true (fun e => by cases e) (by repeat (first | exact sub_nil | apply sub_cons rfl)) rfl
  have u2 : l.length ≤ 8 := by have := of_decide_eq_false u2; omega
  apply seq_guard (hd := rfl) (hl := rfl); exact do_fieldAddr rfl rfl; exact rfl
  apply seq_guard (hd := rfl) (hl := rfl); exact do_load rfl (by exact ext_get_old (by assumption) (by assumption)) rfl (by exact rfl); exact rfl
  apply seq_guard (hd := rfl) (hl := rfl); exact do_lenS rfl rfl rfl; exact rfl
  apply seq_guard (hd := rfl) (hl := rfl); exact do_binInt rfl rfl rfl trivial; exact rfl
  apply seq_plain; exact do_pick_f rfl rfl; exact rfl
  apply seq_plain; exact do_move rfl; exact rfl
  refine seq_gsplit rfl rfl (fun u3 => ?_) (fun u3 => ?_)
  ·apply seq_passed (hd := rfl) (hl := rfl) (hb := rfl); exact rfl
   iterate 3 (apply seq_passed (hd := rfl) (hl := rfl) (hb := rfl); exact rfl)
   apply seq_plain; exact do_pick_t rfl rfl; exact rfl
   apply seq_plain; exact do_move rfl; exact rfl
   iterate 4 (apply seq_passed (hd := rfl) (hl := rfl) (hb := rfl); exact rfl)
   apply seq_plain; exact do_pick_t rfl rfl; exact rfl
   apply seq_plain; exact do_move rfl; exact rfl
   iterate 6 (apply seq_passed (hd := rfl) (hl := rfl) (hb := rfl); exact rfl)
   apply seq_plain; exact do_pick_t rfl rfl; exact rfl
   apply seq_plain; exact do_move rfl; exact rfl
   iterate 3 (apply seq_passed (hd := rfl) (hl := rfl) (hb := rfl); exact rfl)
   apply seq_plain; exact do_pick_t rfl rfl; exact rfl
   apply seq_nil
   exact jx_of true (fun e => by cases e) (by repeat (first | exact sub_nil | apply sub_cons rfl)) rfl
  have u3 : A.length ≤ 10 := by have := of_decide_eq_false u3; omega
  iterate 2 (apply seq_guard (hd := rfl) (hl := rfl); exact do_move rfl; exact rfl)
  apply seq_gcall (hg := rfl) (hl := rfl) (ht := rfl); exact sh _ _; exact rfl
  apply seq_guard (hd := rfl) (hl := rfl); exact do_unOp rfl rfl; exact rfl
  apply seq_plain; exact do_pick_f rfl rfl; exact rfl
  apply seq_plain; exact do_move rfl; exact rfl
  refine seq_gsplit rfl rfl (fun u4 => ?_) (fun u4 => ?_)
  ·apply seq_passed (hd := rfl) (hl := rfl) (hb := rfl); exact rfl
   iterate 3 (apply seq_passed (hd := rfl) (hl := rfl) (hb := rfl); exact rfl)
   apply seq_plain; exact do_pick_t rfl rfl; exact rfl
   apply seq_plain; exact do_move rfl; exact rfl
   iterate 6 (apply seq_passed (hd := rfl) (hl := rfl) (hb := rfl); exact rfl)
   apply seq_plain; exact do_pick_t rfl rfl; exact rfl
   apply seq_plain; exact do_move rfl; exact rfl
   iterate 3 (apply seq_passed (hd := rfl) (hl := rfl) (hb := rfl); exact rfl)
   apply seq_plain; exact do_pick_t rfl rfl; exact rfl
   apply seq_nil
   exact jx_of true (fun e => by cases e) (by repeat (first | exact sub_nil | apply sub_cons rfl)) rfl
  iterate 2 (apply seq_guard (hd := rfl) (hl := rfl); exact do_move rfl; exact rfl)
  apply seq_gcall (hg := rfl) (hl := rfl) (ht := rfl); exact refCheck_c (s2.ext (ext_Ext hc')) (by omega) (s1.ext (ext_Ext hc')) (by omega); exact rfl
  apply seq_guard (hd := rfl) (hl := rfl); exact do_binInt rfl rfl rfl trivial; exact rfl
  apply seq_plain; exact do_pick_f rfl rfl; exact rfl
  apply seq_plain; exact do_move rfl; exact rfl
  refine seq_gsplit rfl rfl (fun u5 => ?_) (fun u5 => ?_)
  ·apply seq_passed (hd := rfl) (hl := rfl) (hb := rfl); exact rfl
   iterate 5 (apply seq_passed (hd := rfl) (hl := rfl) (hb := rfl); exact rfl)
   apply seq_plain; exact do_pick_t rfl rfl; exact rfl
   apply seq_plain; exact do_move rfl; exact rfl
   iterate 3 (apply seq_passed (hd := rfl) (hl := rfl) (hb := rfl); exact rfl)
   apply seq_plain; exact do_pick_t rfl rfl; exact rfl
   apply seq_nil
   exact jx_of true (fun e => by cases e) (by repeat (first | exact sub_nil | apply sub_cons rfl)) rfl
  have u5 : bothE t l = 0 := by have u5 : (bothE t l != 0) = false := u5; simpa using u5
  iterate 2 (apply seq_guard (hd := rfl) (hl := rfl); exact do_move rfl; exact rfl)
  apply seq_guard (hd := rfl) (hl := rfl); exact do_fieldAddr rfl rfl; exact rfl
  apply seq_guard (hd := rfl) (hl := rfl); exact do_load rfl (by exact ext_get_old (by assumption) (by assumption)) rfl (by exact rfl); exact rfl
  apply seq_gcall (hg := rfl) (hl := rfl) (ht := rfl); exact rca u1 u2 u3 _ _; exact rfl
  apply seq_guard (hd := rfl) (hl := rfl); exact do_binInt rfl rfl rfl trivial; exact rfl
  apply seq_plain; exact do_pick_f rfl rfl; exact rfl
  apply seq_plain; exact do_move rfl; exact rfl
  refine seq_gsplit rfl rfl (fun u6 => ?_) (fun u6 => ?_)
  ·apply seq_passed (hd := rfl) (hl := rfl) (hb := rfl); exact rfl
   iterate 2 (apply seq_passed (hd := rfl) (hl := rfl) (hb := rfl); exact rfl)
   apply seq_plain; exact do_pick_t rfl rfl; exact rfl
   apply seq_nil
   exact jx_of true (fun e => by cases e) (by repeat (first | exact sub_nil | apply sub_cons rfl)) rfl
  have u6 : chkRef t l A = 0 := by have u6 : (chkRef t l A != 0) = false := u6; simpa using u6
  apply seq_guard (hd := rfl) (hl := rfl); exact do_fieldAddr rfl rfl; exact rfl
  apply seq_guard (hd := rfl) (hl := rfl); exact do_load rfl (by exact ext_get_old (by assumption) (by assumption)) rfl (by exact rfl); exact rfl
  apply seq_gcall (hg := rfl) (hl := rfl) (ht := rfl); exact outside24; exact rfl
  apply seq_plain; exact do_pick_f rfl rfl; exact rfl
  apply seq_nil
  refine jx_of (outL lim 1 999999999) (fun e => ?_) (by repeat (first | exact sub_nil | apply sub_cons rfl)) rfl
  unfold outL at e
  simp at e
  exact ⟨u1, u2, u3, u5, u6, by omega, by omega⟩
 ·rintro B hB
  cases B
  ·have hI := hB rfl
   refine ct_cond_f rfl rfl ?_
   have hcas : casE t l A = 0 := by rw [cas_ref hI.both]; exact hI.chk
   have hwx : wornX t l A lim = 0 := by
    unfold wornX
    rw [hcas, outL_in hI.lim1 hI.lim2]; rfl
   have hwo : wornO t l A lim = wornV t l A lim := if_neg (by rw [hwx]; simp)
   have k1 := hI.t5
   have k2 := hI.l8
   have k3 := hI.a10
   have cu := fun lo L => Used_c (H := ext h lo L) (c := c) (d := d) (e := g) ((hs.ext hE).ext (ext_Ext hc')) hlow (by omega) ((hr.ext hE).ext (ext_Ext hc')) hlow2 (by omega) ((hw.ext hE).ext (ext_Ext hc')) (by omega)
   have cw := fun lo L => Worn_c (H := ext h lo L) (c := c) (d := d) (e := g) (lim := lim) ((hs.ext hE).ext (ext_Ext hc')) hlow (by omega) ((hr.ext hE).ext (ext_Ext hc')) hlow2 (by omega) ((hw.ext hE).ext (ext_Ext hc')) (by omega) (fun _ => by omega)
   simp only [usedVal, usedH, hcas, if_true, ext_fresh, ext_add] at cu
   rw [hwo, hwx] at cw
   simp only [lstH_ext, ext_fresh] at cw
   apply ct_skip
   apply ct_seq
   apply ct_region
   apply seq_plain; exact do_move rfl; exact rfl
   apply seq_plain; exact do_fieldAddr rfl rfl; exact rfl
   apply seq_plain; exact do_load rfl (by exact ext_get_old (by assumption) (by assumption)) rfl (by exact rfl); exact rfl
   apply seq_plain; exact do_fieldAddr rfl rfl; exact rfl
   apply seq_plain; exact do_load rfl (by exact ext_get_old (by assumption) (by assumption)) rfl (by exact rfl); exact rfl
   apply seq_call (ht := rfl); exact cu _ _; exact rfl
   apply seq_plain; exact do_move rfl; exact rfl
   iterate 2 (apply seq_plain; exact do_extract rfl rfl; exact rfl)
   iterate 2 (apply seq_plain; exact do_assign rfl; exact rfl)
   apply seq_nil
   apply ct_seq
   apply ct_region
   apply seq_plain; exact do_move rfl; exact rfl
   apply seq_plain; exact do_fieldAddr rfl rfl; exact rfl
   apply seq_plain; exact do_load rfl (by exact ext_get_old (by assumption) (by assumption)) rfl (by exact rfl); exact rfl
   apply seq_plain; exact do_fieldAddr rfl rfl; exact rfl
   apply seq_plain; exact do_load rfl (by exact ext_get_old (by assumption) (by assumption)) rfl (by exact rfl); exact rfl
   apply seq_plain; exact do_fieldAddr rfl rfl; exact rfl
   apply seq_plain; exact do_load rfl (by exact ext_get_old (by assumption) (by assumption)) rfl (by exact rfl); exact rfl
   apply seq_call (ht := rfl); exact cw _ _; exact rfl
   apply seq_plain; exact do_move rfl; exact rfl
   iterate 2 (apply seq_plain; exact do_extract rfl rfl; exact rfl)
   iterate 2 (apply seq_plain; exact do_assign rfl; exact rfl)
   apply seq_nil
   iterate 2 (apply ct_seq)
   apply ct_region
   iterate 2 (apply seq_plain; exact do_move rfl; exact rfl)
   apply seq_plain; exact do_add rfl rfl (by omega); exact rfl
   apply seq_plain; exact do_binInt rfl rfl rfl trivial; exact rfl
   apply seq_plain; exact do_move rfl; exact rfl
   apply seq_guard (hd := rfl) (hl := rfl); exact do_move rfl; exact rfl
   apply seq_guard (hd := rfl) (hl := rfl); exact do_lenS rfl rfl rfl; exact rfl
   apply seq_guard (hd := rfl) (hl := rfl); exact do_move rfl; exact rfl
   apply seq_guard (hd := rfl) (hl := rfl); exact do_lenS rfl rfl rfl; exact rfl
   apply seq_guard (hd := rfl) (hl := rfl); exact do_binInt rfl rfl rfl trivial; exact rfl
   apply seq_plain; exact do_pick_f rfl rfl; exact rfl
   apply seq_plain; exact do_move rfl; exact rfl
   have en : ((t.length : Int) != (t.length : Int)) = false := by simp
   have ewl : (wornV t l A lim).length = t.length := by simp [wornV]
   rw [en]
   apply seq_guard (hd := rfl) (hl := rfl); exact do_move rfl; exact rfl
   apply seq_guard (hd := rfl) (hl := rfl); exact do_lenS rfl rfl rfl; exact rfl
   apply seq_guard (hd := rfl) (hl := rfl); exact do_move rfl; exact rfl
   apply seq_guard (hd := rfl) (hl := rfl); exact do_lenS rfl rfl rfl; exact rfl
   apply seq_guard (hd := rfl) (hl := rfl); exact do_binInt rfl rfl rfl trivial; exact rfl
   apply seq_plain; exact do_pick_f rfl rfl; exact rfl
   apply seq_nil
   rw [ewl, en]
   skip
   refine ct_cond_f rfl rfl ?_
   apply ct_skip
   apply ct_seq
   apply ct_region
   iterate 2 (apply seq_plain; exact do_assign rfl; exact rfl)
   apply seq_nil
   iterate 2 (apply ct_seq)
   apply ct_region
   apply seq_plain; exact do_move rfl; exact rfl
   apply seq_plain; exact do_lenS rfl rfl rfl; exact rfl
   apply seq_plain; exact do_move rfl; exact rfl
   apply seq_nil
   apply ct_block
   apply ct_loop
   obtain ⟨wp, hwp⟩ : ∃ wp, wp = lstP (nb h ([] ++ [some (ABlk.cells ((usedV t l A).map I) 1 false false)]).length) (wornV t l A lim) := ⟨_, rfl⟩
   obtain ⟨h2, hh2⟩ : ∃ h2, h2 = ext h (min H.fresh H.fresh) ([] ++ [some (ABlk.cells ((usedV t l A).map I) 1 false false)] ++ lstL 1 i1 (wornV t l A lim)) := ⟨_, rfl⟩
   have sW : SlAt h2 1 i1 wp (wornV t l A lim) := by rw [hh2, hwp]; exact lst_slAt (fun _ => rfl)
   have sU : SlAt h2 1 i1 (some ⟨nb h 0, 0, none⟩) (usedV t l A) := by
    rw [hh2]
    exact slAt_map (g := I) (ext_get_new (getApp rfl))
   have eL : lstV (nb h ([] ++ [some (ABlk.cells ((usedV t l A).map I) 1 false false)]).length) (wornV t l A lim) = .slice wp t.length t.length := by rw [hwp]; unfold lstV; rw [ewl]
   rw [eL]
   refine lt_to (l' := [(4, .pointer (some ⟨nb H 0, 0, none⟩)), (5, .pointer (some ⟨nb H 1, 0, none⟩)), (6, .bool false), (9, .slice (some ⟨nb h 0, 0, none⟩) t.length t.length), (11, .slice wp t.length t.length), (13, I 0), (14, I 0), (126, I t.length), (127, I 0)]) (h' := ext h2 (min (min H.fresh H.fresh) h.fresh) []) (by repeat (first | exact sub_nil | apply sub_cons rfl)) (by rw [hh2]; exact ext_base) ?_
   have hc2 : Closed h2 := by rw [hh2]; exact ext_closed hc'
   have hE2 : Ext h h2 := by rw [hh2]; exact ext_Ext hc'
   have hb0' := hE2 _ _ hb0
   have hb1' := hE2 _ _ hb1
   have hEH : Ext H h2 := hE.trans hE2
   have hrl := hr.ext hEH
   have hwA := hw.ext hEH
   have hG2 : Glo B0 h2 := by rw [hh2]; exact Glo.ext hG'
   obtain ⟨lo2, hlo2⟩ : ∃ lo2, lo2 = min (min H.fresh H.fresh) h.fresh := ⟨_, rfl⟩
   rw [← hlo2]
   clear hh2 hwp hlo2 eL cu cw aw sh rc rca hB hb0 hb1 s1 s2 hq'
   have hck : chkA t l A = 0 := (casE_ok hcas).2.2
   have hAl : A.length = l.length := (casE_ok hcas).2.1
   have hUl : (usedV t l A).length = t.length := useI_len
   have hbk := (both_ok hI.both).ok
   refine lt_meas (α := Nat × List (Option ABlk)) (fun s => [(4, .pointer (some ⟨nb H 0, 0, none⟩)), (5, .pointer (some ⟨nb H 1, 0, none⟩)), (6, .bool false), (9, .slice (some ⟨nb h 0, 0, none⟩) t.length t.length), (11, .slice wp t.length t.length), (13, I ((usedV t l A).take s.1).sum), (14, I 0), (126, I t.length), (127, I s.1)]) (fun s => ext h2 lo2 s.2) (fun s => s.1 ≤ t.length) (fun s => t.length - s.1) (fun s hi ih => ?_) (0, []) (Nat.zero_le _) (by repeat (first | exact sub_nil | apply sub_cons rfl)) (.refl _)
   obtain ⟨i, L⟩ := s
   have ih' := fun i' L' a1 a2 => ih (i', L') a1 a2
   simp only at hi ih'
   dsimp only
   clear ih
   have hubd := used_bd (A := A) hI.both k2
   have hSb := take_bd (by omega) hubd i (by omega)
   apply ct_seq
   apply ct_region
   apply seq_plain; exact do_binInt rfl rfl rfl trivial; exact rfl
   apply seq_nil
   apply ct_seq
   refine ct_cond rfl (fun h1 => ?_) (fun h1 => ?_)
   ·have h1 : i < t.length := by simpa using h1
    have hiU : i < (usedV t l A).length := by omega
    have hiW : i < (wornV t l A lim).length := by omega
    have T := tab_u hI.both hck hAl hI.lim1 i
    have eS := take_sum hiU
    obtain ⟨b1, o1, cs1, z1, s1', ro1, e1, hg1, hw1⟩ := sU.out (by intro e; rw [e] at hiU; simp at hiU)
    obtain ⟨b2, o2, cs2, z2, s2', ro2, rfl, hg2, hw2⟩ := sW.out (by intro e; rw [e] at hiW; simp at hiW)
    cases e1
    have hUb := hubd _ (List.getElem_mem hiU)
    have eU : (usedV t l A)[i] = sumB (ownB l A i l.length) := useI_own (fun j hj => (chkA_in hck (by omega) hj).1) hAl.symm _ (Nat.le_refl _) i h1
    have eW : (wornV t l A lim)[i] = wornK l A lim i := by simp [wornV]
    have Ta := T.low
    have Tb' := T.iff_
    rw [← eW, ← eU] at Tb'
    rw [← eW] at Ta
    obtain ⟨S, hS⟩ : ∃ S, S = ((usedV t l A).take i).sum := ⟨_, rfl⟩
    rw [← hS] at hSb eS ⊢
    apply ct_skip
    apply ct_seq
    apply ct_block
    apply ct_seq
    apply ct_region
    apply seq_plain; exact do_move rfl; exact rfl
    apply seq_plain; exact do_assign rfl; exact rfl
    apply seq_nil
    apply ct_seq
    apply ct_region
    iterate 3 (apply seq_plain; exact do_move rfl; exact rfl)
    apply seq_plain; exact do_indexAddrS rfl rfl rfl (by exact idx_nat (by omega)); exact rfl
    apply seq_plain; exact do_load rfl (by exact ext_get_old (by assumption) (by assumption)) rfl (by exact pt_sl0 (by assumption) (by omega)); exact rfl
    apply seq_plain; exact do_add rfl rfl (by omega); exact rfl
    apply seq_plain; exact do_assign rfl; exact rfl
    apply seq_nil
    iterate 2 (apply ct_seq)
    apply ct_draw (by assumption); decide +kernel
    iterate 2 (apply sd_plain (hfree := rfl); intro _; exact do_move rfl; exact rfl)
    apply sd_plain (hfree := rfl); intro _; exact do_indexAddrS rfl rfl rfl (by exact idx_nat (by omega)); exact rfl
    apply sd_look (hfree := rfl); exact do_load rfl (by exact ext_get_old (by assumption) (by assumption)) rfl (by exact pt_sl0 (by assumption) (by omega)); exact rfl
    apply sd_plain (hfree := rfl); intro _; exact do_binInt rfl rfl rfl trivial; exact rfl
    iterate 2 (apply sd_plain (hfree := rfl); intro _; exact do_move rfl; exact rfl)
    apply sd_plain (hfree := rfl); intro _; exact do_indexAddrS rfl rfl rfl (by exact idx_nat (by omega)); exact rfl
    apply sd_look (hfree := rfl); exact do_load rfl (by exact ext_get_old (by assumption) (by assumption)) rfl (by exact pt_sl0 (by assumption) (by omega)); exact rfl
    apply sd_plain (hfree := rfl); intro _; exact do_fieldAddr rfl rfl; exact rfl
    apply sd_look (hfree := rfl); exact do_load rfl (by exact ext_get_old (by assumption) (by assumption)) rfl (by exact rfl); exact rfl
    apply sd_plain (hfree := rfl); intro _; exact do_binInt rfl rfl rfl trivial; exact rfl
    obtain ⟨Wn, hWn⟩ : ∃ x, x = (wornV t l A lim)[i] := ⟨_, rfl⟩
    obtain ⟨Un, hUn⟩ : ∃ x, x = (usedV t l A)[i] := ⟨_, rfl⟩
    have Tc := T.cnt
    have Ti := T.ins
    have Td := T.bd
    rw [← eW, ← hWn] at Tc Ti Td
    rw [← hWn] at Ta Tb'
    rw [← hUn] at Tb' hUb eS
    rw [← hWn, ← hUn]
    have eXY : decide (Wn ≥ 0) = decide (Un ≥ lim) := by rw [Bool.eq_iff_iff, decide_eq_true_iff, decide_eq_true_iff]; exact Tb'
    have eN : (!(decide (Wn ≥ 0) == decide (Un ≥ lim))) = false := by rw [eXY]; simp
    have eW1 : decide (Wn < -1) = false := decide_eq_false (by omega)
    clear T
    apply sd_plain (hfree := rfl); intro _; exact do_neq rfl rfl trivial rfl; exact rfl
    rw [eN]
    apply sd_plain (hfree := rfl); intro _; exact do_move rfl; exact rfl
    iterate 2 (apply sd_guard (hfree := rfl) (hg := rfl) (hl := rfl); intro _; exact do_move rfl; exact rfl)
    apply sd_guard (hfree := rfl) (hg := rfl) (hl := rfl); intro _; exact do_indexAddrS rfl rfl rfl (by exact idx_nat (by omega)); exact rfl
    apply sd_guardL (hfree := rfl) (hg := rfl) (hl := rfl); exact do_load rfl (by exact ext_get_old (by assumption) (by assumption)) rfl (by exact pt_sl0 (by assumption) (by omega)); exact rfl
    apply sd_guard (hfree := rfl) (hg := rfl) (hl := rfl); intro _; exact do_binInt rfl rfl rfl trivial; exact rfl
    apply sd_plain (hfree := rfl); intro _; exact do_pick_f rfl rfl; exact rfl
    apply sd_nil
    rw [← hWn]
    refine ct_cond_f rfl eW1 ?_
    apply ct_skip
    apply ct_seq
    apply ct_region
    iterate 2 (apply seq_plain; exact do_assign rfl; exact rfl)
    apply seq_nil
    iterate 2 (apply ct_seq)
    apply ct_region
    apply seq_plain; exact do_fieldAddr rfl rfl; exact rfl
    apply seq_plain; exact do_load rfl (by exact ext_get_old (by assumption) (by assumption)) rfl (by exact rfl); exact rfl
    apply seq_plain; exact do_lenS rfl rfl rfl; exact rfl
    apply seq_plain; exact do_move rfl; exact rfl
    apply seq_nil
    apply ct_block
    apply ct_loop
    have hlim1 := hI.lim1
    have hlim2 := hI.lim2
    have hV : ∀ n : Nat, pt false n cs2 (o2 + i * 1) = some (I Wn) := fun n => by rw [hWn]; exact pt_sl0 (g := I) hw2 hiW
    simp only [List.map_nil, List.append_nil]
    refine lt_meas (α := Nat × List (Option ABlk)) (fun s => [(4, .pointer (some ⟨nb H 0, 0, none⟩)), (5, .pointer (some ⟨nb H 1, 0, none⟩)), (6, .bool false), (9, .slice (some ⟨nb h 0, 0, none⟩) t.length t.length), (11, .slice (some ⟨b2, o2, none⟩) t.length t.length), (13, I (S + Un)), (14, I 0), (15, I i), (16, I (cntL Wn (ownB l A i s.1))), (17, .bool ((ownB l A i s.1).any (insW Wn))), (126, I t.length), (127, I i), (157, .slice r l.length d), (158, I l.length), (159, I s.1)]) (fun s => ext h2 lo2 s.2) (fun s => s.1 ≤ l.length) (fun s => l.length - s.1) (fun s hk ihk => ?_) (0, L) (Nat.zero_le _) (by repeat (first | exact sub_nil | apply sub_cons rfl)) (.refl _)
    obtain ⟨k, L'⟩ := s
    have ihk' := fun k' L' a1 a2 => ihk (k', L') a1 a2
    simp only at hk ihk'
    dsimp only
    clear ihk
    apply ct_seq
    apply ct_region
    apply seq_plain; exact do_binInt rfl rfl rfl trivial; exact rfl
    apply seq_nil
    apply ct_seq
    refine ct_cond rfl (fun h3 => ?_) (fun h3 => ?_)
    ·have h3 : k < l.length := by simpa using h3
     obtain ⟨b3, o3, cs3, z3, s3', ro3, rfl, hg3, hw3⟩ := hrl.out (by intro e; rw [e] at h3; simp at h3)
     obtain ⟨b4, o4, cs4, z4, s4', ro4, rfl, hg4, hw4⟩ := hwA.out (by intro e; rw [e] at hAl; simp at hAl; omega)
     have hkA : k < A.length := by omega
     have hxk := hbk l[k] (List.getElem_mem h3)
     apply ct_skip
     apply ct_seq
     apply ct_block
     apply ct_seq
     apply ct_region
     apply seq_plain; exact do_move rfl; exact rfl
     apply seq_plain; exact do_indexAddrS rfl rfl rfl (by exact idx_nat (by omega)); exact rfl
     apply seq_plain; exact do_load rfl (by exact ext_get_old (by assumption) (by assumption)) rfl (by exact pt_sl (by assumption) (by omega)); exact rfl
     apply seq_newP; exact do_alloc rfl rfl; exact rfl
     apply seq_plain; exact do_assign rfl; exact rfl
     apply seq_putC (hc := by assumption); rotate_left; exact do_store rfl rfl (by exact ext_get_new List.getElem?_concat_length) rfl rfl (nb_own _); rotate_left; exact (by simp)
     apply ct_seq
     apply ct_draw (by assumption); decide +kernel
     apply sd_plain (hfree := rfl); intro _; exact do_fieldAddr rfl rfl; exact rfl
     apply sd_look (hfree := rfl); exact do_load rfl (by exact ext_get_old (by assumption) (by assumption)) rfl (by exact rfl); exact rfl
     apply sd_plain (hfree := rfl); intro _; exact do_move rfl; exact rfl
     apply sd_plain (hfree := rfl); intro _; exact do_indexAddrS rfl rfl rfl (by exact idx_nat (by omega)); exact rfl
     apply sd_look (hfree := rfl); exact do_load rfl (by exact ext_get_old (by assumption) (by assumption)) rfl (by exact pt_sl0 (by assumption) (by omega)); exact rfl
     apply sd_plain (hfree := rfl); intro _; exact do_move rfl; exact rfl
     apply sd_plain (hfree := rfl); intro _; exact do_binInt rfl rfl rfl trivial; exact rfl
     apply sd_plain (hfree := rfl); intro _; exact do_move rfl; exact rfl
     rw [set_mid rfl]
     have g5 : (L' ++ [some (ABlk.cells (bk l[k]) 0 false false)])[L'.length]? = some (some (.cells (bk l[k]) 0 false false)) := List.getElem?_concat_length
     have f0k := hxk.f0
     have f1k := hxk.lt
     have f2k := hxk.t1
     have hown : ∀ x ∈ ownB l A i k, BkOk x := fun x hx => hbk x (ownB_mem k x hx)
     have hcb := cntL_bd (w := Wn) hown
     have hol := ownB_len (l := l) (A := A) (n := i) k
     have eos := ownB_succ (l := l) (A := A) (n := i) h3
     have eAk : A[k]? = some A[k] := List.getElem?_eq_getElem hkA
     obtain ⟨Z, hZ⟩ : ∃ Z, Z = ((A[k] == (i : Int)) && decide (l[k].frm ≤ Wn)) := ⟨_, rfl⟩
     obtain ⟨C, hC⟩ : ∃ C, C = cntL Wn (ownB l A i k) := ⟨_, rfl⟩
     obtain ⟨N, hN⟩ : ∃ N, N = (ownB l A i k).any (insW Wn) := ⟨_, rfl⟩
     have hcb2 : 0 ≤ C ∧ C ≤ 800000 := by rw [hC]; omega
     rw [← hC, ← hN]
     clear hs hr hw hlow hlow2 hq haw hrl hwA hn hm hA hubd hUb hown hcb hol Ta Tb' eXY eN eW1 sU sW
     refine sd_J [(4, .pointer (some ⟨nb H 0, 0, none⟩)), (5, .pointer (some ⟨nb H 1, 0, none⟩)), (6, .bool false), (9, .slice (some ⟨nb h 0, 0, none⟩) t.length t.length), (11, .slice (some ⟨b2, o2, none⟩) t.length t.length), (13, I (S + Un)), (14, I 0), (15, I i), (16, I C), (17, .bool N), (19, .pointer (some ⟨nb h2 L'.length, 0, none⟩)), (126, I t.length), (127, I i), (157, .slice (some ⟨b3, o3, none⟩) l.length d), (158, I l.length), (159, I k), (179, .bool Z)] (ds := []) (h := ext h2 lo2 (L' ++ [some (.cells (bk l[k]) 0 false false)])) ?_ ?_
     ·refine sd_gsplit rfl rfl (fun v1 => ?_) (fun v1 => ?_)
      ·have v1 : (A[k] == (i : Int)) = true := v1
       have eZ : Z = decide (l[k].frm ≤ Wn) := by rw [hZ, v1]; rfl
       rw [eZ]
       apply sd_guard (hfree := rfl) (hg := rfl) (hl := rfl); intro _; exact do_fieldAddr rfl rfl; exact rfl
       apply sd_guardL (hfree := rfl) (hg := rfl) (hl := rfl); exact do_load rfl (by exact ext_get_new (getApp (by assumption))) rfl (by exact rfl); exact rfl
       iterate 2 (apply sd_guard (hfree := rfl) (hg := rfl) (hl := rfl); intro _; exact do_move rfl; exact rfl)
       apply sd_guard (hfree := rfl) (hg := rfl) (hl := rfl); intro _; exact do_indexAddrS rfl rfl rfl (by exact idx_nat (by omega)); exact rfl
       apply sd_guardL (hfree := rfl) (hg := rfl) (hl := rfl); exact do_load rfl (by exact ext_get_old (by assumption) (by assumption)) rfl (by exact pt_sl0 (by assumption) (by omega)); exact rfl
       apply sd_guard (hfree := rfl) (hg := rfl) (hl := rfl); intro _; exact do_binInt rfl rfl rfl trivial; exact rfl
       apply sd_plain (hfree := rfl); intro _; exact do_pick_t rfl rfl; exact rfl
       apply sd_nil
       simp only [List.map_nil, List.append_nil]
       rw [← hWn]
       exact jp_of (by repeat (first | exact sub_nil | apply sub_cons rfl))
      ·have v1 : (A[k] == (i : Int)) = false := v1
       have eZ : Z = false := by rw [hZ, v1]; rfl
       rw [eZ]
       iterate 7 (apply sd_passed (hg := rfl) (hl := rfl) (hb := rfl); exact rfl)
       apply sd_plain (hfree := rfl); intro _; exact do_pick_f rfl rfl; exact rfl
       apply sd_nil
       simp only [List.map_nil, List.append_nil]
       exact jp_of (by repeat (first | exact sub_nil | apply sub_cons rfl))
     refine ct_JXE (ds := []) (α := Int × Bool) (fun s => [(4, .pointer (some ⟨nb H 0, 0, none⟩)), (5, .pointer (some ⟨nb H 1, 0, none⟩)), (6, .bool false), (9, .slice (some ⟨nb h 0, 0, none⟩) t.length t.length), (11, .slice (some ⟨b2, o2, none⟩) t.length t.length), (13, I (S + Un)), (14, I 0), (15, I i), (16, I s.1), (17, .bool s.2), (19, .pointer (some ⟨nb h2 L'.length, 0, none⟩)), (126, I t.length), (127, I i), (157, .slice (some ⟨b3, o3, none⟩) l.length d), (158, I l.length), (159, I k)]) (fun _ => ext h2 lo2 (L' ++ [some (.cells (bk l[k]) 0 false false)])) (fun s => s.1 = cntL Wn (ownB l A i (k + 1)) ∧ s.2 = (ownB l A i (k + 1)).any (insW Wn)) ?_ ?_
     ·refine ct_cond rfl (fun v2 => ?_) (fun v2 => ?_)
      ·have v2 : Z = true := v2
       rw [hZ, Bool.and_eq_true, decide_eq_true_iff] at v2
       have eA : A[k]? = some (i : Int) := by rw [eAk]; congr 1; simpa using v2.1
       rw [if_pos eA] at eos
       have ec : cntL Wn (ownB l A i (k + 1)) = C + (min l[k].to (Wn + 1) - l[k].frm) := by
        rw [eos, hC]
        unfold cntL
        rw [List.map_append, List.sum_append]
        simp only [List.map_cons, List.map_nil, List.sum_cons, List.sum_nil, cntW]
        rw [if_pos v2.2]; omega
       have ei : (ownB l A i (k + 1)).any (insW Wn) = (N || decide (Wn < l[k].to)) := by
        rw [eos, hN, List.any_append]
        simp [insW, v2.2]
       apply ct_seq
       apply ct_draw (by assumption); decide +kernel
       apply sd_plain (hfree := rfl); intro _; exact do_move rfl; exact rfl
       apply sd_plain (hfree := rfl); intro _; exact do_fieldAddr rfl rfl; exact rfl
       apply sd_look (hfree := rfl); exact do_load rfl (by exact ext_get_new (getApp (by assumption))) rfl (by exact rfl); exact rfl
       iterate 2 (apply sd_plain (hfree := rfl); intro _; exact do_move rfl; exact rfl)
       apply sd_plain (hfree := rfl); intro _; exact do_indexAddrS rfl rfl rfl (by exact idx_nat (by omega)); exact rfl
       apply sd_look (hfree := rfl); exact do_load rfl (by exact ext_get_old (by assumption) (by assumption)) rfl (by exact pt_sl0 (by assumption) (by omega)); exact rfl
       apply sd_plain (hfree := rfl); intro _; exact do_add rfl rfl (by omega); exact rfl
       apply sd_look (hfree := rfl); exact do_min rfl; exact rfl
       apply sd_plain (hfree := rfl); intro _; exact do_fieldAddr rfl rfl; exact rfl
       apply sd_look (hfree := rfl); exact do_load rfl (by exact ext_get_new (getApp (by assumption))) rfl (by exact rfl); exact rfl
       apply sd_plain (hfree := rfl); intro _; exact do_sub rfl rfl (by omega); exact rfl
       apply sd_plain (hfree := rfl); intro _; exact do_add rfl rfl (by omega); exact rfl
       apply sd_plain (hfree := rfl); intro _; exact do_assign rfl; exact rfl
       apply sd_nil
       apply ct_draw (by assumption); decide +kernel
       iterate 2 (apply sd_plain (hfree := rfl); intro _; exact do_move rfl; exact rfl)
       rw [← hWn]
       refine sd_gsplit rfl rfl (fun v3 => ?_) (fun v3 => ?_)
       ·have v3 : N = true := v3
        iterate 7 (apply sd_passed (hg := rfl) (hl := rfl) (hb := rfl); exact rfl)
        apply sd_plain (hfree := rfl); intro _; exact do_pick_t rfl rfl; exact rfl
        apply sd_plain (hfree := rfl); intro _; exact do_assign rfl; exact rfl
        apply sd_nil
        simp only [List.map_nil, List.append_nil]
        exact jx_of (C + (min l[k].to (Wn + 1) - l[k].frm), true) ⟨ec.symm, by rw [ei, v3]; rfl⟩ (by repeat (first | exact sub_nil | apply sub_cons rfl)) rfl
       ·have v3 : N = false := v3
        iterate 2 (apply sd_guard (hfree := rfl) (hg := rfl) (hl := rfl); intro _; exact do_move rfl; exact rfl)
        apply sd_guard (hfree := rfl) (hg := rfl) (hl := rfl); intro _; exact do_indexAddrS rfl rfl rfl (by exact idx_nat (by omega)); exact rfl
        apply sd_guardL (hfree := rfl) (hg := rfl) (hl := rfl); exact do_load rfl (by exact ext_get_old (by assumption) (by assumption)) rfl (by exact pt_sl0 (by assumption) (by omega)); exact rfl
        apply sd_guard (hfree := rfl) (hg := rfl) (hl := rfl); intro _; exact do_fieldAddr rfl rfl; exact rfl
        apply sd_guardL (hfree := rfl) (hg := rfl) (hl := rfl); exact do_load rfl (by exact ext_get_new (getApp (getApp (by assumption)))) rfl (by exact rfl); exact rfl
        apply sd_guard (hfree := rfl) (hg := rfl) (hl := rfl); intro _; exact do_binInt rfl rfl rfl trivial; exact rfl
        apply sd_plain (hfree := rfl); intro _; exact do_pick_f rfl rfl; exact rfl
        apply sd_plain (hfree := rfl); intro _; exact do_assign rfl; exact rfl
        apply sd_nil
        simp only [List.map_nil, List.append_nil]
        rw [← hWn]
        exact jx_of (C + (min l[k].to (Wn + 1) - l[k].frm), decide (Wn < l[k].to)) ⟨ec.symm, by rw [ei, v3]; rfl⟩ (by repeat (first | exact sub_nil | apply sub_cons rfl)) rfl
      ·have v2 : Z = false := v2
       have ec : cntL Wn (ownB l A i (k + 1)) = C ∧ (ownB l A i (k + 1)).any (insW Wn) = N := by
        rw [hZ] at v2
        by_cases e : A[k]? = some (i : Int)
        ·rw [if_pos e] at eos
         have e2 : A[k] = (i : Int) := by rw [eAk, Option.some.injEq] at e; exact e
         have e3 : ¬ l[k].frm ≤ Wn := by
          simp only [e2, beq_self_eq_true, Bool.true_and, decide_eq_false_iff_not] at v2; exact v2
         rw [eos, hC, hN]
         unfold cntL
         rw [List.map_append, List.sum_append, List.any_append]
         simp only [List.map_cons, List.map_nil, List.sum_cons, List.sum_nil, cntW, List.any_cons, List.any_nil, insW]
         rw [if_neg e3, decide_eq_false e3]
         simp
        ·rw [if_neg e] at eos
         rw [eos, hC, hN]; exact ⟨rfl, rfl⟩
       apply ct_skip
       exact jx_of (C, N) ⟨ec.1.symm, ec.2.symm⟩ (by repeat (first | exact sub_nil | apply sub_cons rfl)) rfl
     ·rintro ⟨C2, N2⟩ ⟨hC2, hN2⟩
      dsimp only at hC2 hN2 ⊢
      apply ct_region
      apply seq_plain; exact do_succ rfl (by omega); exact rfl
      apply seq_plain; exact do_move rfl; exact rfl
      apply seq_nil
      rw [hC2, hN2]
      exact lt_to (by repeat (first | exact sub_nil | apply sub_cons rfl)) (.refl _) (ihk' (k + 1) _ (by omega) (by omega))
    ·have h3 : k = l.length := by simp at h3; omega
     subst h3
     apply ct_exit
     apply exit_eq; exact rfl
     apply ct_seq
     apply ct_region
     iterate 2 (apply seq_plain; exact do_move rfl; exact rfl)
     apply seq_plain; exact do_indexAddrS rfl rfl rfl (by exact idx_nat (by omega)); exact rfl
     apply seq_plain; exact do_load rfl (by exact ext_get_old (by assumption) (by assumption)) rfl (by exact pt_sl0 (by assumption) (by omega)); exact rfl
     apply seq_plain; exact do_binInt rfl rfl rfl trivial; exact rfl
     apply seq_plain; exact do_move rfl; exact rfl
     rw [← hWn]
     by_cases hW0 : 0 ≤ Wn
     ·have eg : decide (Wn ≥ 0) = true := decide_eq_true hW0
      have en2 : (lim != lim) = false := by simp
      rw [eg, Tc hW0, Ti hW0]
      apply seq_guard (hd := rfl) (hl := rfl); exact do_move rfl; exact rfl
      apply seq_guard (hd := rfl) (hl := rfl); exact do_unOp rfl rfl; exact rfl
      iterate 2 (apply seq_guard (hd := rfl) (hl := rfl); exact do_move rfl; exact rfl)
      apply seq_guard (hd := rfl) (hl := rfl); exact do_fieldAddr rfl rfl; exact rfl
      apply seq_guard (hd := rfl) (hl := rfl); exact do_load rfl (by exact ext_get_old (by assumption) (by assumption)) rfl (by exact rfl); exact rfl
      apply seq_guard (hd := rfl) (hl := rfl); exact do_binInt rfl rfl rfl trivial; exact rfl
      apply seq_guard (hd := rfl) (hl := rfl); exact do_pick_f rfl rfl; exact rfl
      apply seq_plain; exact do_pick_t rfl rfl; exact rfl
      apply seq_nil
      rw [en2]
      skip
      refine ct_cond_f rfl rfl ?_
      apply ct_skip
      apply ct_region
      apply seq_plain; exact do_succ rfl (by omega); exact rfl
      apply seq_plain; exact do_move rfl; exact rfl
      apply seq_nil
      rw [← eS]
      exact lt_to (by repeat (first | exact sub_nil | apply sub_cons rfl)) (.refl _) (ih' (i + 1) _ (by omega) (by omega))
     ·have eg : decide (Wn ≥ 0) = false := decide_eq_false hW0
      rw [eg]
      iterate 3 (apply seq_passed (hd := rfl) (hl := rfl) (hb := rfl); exact rfl)
      iterate 4 (apply seq_passedU (hd := rfl) (hl := rfl); exact rfl)
      apply seq_passed (hd := rfl) (hl := rfl) (hb := rfl); exact rfl
      apply seq_plain; exact do_pick_f rfl rfl; exact rfl
      apply seq_nil
      refine ct_cond_f rfl rfl ?_
      apply ct_skip
      apply ct_region
      apply seq_plain; exact do_succ rfl (by omega); exact rfl
      apply seq_plain; exact do_move rfl; exact rfl
      apply seq_nil
      rw [← eS]
      exact lt_to (by repeat (first | exact sub_nil | apply sub_cons rfl)) (.refl _) (ih' (i + 1) _ (by omega) (by omega))
   ·have h1 : i = t.length := by simp at h1; omega
    subst h1
    have eT : ((usedV t l A).take t.length).sum = sumB l := by rw [← hUl, List.take_length]; exact use_all hck hAl
    rw [eT]
    apply ct_exit
    apply exit_eq
    ·exact rfl
    refine ct_to (l' := [(4, .pointer (some ⟨nb H 0, 0, none⟩)), (5, .pointer (some ⟨nb H 1, 0, none⟩)), (6, .bool false), (13, I (sumB l)), (14, I 0)]) (h' := ext (ext h2 lo2 L) (min lo2 h2.fresh) []) (by repeat (first | exact sub_nil | apply sub_cons rfl)) ext_base ?_
    have hE3 := ext_Ext (lo := lo2) (L := L) hc2
    exact sums_w hc (ext_closed hc2) (hEH.trans hE3) (Glo.ext hG2) (hE3 _ _ hb0') (hE3 _ _ hb1') hI.lim1 hI.lim2 (hrl.ext hE3) k2 hbk
  ·refine ct_cond_t rfl rfl ?_
   apply ct_seq
   apply ct_region
   apply seq_call (ht := rfl); exact aw _ _; exact rfl
   apply seq_plain; exact do_assign rfl; exact rfl
   apply seq_nil
   apply ct_ret
   exact fin_flatB hc hc' hE rfl rfl ⟨rfl, rfl⟩
end Go.Proofs.YtmcecjplgalcgaaGreatDoor
