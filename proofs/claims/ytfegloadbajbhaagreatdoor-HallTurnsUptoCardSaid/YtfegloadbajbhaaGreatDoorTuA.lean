/- HallTurns: the law's own walk. -/
import Derived.Test.YtfegloadbajbhaaGreatDoorTuL
import Derived.Test.YtfegloadbajbhaaGreatDoorSvD
import Derived.Test.YtfegloadbajbhaaGreatDoorSvE
import Derived.Test.YtfegloadbajbhaaGreatDoorFitB
noncomputable section
namespace Go.Proofs.YtfegloadbajbhaaGreatDoor
open Go Go.Den
set_option maxRecDepth 100000
structure TurIn (t : List Tb) (l : List Bk) (w : List Rq) : Prop where
  tl : t.length ≤ 4
  ll : l.length ≤ 6
  wl : w.length ≤ 6
  both : bothE t l = 0
  que : quesE t w = 0
set_option maxHeartbeats 16000000 in
theorem turns_w {H : AHeap} {q r p : Option Addr} {c d e : Nat} {t : List Tb} {l : List Bk} {w : List Rq} (haw : ∀ h, Ext H h → Ret Tryz.prog 17 [] h (.bool true) h) (hs : SlAt H 2 tb q t) (hlow : LowS q c t.length) (hn : t.length ≤ 1048576) (hr : SlAt H 4 bk r l) (hlow2 : LowS r d l.length) (hq : OldS H r) (hbl : BlkS H r) (hd : r = none → d = 0) (hm : l.length ≤ 1048576) (hw : SlAt H 4 rq p w) (hlow3 : LowS p e w.length) (hk : w.length ≤ 1048576) :
    Ret Tryz.prog 12 [.slice q t.length c, .slice r l.length d, .slice p w.length e] H (.bool true) H := by
  refine fn_start Tryz.func12 rfl rfl rfl fun hc => ?_
  have c1 := fun L => own_c (c := c) (d := d) (hs.ext (ext_Ext hc (lo := H.fresh) (L := L))) (by omega) (hr.ext (ext_Ext hc (lo := H.fresh) (L := L))) (by omega)
  have c2 := fun L => ownRq_c (c := e) (hw.ext (ext_Ext hc (lo := H.fresh) (L := L))) (by omega)
  simp only [lstH_ext, ext_fresh] at c1 c2
  apply ct_seq
  apply ct_region
  apply seq_plain; exact do_assign rfl; exact rfl
  apply seq_nil
  apply ct_seq
  apply ct_region
  apply seq_plain; exact do_move rfl; exact rfl
  apply seq_plain; exact do_move rfl; exact rfl
  apply seq_call (ht := rfl); exact c1 []; exact rfl
  apply seq_plain; exact do_move rfl; exact rfl
  apply seq_plain; exact do_extract rfl rfl; exact rfl
  apply seq_plain; exact do_extract rfl rfl; exact rfl
  apply seq_plain; exact do_assign rfl; exact rfl
  apply seq_plain; exact do_assign rfl; exact rfl
  apply seq_nil
  apply ct_seq
  apply ct_region
  apply seq_plain; exact do_move rfl; exact rfl
  apply seq_call (ht := rfl); exact c2 _; exact rfl
  obtain ⟨x, hx⟩ : ∃ x, x = lstP (nb H ([] : List (Option ABlk)).length) t := ⟨_, rfl⟩
  obtain ⟨y, hy⟩ : ∃ y, y = lstP (nb H (([] : List (Option ABlk)) ++ lstL 2 tb t).length) l := ⟨_, rfl⟩
  obtain ⟨z, hz⟩ : ∃ z, z = lstP (nb H (([] : List (Option ABlk)) ++ lstL 2 tb t ++ lstL 4 bk l).length) w := ⟨_, rfl⟩
  have s3 : SlAt (ext H H.fresh ([] ++ lstL 2 tb t ++ lstL 4 bk l ++ lstL 4 rq w)) 4 rq z w := by rw [hz]; exact lst_slAt rq_len
  have s1 : SlAt (ext H H.fresh ([] ++ lstL 2 tb t ++ lstL 4 bk l ++ lstL 4 rq w)) 4 bk y l := by
    have := lst_slAt (H := H) (lo := H.fresh) (L := [] ++ lstL 2 tb t) (m := 4) (f := bk) (l := l) bk_len
    rw [hy]
    exact this.ext (ext_more hc)
  have s2 : SlAt (ext H H.fresh ([] ++ lstL 2 tb t ++ lstL 4 bk l ++ lstL 4 rq w)) 2 tb x t := by
    have := lst_slAt (H := H) (lo := H.fresh) (L := []) (m := 2) (f := tb) (l := t) tb_len
    rw [hx]
    exact (this.ext (ext_more hc (lo' := H.fresh) (M := lstL 4 bk l))).ext (ext_more hc)
  refine seqL_to (l' := [(0, .slice q t.length c), (1, .slice r l.length d), (2, .slice p w.length e), (6, .bool false), (7, .slice x t.length t.length), (8, .slice y l.length l.length), (32, .slice z w.length w.length)]) (by rw [hx, hy, hz]; repeat (first | exact sub_nil | apply sub_cons rfl)) ext_base (by simp) ?_
  obtain ⟨h, hh⟩ : ∃ h, h = ext H H.fresh ([] ++ lstL 2 tb t ++ lstL 4 bk l ++ lstL 4 rq w) := ⟨_, rfl⟩
  have hc' : Closed h := by rw [hh]; exact ext_closed hc
  have hE : Ext H h := by rw [hh]; exact ext_Ext hc
  have hq' : OldS h r := by rw [hh]; exact hq.ext
  have hbl' := hbl.ext hE
  rw [← hh] at s1 s2 s3 ⊢
  clear hh hx hy hz c1 c2
  have aw := fun lo L => haw _ (hE.trans (ext_Ext (lo := lo) (L := L) hc'))
  have sh := fun lo L => short_c (d := l.length) (c := t.length) (e := w.length) (s2.ext (ext_Ext (lo := lo) (L := L) hc')) (by omega) (s1.ext (ext_Ext (lo := lo) (L := L) hc')) (by omega) (s3.ext (ext_Ext (lo := lo) (L := L) hc')) (by omega)
  obtain ⟨T, hT⟩ : ∃ T, T = (((((decide ((t.length : Int) > 4) || decide ((l.length : Int) > 6)) || decide ((w.length : Int) > 6)) || !shortH t l w) || (bothE t l != 0)) || (quesE t w != 0)) := ⟨_, rfl⟩
  apply seq_plain; exact do_assign rfl; exact rfl
  apply seq_nil
  apply ct_seq
  apply ct_seq
  apply ct_region
  apply seq_call (ht := rfl); exact aw _ _; exact rfl
  apply seq_plain; exact do_unOp rfl rfl; exact rfl
  apply seq_plain; exact do_move rfl; exact rfl
  apply seq_guard (hd := rfl) (hl := rfl); exact do_move rfl; exact rfl
  apply seq_guard (hd := rfl) (hl := rfl); exact do_lenS rfl rfl rfl; exact rfl
  apply seq_guard (hd := rfl) (hl := rfl); exact do_binInt rfl rfl rfl trivial; exact rfl
  apply seq_plain; exact do_pick_f rfl rfl; exact rfl
  apply seq_plain; exact do_move rfl; exact rfl
  refine seq_J [(0, .slice q t.length c), (1, .slice r l.length d), (2, .slice p w.length e), (68, .bool T)] (ds := []) (h := ext h (min H.fresh H.fresh) []) ?_ ?_
  · refine seq_gsplit rfl rfl (fun u1 => ?_) (fun u1 => ?_)
    · have u1 : decide ((t.length : Int) > 4) = true := u1
      have e : T = true := by rw [hT, u1]; rfl
      rw [e]
      apply seq_passed (hd := rfl) (hl := rfl) (hb := rfl); exact rfl
      apply seq_passed (hd := rfl) (hl := rfl) (hb := rfl); exact rfl
      apply seq_passed (hd := rfl) (hl := rfl) (hb := rfl); exact rfl
      apply seq_plain; exact do_pick_t rfl rfl; exact rfl
      apply seq_plain; exact do_move rfl; exact rfl
      apply seq_passed (hd := rfl) (hl := rfl) (hb := rfl); exact rfl
      apply seq_passed (hd := rfl) (hl := rfl) (hb := rfl); exact rfl
      apply seq_passed (hd := rfl) (hl := rfl) (hb := rfl); exact rfl
      apply seq_plain; exact do_pick_t rfl rfl; exact rfl
      apply seq_plain; exact do_move rfl; exact rfl
      apply seq_passed (hd := rfl) (hl := rfl) (hb := rfl); exact rfl
      apply seq_passed (hd := rfl) (hl := rfl) (hb := rfl); exact rfl
      apply seq_passed (hd := rfl) (hl := rfl) (hb := rfl); exact rfl
      apply seq_passed (hd := rfl) (hl := rfl) (hb := rfl); exact rfl
      apply seq_passed (hd := rfl) (hl := rfl) (hb := rfl); exact rfl
      apply seq_plain; exact do_pick_t rfl rfl; exact rfl
      apply seq_plain; exact do_move rfl; exact rfl
      apply seq_passed (hd := rfl) (hl := rfl) (hb := rfl); exact rfl
      apply seq_passed (hd := rfl) (hl := rfl) (hb := rfl); exact rfl
      apply seq_passed (hd := rfl) (hl := rfl) (hb := rfl); exact rfl
      apply seq_passed (hd := rfl) (hl := rfl) (hb := rfl); exact rfl
      apply seq_plain; exact do_pick_t rfl rfl; exact rfl
      apply seq_plain; exact do_move rfl; exact rfl
      apply seq_passed (hd := rfl) (hl := rfl) (hb := rfl); exact rfl
      apply seq_passed (hd := rfl) (hl := rfl) (hb := rfl); exact rfl
      apply seq_passed (hd := rfl) (hl := rfl) (hb := rfl); exact rfl
      apply seq_passed (hd := rfl) (hl := rfl) (hb := rfl); exact rfl
      apply seq_plain; exact do_pick_t rfl rfl; exact rfl
      apply seq_nil
      exact jp_of (by repeat (first | exact sub_nil | apply sub_cons rfl))
    have u1 : decide ((t.length : Int) > 4) = false := u1
    apply seq_guard (hd := rfl) (hl := rfl); exact do_move rfl; exact rfl
    apply seq_guard (hd := rfl) (hl := rfl); exact do_lenS rfl rfl rfl; exact rfl
    apply seq_guard (hd := rfl) (hl := rfl); exact do_binInt rfl rfl rfl trivial; exact rfl
    apply seq_plain; exact do_pick_f rfl rfl; exact rfl
    apply seq_plain; exact do_move rfl; exact rfl
    refine seq_gsplit rfl rfl (fun u2 => ?_) (fun u2 => ?_)
    · have u2 : decide ((l.length : Int) > 6) = true := u2
      have e : T = true := by rw [hT, u1, u2]; rfl
      rw [e]
      apply seq_passed (hd := rfl) (hl := rfl) (hb := rfl); exact rfl
      apply seq_passed (hd := rfl) (hl := rfl) (hb := rfl); exact rfl
      apply seq_passed (hd := rfl) (hl := rfl) (hb := rfl); exact rfl
      apply seq_plain; exact do_pick_t rfl rfl; exact rfl
      apply seq_plain; exact do_move rfl; exact rfl
      apply seq_passed (hd := rfl) (hl := rfl) (hb := rfl); exact rfl
      apply seq_passed (hd := rfl) (hl := rfl) (hb := rfl); exact rfl
      apply seq_passed (hd := rfl) (hl := rfl) (hb := rfl); exact rfl
      apply seq_passed (hd := rfl) (hl := rfl) (hb := rfl); exact rfl
      apply seq_passed (hd := rfl) (hl := rfl) (hb := rfl); exact rfl
      apply seq_plain; exact do_pick_t rfl rfl; exact rfl
      apply seq_plain; exact do_move rfl; exact rfl
      apply seq_passed (hd := rfl) (hl := rfl) (hb := rfl); exact rfl
      apply seq_passed (hd := rfl) (hl := rfl) (hb := rfl); exact rfl
      apply seq_passed (hd := rfl) (hl := rfl) (hb := rfl); exact rfl
      apply seq_passed (hd := rfl) (hl := rfl) (hb := rfl); exact rfl
      apply seq_plain; exact do_pick_t rfl rfl; exact rfl
      apply seq_plain; exact do_move rfl; exact rfl
      apply seq_passed (hd := rfl) (hl := rfl) (hb := rfl); exact rfl
      apply seq_passed (hd := rfl) (hl := rfl) (hb := rfl); exact rfl
      apply seq_passed (hd := rfl) (hl := rfl) (hb := rfl); exact rfl
      apply seq_passed (hd := rfl) (hl := rfl) (hb := rfl); exact rfl
      apply seq_plain; exact do_pick_t rfl rfl; exact rfl
      apply seq_nil
      exact jp_of (by repeat (first | exact sub_nil | apply sub_cons rfl))
    have u2 : decide ((l.length : Int) > 6) = false := u2
    apply seq_guard (hd := rfl) (hl := rfl); exact do_move rfl; exact rfl
    apply seq_guard (hd := rfl) (hl := rfl); exact do_lenS rfl rfl rfl; exact rfl
    apply seq_guard (hd := rfl) (hl := rfl); exact do_binInt rfl rfl rfl trivial; exact rfl
    apply seq_plain; exact do_pick_f rfl rfl; exact rfl
    apply seq_plain; exact do_move rfl; exact rfl
    refine seq_gsplit rfl rfl (fun u3 => ?_) (fun u3 => ?_)
    · have u3 : decide ((w.length : Int) > 6) = true := u3
      have e : T = true := by rw [hT, u1, u2, u3]; rfl
      rw [e]
      apply seq_passed (hd := rfl) (hl := rfl) (hb := rfl); exact rfl
      apply seq_passed (hd := rfl) (hl := rfl) (hb := rfl); exact rfl
      apply seq_passed (hd := rfl) (hl := rfl) (hb := rfl); exact rfl
      apply seq_passed (hd := rfl) (hl := rfl) (hb := rfl); exact rfl
      apply seq_passed (hd := rfl) (hl := rfl) (hb := rfl); exact rfl
      apply seq_plain; exact do_pick_t rfl rfl; exact rfl
      apply seq_plain; exact do_move rfl; exact rfl
      apply seq_passed (hd := rfl) (hl := rfl) (hb := rfl); exact rfl
      apply seq_passed (hd := rfl) (hl := rfl) (hb := rfl); exact rfl
      apply seq_passed (hd := rfl) (hl := rfl) (hb := rfl); exact rfl
      apply seq_passed (hd := rfl) (hl := rfl) (hb := rfl); exact rfl
      apply seq_plain; exact do_pick_t rfl rfl; exact rfl
      apply seq_plain; exact do_move rfl; exact rfl
      apply seq_passed (hd := rfl) (hl := rfl) (hb := rfl); exact rfl
      apply seq_passed (hd := rfl) (hl := rfl) (hb := rfl); exact rfl
      apply seq_passed (hd := rfl) (hl := rfl) (hb := rfl); exact rfl
      apply seq_passed (hd := rfl) (hl := rfl) (hb := rfl); exact rfl
      apply seq_plain; exact do_pick_t rfl rfl; exact rfl
      apply seq_nil
      exact jp_of (by repeat (first | exact sub_nil | apply sub_cons rfl))
    have u3 : decide ((w.length : Int) > 6) = false := u3
    apply seq_guard (hd := rfl) (hl := rfl); exact do_move rfl; exact rfl
    apply seq_guard (hd := rfl) (hl := rfl); exact do_move rfl; exact rfl
    apply seq_guard (hd := rfl) (hl := rfl); exact do_move rfl; exact rfl
    apply seq_gcall (hg := rfl) (hl := rfl) (ht := rfl); exact sh _ _; exact rfl
    apply seq_guard (hd := rfl) (hl := rfl); exact do_unOp rfl rfl; exact rfl
    apply seq_plain; exact do_pick_f rfl rfl; exact rfl
    apply seq_plain; exact do_move rfl; exact rfl
    refine seq_gsplit rfl rfl (fun u4 => ?_) (fun u4 => ?_)
    · have u4 : (!shortH t l w) = true := u4
      have e : T = true := by rw [hT, u1, u2, u3, u4]; rfl
      rw [e]
      apply seq_passed (hd := rfl) (hl := rfl) (hb := rfl); exact rfl
      apply seq_passed (hd := rfl) (hl := rfl) (hb := rfl); exact rfl
      apply seq_passed (hd := rfl) (hl := rfl) (hb := rfl); exact rfl
      apply seq_passed (hd := rfl) (hl := rfl) (hb := rfl); exact rfl
      apply seq_plain; exact do_pick_t rfl rfl; exact rfl
      apply seq_plain; exact do_move rfl; exact rfl
      apply seq_passed (hd := rfl) (hl := rfl) (hb := rfl); exact rfl
      apply seq_passed (hd := rfl) (hl := rfl) (hb := rfl); exact rfl
      apply seq_passed (hd := rfl) (hl := rfl) (hb := rfl); exact rfl
      apply seq_passed (hd := rfl) (hl := rfl) (hb := rfl); exact rfl
      apply seq_plain; exact do_pick_t rfl rfl; exact rfl
      apply seq_nil
      exact jp_of (by repeat (first | exact sub_nil | apply sub_cons rfl))
    have u4 : (!shortH t l w) = false := u4
    apply seq_guard (hd := rfl) (hl := rfl); exact do_move rfl; exact rfl
    apply seq_guard (hd := rfl) (hl := rfl); exact do_move rfl; exact rfl
    apply seq_gcall (hg := rfl) (hl := rfl) (ht := rfl); exact refCheck_c (s2.ext (ext_Ext hc')) (by omega) (s1.ext (ext_Ext hc')) (by omega); exact rfl
    apply seq_guard (hd := rfl) (hl := rfl); exact do_binInt rfl rfl rfl trivial; exact rfl
    apply seq_plain; exact do_pick_f rfl rfl; exact rfl
    apply seq_plain; exact do_move rfl; exact rfl
    refine seq_gsplit rfl rfl (fun u5 => ?_) (fun u5 => ?_)
    · have u5 : (bothE t l != 0) = true := u5
      have e : T = true := by rw [hT, u1, u2, u3, u4, u5]; rfl
      rw [e]
      apply seq_passed (hd := rfl) (hl := rfl) (hb := rfl); exact rfl
      apply seq_passed (hd := rfl) (hl := rfl) (hb := rfl); exact rfl
      apply seq_passed (hd := rfl) (hl := rfl) (hb := rfl); exact rfl
      apply seq_passed (hd := rfl) (hl := rfl) (hb := rfl); exact rfl
      apply seq_plain; exact do_pick_t rfl rfl; exact rfl
      apply seq_nil
      exact jp_of (by repeat (first | exact sub_nil | apply sub_cons rfl))
    have u5 : (bothE t l != 0) = false := u5
    have e : T = (quesE t w != 0) := by rw [hT, u1, u2, u3, u4, u5]; rfl
    rw [e]
    apply seq_guard (hd := rfl) (hl := rfl); exact do_move rfl; exact rfl
    apply seq_guard (hd := rfl) (hl := rfl); exact do_move rfl; exact rfl
    apply seq_gcall (hg := rfl) (hl := rfl) (ht := rfl); exact refQueue_c (s2.ext (ext_Ext hc')) (by omega) (s3.ext (ext_Ext hc')) (by omega); exact rfl
    apply seq_guard (hd := rfl) (hl := rfl); exact do_binInt rfl rfl rfl trivial; exact rfl
    apply seq_plain; exact do_pick_f rfl rfl; exact rfl
    apply seq_nil
    exact jp_of (by repeat (first | exact sub_nil | apply sub_cons rfl))
  refine ct_cond rfl (fun u0 => ?_) (fun u0 => ?_)
  · apply ct_seq
    apply ct_region
    apply seq_call (ht := rfl); exact aw _ _; exact rfl
    apply seq_plain; exact do_assign rfl; exact rfl
    apply seq_nil
    apply ct_ret
    exact fin_flatB hc hc' hE rfl rfl ⟨rfl, rfl⟩
  have hin : TurIn t l w := by
    have u0 : T = false := u0
    rw [u0] at hT
    have := hT.symm
    simp only [Bool.or_eq_false_iff, decide_eq_false_iff_not, bne_eq_false_iff_eq, Bool.not_eq_false'] at this
    obtain ⟨⟨⟨⟨⟨a1, a2⟩, a3⟩, _⟩, a4⟩, a5⟩ := this
    exact ⟨by omega, by omega, by omega, a4, a5⟩
  clear hT u0 sh aw s1 s2 s3
  have m1 := hin.tl
  have m2 := hin.ll
  have m3 := hin.wl
  have hb := hin.both
  have hqz := hin.que
  clear hin
  have hse := hs.ext hE
  have hre := hr.ext hE
  have hwe := hw.ext hE
  have cS := Serve_c (c := c) (d := d) (e := e) (hse.ext (ext_Ext hc' (lo := min H.fresh H.fresh) (L := []))) hlow (by omega) (hre.ext (ext_Ext hc')) hlow2 hq'.ext (hbl'.ext (ext_Ext hc')) hd (by omega) (hwe.ext (ext_Ext hc')) hlow3 (by omega)
  simp only [lstH_ext, ext_fresh] at cS
  apply ct_skip
  apply ct_seq
  apply ct_region
  apply seq_plain; exact do_move rfl; exact rfl
  apply seq_plain; exact do_move rfl; exact rfl
  apply seq_plain; exact do_move rfl; exact rfl
  apply seq_call (ht := rfl); exact cS; exact rfl
  obtain ⟨O, hO⟩ : ∃ O, O = srvO t l w := ⟨_, rfl⟩
  obtain ⟨E, hEE⟩ : ∃ E, E = srvE t l w := ⟨_, rfl⟩
  rw [← hO, ← hEE]
  obtain ⟨po, hpo⟩ : ∃ po, po = lstP (nb h ([] : List (Option ABlk)).length) O := ⟨_, rfl⟩
  have sO : SlAt (ext h (min H.fresh H.fresh) ([] ++ lstL 1 i1 O)) 1 i1 po O := by rw [hpo]; exact lst_slAt (fun _ => rfl)
  have lO : LowS po O.length O.length := by
    rw [hpo]
    cases O with
    | nil => exact ⟨Nat.le_refl _, fun _ => ⟨rfl, rfl⟩, fun a e => (by cases e)⟩
    | cons a O => exact ⟨Nat.le_refl _, fun e => (by cases e), fun a e => (by cases e; rfl)⟩
  refine seqL_to (l' := [(0, .slice q t.length c), (1, .slice r l.length d), (2, .slice p w.length e), (74, .tuple ⟨[.slice po O.length O.length, I E]⟩)]) (by rw [hpo]; repeat (first | exact sub_nil | apply sub_cons rfl)) ext_base (by simp) ?_
  obtain ⟨h2, hh2⟩ : ∃ h2, h2 = ext h (min H.fresh H.fresh) ([] ++ lstL 1 i1 O) := ⟨_, rfl⟩
  have hq' : OldS h2 r := by rw [hh2]; exact hq'.ext
  have hse : SlAt h2 2 tb q t := by rw [hh2]; exact hse.ext (ext_Ext hc')
  have hre : SlAt h2 4 bk r l := by rw [hh2]; exact hre.ext (ext_Ext hc')
  have hwe : SlAt h2 4 rq p w := by rw [hh2]; exact hwe.ext (ext_Ext hc')
  have hbl' : BlkS h2 r := by rw [hh2]; exact hbl'.ext (ext_Ext hc')
  have hE : Ext H h2 := by rw [hh2]; exact hE.trans (ext_Ext hc')
  have hc' : Closed h2 := by rw [hh2]; exact ext_closed hc'
  rw [← hh2] at sO ⊢
  refine seq_anyLo fun lo => ?_
  clear hh2 cS hpo
  apply seq_plain; exact do_move rfl; exact rfl
  apply seq_plain; exact do_extract rfl rfl; exact rfl
  apply seq_plain; exact do_extract rfl rfl; exact rfl
  apply seq_plain; exact do_assign rfl; exact rfl
  apply seq_plain; exact do_assign rfl; exact rfl
  apply seq_nil
  apply ct_seq
  apply ct_seq
  apply ct_region
  apply seq_plain; exact do_move rfl; exact rfl
  apply seq_plain; exact do_binInt rfl rfl rfl trivial; exact rfl
  apply seq_nil
  refine ct_cond rfl (fun u => ?_) (fun u => ?_)
  · have u : E ≠ 0 := by simpa using u
    rcases srv_any hb hqz with ⟨_, e2, e3⟩ | ⟨e1, _⟩
    · rw [← hO] at e2
      subst e2
      rw [← hEE] at e3
      rcases e3 with e3 | e3
      · rw [e3]
        apply ct_seq
        apply ct_region
        apply seq_plain; exact do_move rfl; exact rfl
        apply seq_plain; exact do_lenS rfl rfl rfl; exact rfl
        apply seq_plain; exact do_binInt rfl rfl rfl trivial; exact rfl
        apply seq_plain; exact do_move rfl; exact rfl
        apply seq_guard (hd := rfl) (hl := rfl); exact do_move rfl; exact rfl
        apply seq_guard (hd := rfl) (hl := rfl); exact do_binInt rfl rfl rfl trivial; exact rfl
        apply seq_guard (hd := rfl) (hl := rfl); exact do_move rfl; exact rfl
        apply seq_passed (hd := rfl) (hl := rfl) (hb := rfl); exact rfl
        apply seq_passed (hd := rfl) (hl := rfl) (hb := rfl); exact rfl
        apply seq_guard (hd := rfl) (hl := rfl); exact do_pick_t rfl rfl; exact rfl
        apply seq_plain; exact do_pick_t rfl rfl; exact rfl
        apply seq_plain; exact do_assign rfl; exact rfl
        apply seq_nil
        apply ct_ret
        exact fin_flatB hc hc' hE rfl rfl ⟨rfl, rfl⟩
      · rw [e3]
        apply ct_seq
        apply ct_region
        apply seq_plain; exact do_move rfl; exact rfl
        apply seq_plain; exact do_lenS rfl rfl rfl; exact rfl
        apply seq_plain; exact do_binInt rfl rfl rfl trivial; exact rfl
        apply seq_plain; exact do_move rfl; exact rfl
        apply seq_guard (hd := rfl) (hl := rfl); exact do_move rfl; exact rfl
        apply seq_guard (hd := rfl) (hl := rfl); exact do_binInt rfl rfl rfl trivial; exact rfl
        apply seq_guard (hd := rfl) (hl := rfl); exact do_move rfl; exact rfl
        apply seq_guard (hd := rfl) (hl := rfl); exact do_move rfl; exact rfl
        apply seq_guard (hd := rfl) (hl := rfl); exact do_binInt rfl rfl rfl trivial; exact rfl
        apply seq_guard (hd := rfl) (hl := rfl); exact do_pick_f rfl rfl; exact rfl
        apply seq_plain; exact do_pick_t rfl rfl; exact rfl
        apply seq_plain; exact do_assign rfl; exact rfl
        apply seq_nil
        apply ct_ret
        exact fin_flatB hc hc' hE rfl rfl ⟨rfl, rfl⟩
    · exact absurd (hEE.trans e1) u
  have u : E = 0 := by simpa using u
  obtain ⟨hsv, hOl, hfit⟩ : SvI t l w O ∧ O.length = w.length ∧ FitP t l := by
    rcases srv_any hb hqz with ⟨e1, _⟩ | ⟨_, e2, e3, e4⟩
    · exact absurd (hEE.symm.trans u) e1
    · rw [hO]; exact ⟨e2, e3, e4⟩
  clear hEE u
  have hwv : ∀ lo L, Wv (ext h2 lo L) 4 bk (.slice r l.length d) l := fun lo L => wv_of bk_len (hre.ext (ext_Ext hc')) (hbl'.ext (ext_Ext hc'))
  have ebl : ((O.length : Int) != (w.length : Int)) = false := by rw [hOl]; simp
  apply ct_skip
  apply ct_seq
  apply ct_seq
  apply ct_region
  apply seq_plain; exact do_move rfl; exact rfl
  apply seq_plain; exact do_lenS rfl rfl rfl; exact rfl
  apply seq_plain; exact do_move rfl; exact rfl
  apply seq_plain; exact do_lenS rfl rfl rfl; exact rfl
  apply seq_plain; exact do_binInt rfl rfl rfl trivial; exact rfl
  apply seq_nil
  rw [ebl]
  refine ct_cond_f rfl rfl ?_
  apply ct_skip
  apply ct_seq
  apply ct_region
  apply seq_newS; exact do_buildSlice rfl rfl rfl rfl rfl rfl rfl; exact rfl
  apply seq_plain; exact do_move rfl; exact rfl
  refine seq_JX (ds := []) (α := Nat × List (Option ABlk)) (fun a => [(0, .slice q t.length c), (1, .slice r l.length d), (2, .slice p w.length e), (10, .slice po O.length O.length), (12, .slice (some ⟨nb h2 a.1, 0, none⟩) l.length l.length)]) (fun a => ext h2 lo a.2) (fun a => LstX h2 a.2 4 bk a.1 l) ?_ (fun a ha => ?_)
  · by_cases hne : l = []
    · subst hne
      refine seq_plain (do_appNil rfl rfl rfl rfl rfl rfl (hwv _ _) (fun a e => by cases e; rfl) (Nat.le_refl _) (Nat.le_of_ble_eq_true rfl) (Nat.ne_of_beq_eq_false rfl) (Nat.ne_of_beq_eq_false rfl)) rfl ?_
      apply seq_plain; exact do_assign rfl; exact rfl
      apply seq_nil
      exact jx_of (0, _) ⟨_, rfl⟩ (by repeat (first | exact sub_nil | apply sub_cons rfl)) rfl
    · obtain ⟨b', o', c', cs, z, k, ro, e1, hg, hsl⟩ := (hwv lo []).blk (by omega) bk_len hne
      have hg : ∀ lo L, (ext h2 lo L).get b' = some (.cells cs z k ro) := fun lo' L => by
        obtain ⟨b2, o2, cs2, z2, s2, r2, e2, hg2, _⟩ := hre.out hne
        rw [e2] at e1
        cases e1
        have h3 := ext_get_old (lo := lo) (L := []) hc' hg2
        rw [hg] at h3
        rw [h3]
        exact ext_get_old hc' hg2
      injection e1 with e1 _ e3
      cases e1
      subst e3
      refine seq_newS (do_appendY rfl rfl rfl rfl rfl rfl (hg _ _) hsl (ext_get_new rfl) (app_bd (by omega)) (Nat.ne_of_beq_eq_false rfl) (Nat.ne_of_beq_eq_false rfl) (List.length_pos_iff.2 hne)) rfl ?_
      apply seq_plain; exact do_assign rfl; exact rfl
      apply seq_nil
      exact jx_of (1, _) ⟨true, rfl⟩ (by repeat (first | exact sub_nil | apply sub_cons rfl)) rfl
  obtain ⟨Kn, L⟩ := a
  simp only at ha ⊢
  apply ct_seq
  apply ct_seq
  apply ct_region
  apply seq_plain; exact do_move rfl; exact rfl
  apply seq_plain; exact do_lenS rfl rfl rfl; exact rfl
  apply seq_plain; exact do_move rfl; exact rfl
  apply seq_nil
  apply ct_block
  apply ct_loop
  refine lt_meas (α := Nat × Nat × List (Option ABlk)) (fun a => [(0, .slice q t.length c), (1, .slice r l.length d), (2, .slice p w.length e), (10, .slice po O.length O.length), (12, .slice (some ⟨nb h2 a.2.1, 0, none⟩) (allB l w O a.1).length (allB l w O a.1).length), (98, .slice p w.length e), (99, I w.length), (100, I a.1)]) (fun a => ext h2 lo a.2.2) (fun a => a.1 ≤ w.length ∧ LstX h2 a.2.2 4 bk a.2.1 (allB l w O a.1)) (fun a => w.length - a.1) (fun a hx ih => ?_) (0, Kn, L) ⟨Nat.zero_le _, by simp only; rw [allB_zeroO]; exact ha⟩ (by simp only; rw [allB_zeroO]; repeat (first | exact sub_nil | apply sub_cons rfl)) (.refl _)
  clear ha Kn L
  obtain ⟨i, Kn, L⟩ := a
  obtain ⟨hi, hnow⟩ := hx
  simp only at hi hnow ih ⊢
  have ih' := fun i' Kn' L' a1 a2 a3 => ih (i', Kn', L') a1 ⟨a2, a3⟩
  simp only at ih'
  clear ih
  apply ct_seq
  apply ct_region
  apply seq_plain; exact do_binInt rfl rfl rfl trivial; exact rfl
  apply seq_nil
  apply ct_seq
  refine ct_cond rfl (fun h1 => ?_) (fun h1 => ?_)
  · have h1 : i < w.length := by
      have h1 : decide ((i : Int) < (w.length : Int)) = true := h1
      simp only [decide_eq_true_eq] at h1; omega
    have hiO : i < O.length := by omega
    obtain ⟨bw, ow, csw, zw, sw, row, rfl, hgw, hww⟩ := hwe.out (by intro e; rw [e] at h1; simp at h1)
    obtain ⟨bo, oo, cso, zo, so, roo, rfl, hgo, hwo⟩ := sO.out (by intro e; rw [e] at hiO; simp at hiO)
    have hwoA := (ques_ok hqz).2
    have wok := hwoA _ (List.getElem_mem h1)
    have wl1 := wok.l1
    have wl2 := wok.l2
    have hOb := hsv.bd hwoA hiO
    obtain ⟨hle, hend⟩ := hsv.at_ i hiO h1
    have hbN := hsv.both hb hqz (by omega) i (by omega)
    have hfN := hsv.fits hfit i (by omega)
    have hnl := allB_lenJ (l := l) (r := w) (out := O) (j := i) (by omega) (by omega)
    have hbk := hsv.book hqz hiO h1
    have hfl0 : 0 ≤ flrB w O w[i].kind w[i].arr i ∧ w[i].arr ≤ flrB w O w[i].kind w[i].arr i := by
      have := wok.a1
      rw [flrB_max this]; omega
    obtain ⟨now, hnw⟩ : ∃ now, now = allB l w O i := ⟨_, rfl⟩
    rw [← hnw] at hle hbN hfN hnl hnow ⊢
    apply ct_skip
    apply ct_seq
    apply ct_block
    apply ct_seq
    apply ct_region
    apply seq_plain; exact do_move rfl; exact rfl
    apply seq_plain; exact do_indexAddrS rfl rfl rfl (by exact idx_nat (by omega)); exact rfl
    apply seq_plain; exact do_load rfl (by exact ext_get_old (by assumption) (by assumption)) rfl (by exact pt_sl (by assumption) (by omega)); exact rfl
    apply seq_newP; exact do_alloc rfl rfl; exact rfl
    apply seq_plain; exact do_assign rfl; exact rfl
    apply seq_putC (hc := by assumption); rotate_left; exact do_store rfl rfl (by exact ext_get_new List.getElem?_concat_length) rfl rfl (nb_own _); rotate_left; exact (by simp)
    apply ct_seq
    apply ct_region
    apply seq_plain; exact do_fieldAddr rfl rfl; exact rfl
    apply seq_plain; exact do_load rfl (by exact ext_get_new getSetLast) rfl (by exact rfl); exact rfl
    apply seq_plain; exact do_assign rfl; exact rfl
    apply seq_nil
    apply ct_seq
    apply ct_seq
    apply ct_region
    apply seq_plain; exact do_move rfl; exact rfl
    apply seq_plain; exact do_move rfl; exact rfl
    apply seq_nil
    apply ct_block
    apply ct_loop
    rw [set_mid rfl]
    refine lt_to (l' := [(0, .slice q t.length c), (1, .slice r l.length d), (2, .slice (some ⟨bw, ow, none⟩) w.length e), (10, .slice (some ⟨bo, oo, none⟩) O.length O.length), (12, .slice (some ⟨nb h2 Kn, 0, none⟩) now.length now.length), (13, I i), (14, .pointer (some ⟨nb h2 L.length, 0, none⟩)), (15, I (flrB w O w[i].kind w[i].arr 0)), (98, .slice (some ⟨bw, ow, none⟩) w.length e), (99, I w.length), (100, I i), (107, I i), (108, I 0)]) (h' := ext h2 lo (L ++ [some (.cells (rq w[i]) 0 false false)])) (by repeat (first | exact sub_nil | apply sub_cons rfl)) (.refl _) ?_
    have hx1 : (L ++ [some (ABlk.cells (rq w[i]) 0 false false)])[L.length]? = some (some (.cells (rq w[i]) 0 false false)) := List.getElem?_concat_length
    have hn1 : LstX h2 (L ++ [some (ABlk.cells (rq w[i]) 0 false false)]) 4 bk Kn now := hnow.app _
    obtain ⟨L1, hL1⟩ : ∃ L1, L1 = L ++ [some (ABlk.cells (rq w[i]) 0 false false)] := ⟨_, rfl⟩
    have hL1l : L1.length = L.length + 1 := by rw [hL1]; simp
    rw [← hL1] at hx1 hn1 ⊢
    clear hL1 hnow
    refine lt_up (fun k => [(0, .slice q t.length c), (1, .slice r l.length d), (2, .slice (some ⟨bw, ow, none⟩) w.length e), (10, .slice (some ⟨bo, oo, none⟩) O.length O.length), (12, .slice (some ⟨nb h2 Kn, 0, none⟩) now.length now.length), (13, I i), (14, .pointer (some ⟨nb h2 L.length, 0, none⟩)), (15, I (flrB w O w[i].kind w[i].arr k)), (98, .slice (some ⟨bw, ow, none⟩) w.length e), (99, I w.length), (100, I i), (107, I i), (108, I k)]) (fun _ => True) i (fun k hkk _ ih2 => ?_) 0 (by omega) trivial (by repeat (first | exact sub_nil | apply sub_cons rfl))
    apply ct_seq
    apply ct_region
    apply seq_plain; exact do_binInt rfl rfl rfl trivial; exact rfl
    apply seq_nil
    apply ct_seq
    refine ct_cond rfl (fun h4 => ?_) (fun h4 => ?_)
    · have h4 : k < i := by
        have h4 : decide ((k : Int) < (i : Int)) = true := h4
        simp only [decide_eq_true_eq] at h4; omega
      have hkw : k < w.length := by omega
      have hkO : k < O.length := by omega
      have hfs := flrB_succ (k := w[i].kind) (arr := w[i].arr) hkw hkO
      unfold flrS at hfs
      simp only at hfs
      apply ct_skip
      apply ct_seq
      apply ct_block
      apply ct_seq
      apply ct_region
      apply seq_plain; exact do_move rfl; exact rfl
      apply seq_plain; exact do_assign rfl; exact rfl
      apply seq_nil
      apply ct_seq
      apply ct_draw (by assumption); decide +kernel
      apply sd_plain (hfree := rfl); intro _; exact do_move rfl; exact rfl
      apply sd_plain (hfree := rfl); intro _; exact do_move rfl; exact rfl
      apply sd_plain (hfree := rfl); intro _; exact do_indexAddrS rfl rfl rfl (by exact idx_nat (by omega)); exact rfl
      apply sd_plain (hfree := rfl); intro _; exact do_fieldAddr rfl rfl; exact rfl
      apply sd_look (hfree := rfl); exact do_load rfl (by exact ext_get_old (by assumption) (by assumption)) rfl (by exact pt_sl1 (by assumption) (by omega) (Nat.le_of_ble_eq_true rfl) rfl); exact rfl
      apply sd_plain (hfree := rfl); intro _; exact do_fieldAddr rfl rfl; exact rfl
      apply sd_look (hfree := rfl); exact do_load rfl (by exact ext_get_new (getApp (by assumption))) rfl (by exact rfl); exact rfl
      apply sd_plain (hfree := rfl); intro _; exact do_binStr rfl rfl rfl; exact rfl
      apply sd_nil
      simp only [List.map_nil, List.append_nil]
      refine ct_cond rfl (fun u => ?_) (fun u => ?_)
      · have u : byteL w[k].kind.data.toList w[i].kind.data.toList = true := u
        rw [bytes_eq, decide_eq_true_eq] at u
        rw [if_pos u] at hfs
        apply ct_region
        apply seq_plain; exact do_move rfl; exact rfl
        apply seq_plain; exact do_move rfl; exact rfl
        apply seq_plain; exact do_move rfl; exact rfl
        apply seq_plain; exact do_indexAddrS rfl rfl rfl (by exact idx_nat (by omega)); exact rfl
        apply seq_plain; exact do_load rfl (by exact ext_get_old (by assumption) (by assumption)) rfl (by exact pt_sl0 (by assumption) (by omega)); exact rfl
        apply seq_plain; exact do_max rfl; exact rfl
        apply seq_plain; exact do_assign rfl; exact rfl
        apply seq_nil
        apply ct_region
        apply seq_plain; exact do_succ rfl (by omega); exact rfl
        apply seq_plain; exact do_move rfl; exact rfl
        apply seq_nil
        rw [← hfs]
        exact lt_sub (by repeat (first | exact sub_nil | apply sub_cons rfl)) (ih2 (k + 1) (by omega) (by omega) trivial)
      · have u : byteL w[k].kind.data.toList w[i].kind.data.toList = false := u
        rw [bytes_eq, decide_eq_false_iff_not] at u
        rw [if_neg u] at hfs
        rw [← hfs]
        apply ct_skip
        apply ct_region
        apply seq_plain; exact do_succ rfl (by omega); exact rfl
        apply seq_plain; exact do_move rfl; exact rfl
        apply seq_nil
        exact lt_sub (by repeat (first | exact sub_nil | apply sub_cons rfl)) (ih2 (k + 1) (by omega) (by omega) trivial)
    have h4 : k = i := by simp at h4; omega
    subst h4
    clear ih2 hkk
    obtain ⟨fl, hfl⟩ : ∃ fl, fl = flrB w O w[k].kind w[k].arr k := ⟨_, rfl⟩
    rw [← hfl] at hle hfl0 ⊢
    have hge := hle.ge
    have y1 : decide (O[k] < fl) = false := decide_eq_false (by omega)
    have y2 : decide (O[k] + w[k].len > 99999) = false := decide_eq_false (by omega)
    apply ct_exit
    apply exit_eq; exact rfl
    apply ct_seq
    apply ct_seq
    apply ct_draw (by assumption); decide +kernel
    apply sd_plain (hfree := rfl); intro _; exact do_move rfl; exact rfl
    apply sd_plain (hfree := rfl); intro _; exact do_move rfl; exact rfl
    apply sd_plain (hfree := rfl); intro _; exact do_indexAddrS rfl rfl rfl (by exact idx_nat (by omega)); exact rfl
    apply sd_look (hfree := rfl); exact do_load rfl (by exact ext_get_old (by assumption) (by assumption)) rfl (by exact pt_sl0 (by assumption) (by omega)); exact rfl
    apply sd_plain (hfree := rfl); intro _; exact do_move rfl; exact rfl
    apply sd_plain (hfree := rfl); intro _; exact do_binInt rfl rfl rfl trivial; exact rfl
    apply sd_plain (hfree := rfl); intro _; exact do_move rfl; exact rfl
    rw [y1]
    apply sd_guard (hfree := rfl) (hg := rfl) (hl := rfl); intro _; exact do_move rfl; exact rfl
    apply sd_guard (hfree := rfl) (hg := rfl) (hl := rfl); intro _; exact do_move rfl; exact rfl
    apply sd_guard (hfree := rfl) (hg := rfl) (hl := rfl); intro _; exact do_indexAddrS rfl rfl rfl (by exact idx_nat (by omega)); exact rfl
    apply sd_guardL (hfree := rfl) (hg := rfl) (hl := rfl); exact do_load rfl (by exact ext_get_old (by assumption) (by assumption)) rfl (by exact pt_sl0 (by assumption) (by omega)); exact rfl
    apply sd_guard (hfree := rfl) (hg := rfl) (hl := rfl); intro _; exact do_fieldAddr rfl rfl; exact rfl
    apply sd_guardL (hfree := rfl) (hg := rfl) (hl := rfl); exact do_load rfl (by exact ext_get_new (getApp (by assumption))) rfl (by exact rfl); exact rfl
    apply sd_guard (hfree := rfl) (hg := rfl) (hl := rfl); intro _; exact do_add rfl rfl (by omega); exact rfl
    apply sd_guard (hfree := rfl) (hg := rfl) (hl := rfl); intro _; exact do_binInt rfl rfl rfl trivial; exact rfl
    apply sd_plain (hfree := rfl); intro _; exact do_pick_f rfl rfl; exact rfl
    apply sd_nil
    rw [y2]
    simp only [List.map_nil, List.append_nil]
    refine ct_cond_f rfl rfl ?_
    apply ct_skip
    apply ct_seq
    apply ct_draw (by assumption); decide +kernel
    apply sd_plain (hfree := rfl); intro _; exact do_fieldAddr rfl rfl; exact rfl
    apply sd_look (hfree := rfl); exact do_load rfl (by exact ext_get_new (getApp (by assumption))) rfl (by exact rfl); exact rfl
    apply sd_plain (hfree := rfl); intro _; exact do_fieldAddr rfl rfl; exact rfl
    apply sd_look (hfree := rfl); exact do_load rfl (by exact ext_get_new (getApp (by assumption))) rfl (by exact rfl); exact rfl
    apply sd_plain (hfree := rfl); intro _; exact do_move rfl; exact rfl
    apply sd_plain (hfree := rfl); intro _; exact do_move rfl; exact rfl
    apply sd_plain (hfree := rfl); intro _; exact do_indexAddrS rfl rfl rfl (by exact idx_nat (by omega)); exact rfl
    apply sd_look (hfree := rfl); exact do_load rfl (by exact ext_get_old (by assumption) (by assumption)) rfl (by exact pt_sl0 (by assumption) (by omega)); exact rfl
    apply sd_plain (hfree := rfl); intro _; exact do_move rfl; exact rfl
    apply sd_plain (hfree := rfl); intro _; exact do_move rfl; exact rfl
    apply sd_plain (hfree := rfl); intro _; exact do_indexAddrS rfl rfl rfl (by exact idx_nat (by omega)); exact rfl
    apply sd_look (hfree := rfl); exact do_load rfl (by exact ext_get_old (by assumption) (by assumption)) rfl (by exact pt_sl0 (by assumption) (by omega)); exact rfl
    apply sd_plain (hfree := rfl); intro _; exact do_fieldAddr rfl rfl; exact rfl
    apply sd_look (hfree := rfl); exact do_load rfl (by exact ext_get_new (getApp (by assumption))) rfl (by exact rfl); exact rfl
    apply sd_plain (hfree := rfl); intro _; exact do_add rfl rfl (by omega); exact rfl
    apply sd_plain (hfree := rfl); intro _; exact do_build rfl rfl rfl rfl; exact rfl
    apply sd_newP (hfree := rfl); exact do_alloc rfl rfl; exact rfl
    apply sd_put (hfree := rfl) (hser := by decide +kernel) (hc := by assumption); rotate_left; exact do_store rfl rfl (by exact ext_get_new List.getElem?_concat_length) rfl rfl (nb_own _); rotate_left; exact (by simp)
    apply sd_nil
    simp only [List.nil_append, List.map_cons, List.map_nil, List.append_nil, List.length_nil, Nat.add_zero]
    rw [set_mid rfl]
    refine ct_to (l' := [(0, .slice q t.length c), (1, .slice r l.length d), (2, .slice (some ⟨bw, ow, none⟩) w.length e), (10, .slice (some ⟨bo, oo, none⟩) O.length O.length), (12, .slice (some ⟨nb h2 Kn, 0, none⟩) now.length now.length), (13, I k), (14, .pointer (some ⟨nb h2 L.length, 0, none⟩)), (15, I fl), (17, .pointer (some ⟨nb h2 L1.length, 0, none⟩)), (98, .slice (some ⟨bw, ow, none⟩) w.length e), (99, I w.length), (100, I k)]) (h' := ext h2 lo (L1 ++ [some (.cells (bk (bkR w[k] O[k])) 0 false false)])) (by repeat (first | exact sub_nil | apply sub_cons rfl)) (.refl _) ?_
    have hb2 : (L1 ++ [some (ABlk.cells (bk (bkR w[k] O[k])) 0 false false)])[L1.length]? = some (some (.cells (bk (bkR w[k] O[k])) 0 false false)) := List.getElem?_concat_length
    have hx2 : (L1 ++ [some (ABlk.cells (bk (bkR w[k] O[k])) 0 false false)])[L.length]? = some (some (.cells (rq w[k]) 0 false false)) := getApp hx1
    have hn2 : LstX h2 (L1 ++ [some (ABlk.cells (bk (bkR w[k] O[k])) 0 false false)]) 4 bk Kn now := hn1.app _
    obtain ⟨M, hM⟩ : ∃ M, M = L1 ++ [some (ABlk.cells (bk (bkR w[k] O[k])) 0 false false)] := ⟨_, rfl⟩
    have hMl : M.length = L1.length + 1 := by rw [hM]; simp
    rw [← hM] at hb2 hx2 hn2 ⊢
    clear hM hn1 hx1 y1 y2
    obtain ⟨fe, fv⟩ := fits_bkR hbN hbk wok.k (by omega) hfN
    have fv : fitsV t now (bkR w[k] O[k]) = true := fv.2 hle.room
    have cFt : ∀ (b : Bk) lo M, LstX h2 M 4 bk Kn now → Ret Tryz.prog 37 [.slice q t.length c, .slice (some ⟨nb h2 Kn, 0, none⟩) now.length now.length, .agg ⟨bk b⟩] (ext h2 lo M) (.tuple ⟨[.bool (fitsV t now b), I (fitsE t now b)]⟩) (ext h2 lo M) := fun b lo M hX => Fits_c (hse.ext (ext_Ext hc')) hlow (by omega) (hX.at_ bk_len) ⟨Nat.le_refl _, fun e => (by cases e), fun a e => (by cases e; rfl)⟩ (OldS.new hX.lt) hX.blk (fun e => by cases e) (by omega)
    have cF1 := cFt (bkR w[k] O[k]) lo M hn2
    rw [fe, fv] at cF1
    apply ct_seq
    apply ct_region
    apply seq_plain; exact do_move rfl; exact rfl
    apply seq_plain; exact do_move rfl; exact rfl
    apply seq_plain; exact do_load rfl (by exact ext_get_new (by assumption)) rfl (by exact rfl); exact rfl
    apply seq_call (ht := rfl); exact cF1; exact rfl
    clear cF1
    apply seq_plain; exact do_move rfl; exact rfl
    apply seq_plain; exact do_extract rfl rfl; exact rfl
    apply seq_plain; exact do_extract rfl rfl; exact rfl
    apply seq_plain; exact do_assign rfl; exact rfl
    apply seq_plain; exact do_assign rfl; exact rfl
    apply seq_nil
    apply ct_seq
    apply ct_seq
    apply ct_region
    apply seq_plain; exact do_move rfl; exact rfl
    apply seq_plain; exact do_binInt rfl rfl rfl trivial; exact rfl
    apply seq_plain; exact do_move rfl; exact rfl
    apply seq_guard (hd := rfl) (hl := rfl); exact do_move rfl; exact rfl
    apply seq_guard (hd := rfl) (hl := rfl); exact do_unOp rfl rfl; exact rfl
    apply seq_plain; exact do_pick_f rfl rfl; exact rfl
    apply seq_nil
    refine ct_cond_f rfl rfl ?_
    apply ct_skip
    apply ct_seq
    apply ct_seq
    apply ct_region
    apply seq_plain; exact do_move rfl; exact rfl
    apply seq_plain; exact do_move rfl; exact rfl
    apply seq_plain; exact do_indexAddrS rfl rfl rfl (by exact idx_nat (by omega)); exact rfl
    apply seq_plain; exact do_load rfl (by exact ext_get_old (by assumption) (by assumption)) rfl (by exact pt_sl0 (by assumption) (by omega)); exact rfl
    apply seq_plain; exact do_move rfl; exact rfl
    apply seq_plain; exact do_binInt rfl rfl rfl trivial; exact rfl
    apply seq_nil
    refine ct_JXE (α := List (Option ABlk)) (ds := []) (fun _ => [(0, .slice q t.length c), (1, .slice r l.length d), (2, .slice (some ⟨bw, ow, none⟩) w.length e), (10, .slice (some ⟨bo, oo, none⟩) O.length O.length), (12, .slice (some ⟨nb h2 Kn, 0, none⟩) now.length now.length), (17, .pointer (some ⟨nb h2 L1.length, 0, none⟩)), (98, .slice (some ⟨bw, ow, none⟩) w.length e), (99, I w.length), (100, I k)]) (fun a => ext h2 lo a) (fun a => Stay M.length M a ∧ M.length ≤ a.length) ?_ (fun M2 ha2 => ?_)
    · refine ct_cond rfl (fun v1 => ?_) (fun v1 => ?_)
      · have v1 : fl < O[k] := by
          have v1 : decide (O[k] > fl) = true := v1
          simpa using v1
        have hbk2 := bkR_ok (s := O[k] - 1) (ques_at hqz h1) (by omega) (by omega)
        obtain ⟨fe2, fv2⟩ := fits_bkR hbN hbk2 wok.k (by omega) hfN
        have fv2 : fitsV t now (bkR w[k] (O[k] - 1)) = false := by
          cases ev : fitsV t now (bkR w[k] (O[k] - 1))
          · rfl
          · exact absurd (fv2.1 ev) (hle.low _ (by omega) (by omega))
        have hn3 : LstX h2 (M ++ [some (ABlk.cells (bk (bkR w[k] (O[k] - 1))) 0 false false)]) 4 bk Kn now := hn2.app _
        have cF2 := cFt (bkR w[k] (O[k] - 1)) lo _ hn3
        rw [fe2, fv2] at cF2
        have hx3 : (M ++ [some (ABlk.cells (bk (bkR w[k] O[k])) 0 false false)])[L.length]? = some (some (.cells (rq w[k]) 0 false false)) := getApp hx2
        have hb3 : (M ++ [some (ABlk.cells (bk (bkR w[k] O[k])) 0 false false)])[M.length]? = some (some (.cells (bk (bkR w[k] O[k])) 0 false false)) := List.getElem?_concat_length
        apply ct_seq
        apply ct_region
        apply seq_plain; exact do_load rfl (by exact ext_get_new (by assumption)) rfl (by exact rfl); exact rfl
        apply seq_newP; exact do_alloc rfl rfl; exact rfl
        apply seq_putC (hc := by assumption); rotate_left; exact do_store rfl rfl (by exact ext_get_new List.getElem?_concat_length) rfl rfl (nb_own _); rotate_left; exact (by simp)
        apply ct_seq
        rw [set_mid rfl]
        refine ct_drawG [M.length] hc' (by decide +kernel) ?_
        refine sg_free rfl rfl (fun _ => do_move rfl) rfl ?_
        refine sg_free rfl rfl (fun _ => do_move rfl) rfl ?_
        refine sg_free rfl rfl (fun _ => do_indexAddrS rfl rfl rfl (idx_nat (by omega))) rfl ?_
        refine sg_off hc' rfl rfl rfl (do_load rfl (ext_get_old hc' hgo) rfl (pt_sl0 hwo (by omega))) rfl ?_
        refine sg_free rfl rfl (fun _ => do_sub rfl rfl (by omega)) rfl ?_
        refine sg_free rfl rfl (fun _ => do_move rfl) rfl ?_
        refine sg_free rfl rfl (fun _ => do_move rfl) rfl ?_
        refine sg_free rfl rfl (fun _ => do_indexAddrS rfl rfl rfl (idx_nat (by omega))) rfl ?_
        refine sg_off hc' rfl rfl rfl (do_load rfl (ext_get_old hc' hgo) rfl (pt_sl0 hwo (by omega))) rfl ?_
        refine sg_free rfl rfl (fun _ => do_sub rfl rfl (by omega)) rfl ?_
        refine sg_free rfl rfl (fun _ => do_fieldAddr rfl rfl) rfl ?_
        refine sg_off hc' rfl rfl rfl (do_load rfl (ext_get_new (maskK_at hx3 (by simp; omega))) rfl rfl) rfl ?_
        refine sg_free rfl rfl (fun _ => do_add rfl rfl (by omega)) rfl ?_
        refine sg_free rfl rfl (fun _ => do_fieldAddr rfl rfl) rfl ?_
        refine sg_turn0 (k := M.length) hc' rfl (by decide +kernel) (by decide +kernel) rfl (by simp) hb3 (do_store rfl rfl (ext_get_new hb3) rfl rfl (nb_own _)) ?_
        rw [set_mid rfl]
        refine sg_free rfl rfl (fun _ => do_fieldAddr rfl rfl) rfl ?_
        refine sg_ser0 (k' := M.length) hc' rfl (by decide +kernel) (by simp) (do_store rfl rfl (ext_get_new List.getElem?_concat_length) rfl rfl (nb_own _)) ?_
        rw [set_mid rfl]
        apply sd_nil
        refine ct_to (l' := [(0, .slice q t.length c), (1, .slice r l.length d), (2, .slice (some ⟨bw, ow, none⟩) w.length e), (10, .slice (some ⟨bo, oo, none⟩) O.length O.length), (12, .slice (some ⟨nb h2 Kn, 0, none⟩) now.length now.length), (17, .pointer (some ⟨nb h2 L1.length, 0, none⟩)), (20, .pointer (some ⟨nb h2 M.length, 0, none⟩)), (98, .slice (some ⟨bw, ow, none⟩) w.length e), (99, I w.length), (100, I k)]) (h' := ext h2 lo (M ++ [some (.cells (bk (bkR w[k] (O[k] - 1))) 0 false false)])) (by repeat (first | exact sub_nil | apply sub_cons rfl)) (by simp only [List.map_nil, List.append_nil]; exact .refl _) ?_
        apply ct_seq
        apply ct_region
        apply seq_plain; exact do_move rfl; exact rfl
        apply seq_plain; exact do_move rfl; exact rfl
        apply seq_plain; exact do_load rfl (by exact ext_get_new List.getElem?_concat_length) rfl (by exact rfl); exact rfl
        apply seq_call (ht := rfl); exact cF2; exact rfl
        apply seq_plain; exact do_move rfl; exact rfl
        apply seq_plain; exact do_extract rfl rfl; exact rfl
        apply seq_plain; exact do_extract rfl rfl; exact rfl
        apply seq_plain; exact do_assign rfl; exact rfl
        apply seq_plain; exact do_assign rfl; exact rfl
        apply seq_nil
        apply ct_seq
        apply ct_region
        apply seq_plain; exact do_move rfl; exact rfl
        apply seq_plain; exact do_binInt rfl rfl rfl trivial; exact rfl
        apply seq_plain; exact do_move rfl; exact rfl
        apply seq_guard (hd := rfl) (hl := rfl); exact do_move rfl; exact rfl
        apply seq_plain; exact do_pick_f rfl rfl; exact rfl
        apply seq_nil
        refine ct_cond_f rfl rfl ?_
        apply ct_skip
        exact jx_of _ ⟨.app _, by simp⟩ (by repeat (first | exact sub_nil | apply sub_cons rfl)) rfl
      · apply ct_skip
        exact jx_of M ⟨.refl _ _, Nat.le_refl _⟩ (by repeat (first | exact sub_nil | apply sub_cons rfl)) rfl
    obtain ⟨hst, hMl2⟩ := ha2
    have hb4 := hst.to (by omega) hb2
    have hn4 := hn2.stay hst
    have ab : allB l w O (k + 1) = now ++ [bkR w[k] O[k]] := by rw [allB_succ h1 hiO, ← hnw]
    clear hb2 hx2 hn2
    apply ct_region
    apply seq_plain; exact do_move rfl; exact rfl
    apply seq_plain; exact do_load rfl (by exact ext_get_new (by assumption)) rfl (by exact rfl); exact rfl
    apply seq_newS; exact do_buildSlice rfl rfl rfl rfl rfl rfl rfl; exact rfl
    refine seq_growX (xs := [bkR w[k] O[k]]) hc' (hn4.app _) (fun _ => rfl) (fun _ => rfl) rfl rfl rfl rfl rfl rfl (ext_get_new List.getElem?_concat_length) rfl (by simp) ?_ (Nat.ne_of_beq_eq_false rfl) (Nat.ne_of_beq_eq_false rfl) rfl (fun L3 hv' hst3 hlen3 => ?_)
    · exact Nat.le_trans (Nat.mul_le_mul_right _ (by simp only [List.length_cons, List.length_nil]; omega : _ ≤ 3000000000)) (Nat.le_of_ble_eq_true rfl)
    apply seq_plain; exact do_assign rfl; exact rfl
    apply seq_nil
    apply ct_region
    apply seq_plain; exact do_succ rfl (by omega); exact rfl
    apply seq_plain; exact do_move rfl; exact rfl
    apply seq_nil
    exact lt_to (by simp only; rw [ab]; repeat (first | exact sub_nil | apply sub_cons rfl)) (.refl _) (ih' (k + 1) _ L3 (by omega) (by omega) (by rw [ab]; exact hv'))
  have h1 : i = w.length := by simp at h1; omega
  subst h1
  clear ih' hnow hi
  apply ct_exit
  apply exit_eq; exact rfl
  apply ct_seq
  apply ct_seq
  apply ct_region
  apply seq_plain; exact do_move rfl; exact rfl
  apply seq_plain; exact do_lenS rfl rfl rfl; exact rfl
  apply seq_plain; exact do_binInt rfl rfl rfl trivial; exact rfl
  apply seq_nil
  refine ct_cond rfl (fun v1 => ?_) (fun v1 => ?_)
  · apply ct_seq
    apply ct_region
    apply seq_plain; exact do_assign rfl; exact rfl
    apply seq_nil
    apply ct_ret
    exact fin_flatB hc hc' hE rfl rfl ⟨rfl, rfl⟩
  have v1 : w.length ≠ 0 := by
    have v1 : ((w.length : Int) == 0) = false := v1
    simp only [beq_eq_false_iff_ne, ne_eq] at v1; omega
  obtain ⟨bw, ow, csw, zw, sw, row, rfl, hgw, hww⟩ := hwe.out (by intro e; rw [e] at v1; simp at v1)
  have hcap := hlow3.cap
  have hwl : (w.take (w.length - 1)).length = w.length - 1 := by rw [List.length_take]; omega
  have hol : (O.take (w.length - 1)).length = w.length - 1 := by rw [List.length_take]; omega
  have cS2 := Serve_c (c := c) (d := d) (e := e) (w := w.take (w.length - 1)) (hse.ext (ext_Ext hc' (lo := lo) (L := L))) hlow (by omega) (hre.ext (ext_Ext hc')) hlow2 hq'.ext (hbl'.ext (ext_Ext hc')) hd (by omega) ((hwe.ext (ext_Ext hc')).take _) ⟨by omega, fun e => (by cases e), fun a e => hlow3.spot a e⟩ (by omega)
  have hqc := ques_cut hqz (w.length - 1)
  obtain ⟨e1, e2⟩ : srvE t l (w.take (w.length - 1)) = 0 ∧ srvO t l (w.take (w.length - 1)) = O.take (w.length - 1) := by
    refine srv_done (firstL_z fun x hx => ?_) ((both_ok hb).fit.2 hfit) (hsv.cut _) (by rw [hwl, hol])
    simp only [List.mem_cons, List.not_mem_nil, or_false] at hx
    rcases hx with rfl | rfl
    · exact hb
    · exact hqc
  rw [e1, e2, hwl] at cS2
  unfold lstV at cS2
  simp only [lstH_ext, ext_fresh] at cS2
  rw [hol] at cS2
  have cT : Ret Tryz.prog 79 [.slice (lstP (nb h2 L.length) (O.take (w.length - 1))) (w.length - 1) (w.length - 1), .slice po (w.length - 1) O.length] (ext h2 lo (L ++ lstL 1 i1 (O.take (w.length - 1)))) (.bool true) (ext h2 lo (L ++ lstL 1 i1 (O.take (w.length - 1)))) := by
    have := sameInts79 (H := ext h2 lo (L ++ lstL 1 i1 (O.take (w.length - 1)))) (c := w.length - 1) (c' := O.length) (p := lstP (nb h2 L.length) (O.take (w.length - 1))) (q := po) (l := O.take (w.length - 1)) (m := O.take (w.length - 1)) (lst_slAt (H := h2) (lo := lo) (L := L) (m := 1) (f := i1) (fun _ => rfl)) ((sO.ext (ext_Ext hc')).take _) (by omega)
    rw [hol, decide_eq_true rfl] at this
    exact this
  have e9 : O.length - 1 = w.length - 1 := by omega
  apply ct_skip
  apply ct_seq
  apply ct_region
  apply seq_plain; exact do_move rfl; exact rfl
  apply seq_plain; exact do_move rfl; exact rfl
  apply seq_plain; exact do_move rfl; exact rfl
  apply seq_plain; exact do_move rfl; exact rfl
  apply seq_plain; exact do_lenS rfl rfl rfl; exact rfl
  apply seq_plain; exact do_predN rfl rfl (by omega) (by omega); exact rfl
  apply seq_plain; exact do_sliceTo rfl rfl rfl (by intro e; cases e) (by rintro _ ⟨⟩; rfl) (by omega); exact rfl
  skip
  apply seq_call (ht := rfl); exact cS2; exact rfl
  apply seq_plain; exact do_move rfl; exact rfl
  apply seq_plain; exact do_extract rfl rfl; exact rfl
  apply seq_plain; exact do_extract rfl rfl; exact rfl
  apply seq_plain; exact do_assign rfl; exact rfl
  apply seq_plain; exact do_assign rfl; exact rfl
  apply seq_nil
  apply ct_seq
  apply ct_region
  apply seq_plain; exact do_move rfl; exact rfl
  apply seq_plain; exact do_binInt rfl rfl rfl trivial; exact rfl
  apply seq_plain; exact do_move rfl; exact rfl
  apply seq_guard (hd := rfl) (hl := rfl); exact do_move rfl; exact rfl
  apply seq_guard (hd := rfl) (hl := rfl); exact do_move rfl; exact rfl
  apply seq_guard (hd := rfl) (hl := rfl); exact do_move rfl; exact rfl
  apply seq_guard (hd := rfl) (hl := rfl); exact do_lenS rfl rfl rfl; exact rfl
  apply seq_guard (hd := rfl) (hl := rfl); exact do_predN rfl rfl (by omega) (by omega); exact rfl
  apply seq_guard (hd := rfl) (hl := rfl); exact do_sliceTo rfl rfl rfl (fun e => lO.nil e) (fun a e => lO.spot a e) (by omega); exact rfl
  rw [e9]
  skip
  apply seq_gcall (hg := rfl) (hl := rfl) (ht := rfl); exact cT; exact rfl
  apply seq_plain; exact do_pick_t rfl rfl; exact rfl
  apply seq_plain; exact do_assign rfl; exact rfl
  apply seq_nil
  apply ct_ret
  exact fin_flatB hc hc' hE rfl rfl ⟨rfl, rfl⟩
end Go.Proofs.YtfegloadbajbhaaGreatDoor
