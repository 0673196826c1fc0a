/- HallQueues: the law's own walk. -/
import Derived.Test.YtfegloadbajbhaaGreatDoorSvD
import Derived.Test.YtfegloadbajbhaaGreatDoorSvE
import Derived.Test.YtfegloadbajbhaaGreatDoorFitB
noncomputable section
namespace Go.Proofs.YtfegloadbajbhaaGreatDoor
open Go Go.Den
set_option maxRecDepth 100000
/-- the error that the law looks for first -/
def queB (t : List Tb) (l : List Bk) (w : List Rq) : Int := firstL [bothE t l, quesE t w]
theorem queB_ite {t : List Tb} {l : List Bk} {w : List Rq} : queB t l w = if bothE t l = 0 then quesE t w else bothE t l := by
  unfold queB firstL
  by_cases h : bothE t l = 0
  · by_cases h2 : quesE t w = 0 <;> simp [h, h2]
  · simp [h]
def queC (t : List Tb) (l : List Bk) (w : List Rq) : Int := if queB t l w ≠ 0 then queB t l w else if fitB t l = true then 0 else 23
theorem srv_C {t : List Tb} {l : List Bk} {w : List Rq} (h : queC t l w ≠ 0) : srvE t l w = queC t l w ∧ srvO t l w = [] := by
  unfold queC at h ⊢
  by_cases hb : queB t l w ≠ 0
  · rw [if_pos hb]; exact srv_bad hb
  · rw [if_neg hb] at h ⊢
    have hb : queB t l w = 0 := Classical.not_not.1 hb
    cases hf : fitB t l
    · exact srv_unfit hb hf
    · rw [hf] at h; exact absurd rfl h
theorem queC_z {t : List Tb} {l : List Bk} {w : List Rq} (h : queC t l w = 0) : bothE t l = 0 ∧ quesE t w = 0 ∧ fitB t l = true := by
  unfold queC at h
  by_cases hb : queB t l w ≠ 0
  · rw [if_pos hb] at h; exact absurd h hb
  · rw [if_neg hb] at h
    have hb : queB t l w = 0 := Classical.not_not.1 hb
    refine ⟨firstL_allZ hb _ (by simp), firstL_allZ hb _ (by simp), ?_⟩
    cases hf : fitB t l
    · rw [hf] at h; exact absurd h (by decide)
    · rfl
theorem srv_zero {t : List Tb} {l : List Bk} {w : List Rq} (h : queC t l w = 0) : whenL (!(srvE t l w == 0)) 4 = srvE t l w ∧ (srvE t l w ≠ 0 → srvO t l w = []) := by
  obtain ⟨h1, h2, h3⟩ := queC_z h
  have hb : firstL [bothE t l, quesE t w] = 0 := firstL_z fun x hx => by
    simp only [List.mem_cons, List.not_mem_nil, or_false] at hx
    rcases hx with rfl | rfl
    · exact h1
    · exact h2
  have e : srvE t l w = if (srvV t l w).isNone = true then 4 else 0 := by
    unfold srvE
    rw [if_neg (by rw [hb]; simp), if_neg (by rw [h3]; simp)]
  refine ⟨?_, fun hne => if_neg hne⟩
  rw [e]
  cases (srvV t l w).isNone <;> rfl
theorem list_same {O : List Int} {E : Int} (h : E ≠ 0 → O = []) : listB O E E O = true := by
  unfold listB
  by_cases he : E ≠ 0
  · rw [if_pos he, h he]; simp
  · rw [if_neg he, Classical.not_not.1 he]; simp
set_option maxHeartbeats 16000000 in
theorem queues_w {H : AHeap} {q r p : Option Addr} {c d e : Nat} {t : List Tb} {l : List Bk} {w : List Rq} (haw : ∀ h, Ext H h → Ret Tryz.prog 17 [] h (.bool true) h) (hs : SlAt H 2 tb q t) (hlow : LowS q c t.length) (hn : t.length ≤ 1048576) (hr : SlAt H 4 bk r l) (hlow2 : LowS r d l.length) (hq : OldS H r) (hbl : BlkS H r) (hd : r = none → d = 0) (hm : l.length ≤ 1048576) (hw : SlAt H 4 rq p w) (hlow3 : LowS p e w.length) (hk : w.length ≤ 1048576) :
    Ret Tryz.prog 6 [.slice q t.length c, .slice r l.length d, .slice p w.length e] H (.bool true) H := by
  refine fn_start Tryz.func6 rfl rfl rfl fun hc => ?_
  have c1 := fun L => own_c (c := c) (d := d) (hs.ext (ext_Ext hc (lo := H.fresh) (L := L))) (by omega) (hr.ext (ext_Ext hc (lo := H.fresh) (L := L))) (by omega)
  have c2 := fun L => ownRq_c (c := e) (hw.ext (ext_Ext hc (lo := H.fresh) (L := L))) (by omega)
  simp only [lstH_ext, ext_fresh] at c1 c2
  apply ct_seq
  apply ct_region
  apply seq_plain; exact do_assign rfl; exact rfl
  apply seq_nil
  apply ct_seq
  apply ct_region
  apply seq_plain; exact do_move rfl; exact rfl
  apply seq_plain; exact do_move rfl; exact rfl
  apply seq_call (ht := rfl); exact c1 []; exact rfl
  apply seq_plain; exact do_move rfl; exact rfl
  apply seq_plain; exact do_extract rfl rfl; exact rfl
  apply seq_plain; exact do_extract rfl rfl; exact rfl
  apply seq_plain; exact do_assign rfl; exact rfl
  apply seq_plain; exact do_assign rfl; exact rfl
  apply seq_nil
  apply ct_seq
  apply ct_region
  apply seq_plain; exact do_move rfl; exact rfl
  apply seq_call (ht := rfl); exact c2 _; exact rfl
  obtain ⟨x, hx⟩ : ∃ x, x = lstP (nb H ([] : List (Option ABlk)).length) t := ⟨_, rfl⟩
  obtain ⟨y, hy⟩ : ∃ y, y = lstP (nb H (([] : List (Option ABlk)) ++ lstL 2 tb t).length) l := ⟨_, rfl⟩
  obtain ⟨z, hz⟩ : ∃ z, z = lstP (nb H (([] : List (Option ABlk)) ++ lstL 2 tb t ++ lstL 4 bk l).length) w := ⟨_, rfl⟩
  have s3 : SlAt (ext H H.fresh ([] ++ lstL 2 tb t ++ lstL 4 bk l ++ lstL 4 rq w)) 4 rq z w := by rw [hz]; exact lst_slAt rq_len
  have s1 : SlAt (ext H H.fresh ([] ++ lstL 2 tb t ++ lstL 4 bk l ++ lstL 4 rq w)) 4 bk y l := by
    have := lst_slAt (H := H) (lo := H.fresh) (L := [] ++ lstL 2 tb t) (m := 4) (f := bk) (l := l) bk_len
    rw [hy]
    exact this.ext (ext_more hc)
  have hyb : BlkS (ext H H.fresh ([] ++ lstL 2 tb t ++ lstL 4 bk l ++ lstL 4 rq w)) y := by
    have := blk_lst (H := H) (lo := H.fresh) (m := 4) (L := [] ++ lstL 2 tb t) (f := bk) (l := l)
    rw [hy]
    exact this.ext (ext_more hc)
  have s2 : SlAt (ext H H.fresh ([] ++ lstL 2 tb t ++ lstL 4 bk l ++ lstL 4 rq w)) 2 tb x t := by
    have := lst_slAt (H := H) (lo := H.fresh) (L := []) (m := 2) (f := tb) (l := t) tb_len
    rw [hx]
    exact (this.ext (ext_more hc (lo' := H.fresh) (M := lstL 4 bk l))).ext (ext_more hc)
  refine seqL_to (l' := [(0, .slice q t.length c), (1, .slice r l.length d), (2, .slice p w.length e), (6, .bool false), (7, .slice x t.length t.length), (8, .slice y l.length l.length), (22, .slice z w.length w.length)]) (by rw [hx, hy, hz]; repeat (first | exact sub_nil | apply sub_cons rfl)) ext_base (by simp) ?_
  obtain ⟨h, hh⟩ : ∃ h, h = ext H H.fresh ([] ++ lstL 2 tb t ++ lstL 4 bk l ++ lstL 4 rq w) := ⟨_, rfl⟩
  have hc' : Closed h := by rw [hh]; exact ext_closed hc
  have hE : Ext H h := by rw [hh]; exact ext_Ext hc
  have hq' : OldS h r := by rw [hh]; exact hq.ext
  have hbl' := hbl.ext hE
  rw [← hh] at s1 s2 s3 hyb ⊢
  clear hh hx hy hz c1 c2
  have aw := fun lo L => haw _ (hE.trans (ext_Ext (lo := lo) (L := L) hc'))
  have sh := fun lo L => short_c (d := l.length) (c := t.length) (e := w.length) (s2.ext (ext_Ext (lo := lo) (L := L) hc')) (by omega) (s1.ext (ext_Ext (lo := lo) (L := L) hc')) (by omega) (s3.ext (ext_Ext (lo := lo) (L := L) hc')) (by omega)
  have hse := hs.ext hE
  have hre := hr.ext hE
  have hwe := hw.ext hE
  apply seq_plain; exact do_assign rfl; exact rfl
  apply seq_nil
  apply ct_seq
  apply ct_seq
  apply ct_region
  apply seq_call (ht := rfl); exact aw _ _; exact rfl
  apply seq_plain; exact do_unOp rfl rfl; exact rfl
  apply seq_plain; exact do_move rfl; exact rfl
  apply seq_guard (hd := rfl) (hl := rfl); exact do_move rfl; exact rfl
  apply seq_guard (hd := rfl) (hl := rfl); exact do_move rfl; exact rfl
  apply seq_guard (hd := rfl) (hl := rfl); exact do_move rfl; exact rfl
  apply seq_gcall (hg := rfl) (hl := rfl) (ht := rfl); exact sh _ _; exact rfl
  apply seq_guard (hd := rfl) (hl := rfl); exact do_unOp rfl rfl; exact rfl
  apply seq_plain; exact do_pick_f rfl rfl; exact rfl
  apply seq_nil
  refine ct_cond rfl (fun u0 => ?_) (fun u0 => ?_)
  · apply ct_seq
    apply ct_region
    apply seq_call (ht := rfl); exact aw _ _; exact rfl
    apply seq_plain; exact do_assign rfl; exact rfl
    apply seq_nil
    apply ct_ret
    exact fin_flatB hc hc' hE rfl rfl ⟨rfl, rfl⟩
  have n1 : shortH t l w = true := by
    have u0 : (!shortH t l w) = false := u0
    simpa using u0
  obtain ⟨m1, m2, m3⟩ := shortH_len n1
  clear u0 n1 sh aw
  apply ct_skip
  apply ct_seq
  apply ct_region
  apply seq_plain; exact do_move rfl; exact rfl
  apply seq_plain; exact do_move rfl; exact rfl
  apply seq_call (ht := rfl); exact refCheck_c (s2.ext (ext_Ext hc')) (by omega) (s1.ext (ext_Ext hc')) (by omega); exact rfl
  apply seq_plain; exact do_assign rfl; exact rfl
  apply seq_nil
  apply ct_seq
  apply ct_seq
  apply ct_region
  apply seq_plain; exact do_move rfl; exact rfl
  apply seq_plain; exact do_binInt rfl rfl rfl trivial; exact rfl
  apply seq_nil
  refine ct_JE [(0, .slice q t.length c), (1, .slice r l.length d), (2, .slice p w.length e), (7, .slice x t.length t.length), (8, .slice y l.length l.length), (9, .slice z w.length w.length), (10, I (queB t l w))] (ds := []) (h := ext h (min H.fresh H.fresh) []) ?_ ?_
  · rw [queB_ite]
    refine ct_cond rfl (fun u => ?_) (fun u => ?_)
    · have u : bothE t l = 0 := by simpa using u
      rw [if_pos u]
      apply ct_region
      apply seq_plain; exact do_move rfl; exact rfl
      apply seq_plain; exact do_move rfl; exact rfl
      apply seq_call (ht := rfl); exact refQueue_c (s2.ext (ext_Ext hc')) (by omega) (s3.ext (ext_Ext hc')) (by omega); exact rfl
      apply seq_plain; exact do_assign rfl; exact rfl
      apply seq_nil
      exact jp_of (by repeat (first | exact sub_nil | apply sub_cons rfl))
    · have u : bothE t l ≠ 0 := by simpa using u
      rw [if_neg u]
      apply ct_skip
      exact jp_of (by repeat (first | exact sub_nil | apply sub_cons rfl))
  apply ct_seq
  apply ct_seq
  apply ct_region
  apply seq_plain; exact do_move rfl; exact rfl
  apply seq_plain; exact do_binInt rfl rfl rfl trivial; exact rfl
  apply seq_plain; exact do_move rfl; exact rfl
  obtain ⟨T2, hT2⟩ : ∃ T2, T2 = ((queB t l w == 0) && (decide ((l.length : Int) > 10) || decide ((w.length : Int) > 8))) := ⟨_, rfl⟩
  refine seq_J [(0, .slice q t.length c), (1, .slice r l.length d), (2, .slice p w.length e), (7, .slice x t.length t.length), (8, .slice y l.length l.length), (9, .slice z w.length w.length), (10, I (queB t l w)), (52, .bool T2)] (ds := []) (h := ext h (min H.fresh H.fresh) []) ?_ ?_
  · refine seq_gsplit rfl rfl (fun v0 => ?_) (fun v0 => ?_)
    · have v0 : (queB t l w == 0) = true := v0
      apply seq_guard (hd := rfl) (hl := rfl); exact do_move rfl; exact rfl
      apply seq_guard (hd := rfl) (hl := rfl); exact do_lenS rfl rfl rfl; exact rfl
      apply seq_guard (hd := rfl) (hl := rfl); exact do_binInt rfl rfl rfl trivial; exact rfl
      apply seq_guard (hd := rfl) (hl := rfl); exact do_move rfl; exact rfl
      refine seq_gsplit rfl rfl (fun v1 => ?_) (fun v1 => ?_)
      · have v1 : decide ((l.length : Int) > 10) = true := v1
        have ez : T2 = true := by rw [hT2, v0, v1]; rfl
        rw [ez]
        apply seq_passed (hd := rfl) (hl := rfl) (hb := rfl); exact rfl
        apply seq_passed (hd := rfl) (hl := rfl) (hb := rfl); exact rfl
        apply seq_passed (hd := rfl) (hl := rfl) (hb := rfl); exact rfl
        apply seq_guard (hd := rfl) (hl := rfl); exact do_pick_t rfl rfl; exact rfl
        apply seq_plain; exact do_pick_t rfl rfl; exact rfl
        apply seq_nil
        exact jp_of (by repeat (first | exact sub_nil | apply sub_cons rfl))
      · have v1 : decide ((l.length : Int) > 10) = false := v1
        have ez : T2 = decide ((w.length : Int) > 8) := by rw [hT2, v0, v1]; rfl
        rw [ez]
        apply seq_guard (hd := rfl) (hl := rfl); exact do_move rfl; exact rfl
        apply seq_guard (hd := rfl) (hl := rfl); exact do_lenS rfl rfl rfl; exact rfl
        apply seq_guard (hd := rfl) (hl := rfl); exact do_binInt rfl rfl rfl trivial; exact rfl
        apply seq_guard (hd := rfl) (hl := rfl); exact do_pick_f rfl rfl; exact rfl
        apply seq_plain; exact do_pick_t rfl rfl; exact rfl
        apply seq_nil
        exact jp_of (by repeat (first | exact sub_nil | apply sub_cons rfl))
    · have v0 : (queB t l w == 0) = false := v0
      have ez : T2 = false := by rw [hT2, v0]; rfl
      rw [ez]
      apply seq_passed (hd := rfl) (hl := rfl) (hb := rfl); exact rfl
      apply seq_passed (hd := rfl) (hl := rfl) (hb := rfl); exact rfl
      apply seq_passed (hd := rfl) (hl := rfl) (hb := rfl); exact rfl
      apply seq_passed (hd := rfl) (hl := rfl) (hb := rfl); exact rfl
      apply seq_passedU (hd := rfl) (hl := rfl); exact rfl
      apply seq_passedU (hd := rfl) (hl := rfl); exact rfl
      apply seq_passedU (hd := rfl) (hl := rfl); exact rfl
      apply seq_passed (hd := rfl) (hl := rfl) (hb := rfl); exact rfl
      apply seq_plain; exact do_pick_f rfl rfl; exact rfl
      apply seq_nil
      exact jp_of (by repeat (first | exact sub_nil | apply sub_cons rfl))
  refine ct_cond rfl (fun v0 => ?_) (fun v0 => ?_)
  · apply ct_seq
    apply ct_region
    apply seq_plain; exact do_assign rfl; exact rfl
    apply seq_nil
    apply ct_ret
    exact fin_flatB hc hc' hE rfl rfl ⟨rfl, rfl⟩
  clear hT2 v0
  have cS := Serve_c (c := c) (d := d) (e := e) (hse.ext (ext_Ext hc' (lo := min H.fresh H.fresh) (L := []))) hlow (by omega) (hre.ext (ext_Ext hc')) hlow2 hq'.ext (hbl'.ext (ext_Ext hc')) hd (by omega) (hwe.ext (ext_Ext hc')) hlow3 (by omega)
  simp only [lstH_ext, ext_fresh] at cS
  apply ct_skip
  apply ct_seq
  apply ct_region
  apply seq_plain; exact do_move rfl; exact rfl
  apply seq_plain; exact do_move rfl; exact rfl
  apply seq_plain; exact do_move rfl; exact rfl
  apply seq_call (ht := rfl); exact cS; exact rfl
  obtain ⟨O, hO⟩ : ∃ O, O = srvO t l w := ⟨_, rfl⟩
  obtain ⟨E, hEE⟩ : ∃ E, E = srvE t l w := ⟨_, rfl⟩
  rw [← hO, ← hEE]
  obtain ⟨po, hpo⟩ : ∃ po, po = lstP (nb h ([] : List (Option ABlk)).length) O := ⟨_, rfl⟩
  have sO : SlAt (ext h (min H.fresh H.fresh) ([] ++ lstL 1 i1 O)) 1 i1 po O := by rw [hpo]; exact lst_slAt (fun _ => rfl)
  refine seqL_to (l' := [(7, .slice x t.length t.length), (8, .slice y l.length l.length), (9, .slice z w.length w.length), (10, I (queB t l w)), (57, .tuple ⟨[.slice po O.length O.length, I E]⟩)]) (by rw [hpo]; repeat (first | exact sub_nil | apply sub_cons rfl)) ext_base (by simp) ?_
  obtain ⟨h2, hh2⟩ : ∃ h2, h2 = ext h (min H.fresh H.fresh) ([] ++ lstL 1 i1 O) := ⟨_, rfl⟩
  have s1 : SlAt h2 4 bk y l := by rw [hh2]; exact s1.ext (ext_Ext hc')
  have s2 : SlAt h2 2 tb x t := by rw [hh2]; exact s2.ext (ext_Ext hc')
  have s3 : SlAt h2 4 rq z w := by rw [hh2]; exact s3.ext (ext_Ext hc')
  have hyb : BlkS h2 y := by rw [hh2]; exact hyb.ext (ext_Ext hc')
  have hE : Ext H h2 := by rw [hh2]; exact hE.trans (ext_Ext hc')
  have hc' : Closed h2 := by rw [hh2]; exact ext_closed hc'
  rw [← hh2] at sO ⊢
  refine seq_anyLo fun lo => ?_
  clear hh2 cS hpo
  have hOl : O.length < 1000000000000 := by
    have := srvO_len (t := t) (l := l) (w := w)
    rw [hO]; omega
  apply seq_plain; exact do_move rfl; exact rfl
  apply seq_plain; exact do_extract rfl rfl; exact rfl
  apply seq_plain; exact do_extract rfl rfl; exact rfl
  apply seq_plain; exact do_assign rfl; exact rfl
  apply seq_plain; exact do_assign rfl; exact rfl
  apply seq_nil
  apply ct_seq
  apply ct_seq
  apply ct_region
  apply seq_plain; exact do_move rfl; exact rfl
  apply seq_plain; exact do_binInt rfl rfl rfl trivial; exact rfl
  apply seq_nil
  refine ct_JE [(7, .slice x t.length t.length), (8, .slice y l.length l.length), (9, .slice z w.length w.length), (10, I (queC t l w)), (11, .slice po O.length O.length), (12, I E)] (ds := []) (h := ext h2 lo []) ?_ ?_
  · unfold queC
    refine ct_cond rfl (fun u => ?_) (fun u => ?_)
    · have u : queB t l w = 0 := by simpa using u
      rw [if_neg (by rw [u]; simp)]
      have hb : bothE t l = 0 := firstL_allZ u _ (by simp)
      have ef : whenL (!(!(roA t l l.length).2.2)) 23 = if fitB t l = true then 0 else 23 := by
        rw [(both_ok hb).ov.2]
        cases (roA t l l.length).2.2 <;> rfl
      apply ct_region
      apply seq_plain; exact do_move rfl; exact rfl
      apply seq_plain; exact do_move rfl; exact rfl
      apply seq_call (ht := rfl); exact refFits_c (s2.ext (ext_Ext hc')) (by omega) (s1.ext (ext_Ext hc')) (by omega); exact rfl
      apply seq_plain; exact do_unOp rfl rfl; exact rfl
      apply seq_call (ht := rfl); exact when23; exact rfl
      apply seq_plain; exact do_assign rfl; exact rfl
      apply seq_nil
      rw [ef]
      exact jp_of (by repeat (first | exact sub_nil | apply sub_cons rfl))
    · have u : queB t l w ≠ 0 := by simpa using u
      rw [if_pos u]
      apply ct_skip
      exact jp_of (by repeat (first | exact sub_nil | apply sub_cons rfl))
  apply ct_seq
  apply ct_seq
  apply ct_region
  apply seq_plain; exact do_move rfl; exact rfl
  apply seq_plain; exact do_binInt rfl rfl rfl trivial; exact rfl
  apply seq_nil
  refine ct_cond rfl (fun u => ?_) (fun u => ?_)
  · have u : queC t l w ≠ 0 := by simpa using u
    obtain ⟨e1, e2⟩ := srv_C u
    have cl := fun lo L => list_c (m := []) (c' := 0) (q := none) (e := E) (bad := queC t l w) (c := O.length) (sO.ext (ext_Ext hc' (lo := lo) (L := L))) .nil hOl
    have et : listB O E (queC t l w) [] = true := by
      have := list_same (O := O) (E := E) (fun _ => by rw [hO]; exact e2)
      rw [hEE, e1, hO, e2] at this
      rw [hEE, e1, hO, e2]; exact this
    rw [et] at cl
    apply ct_seq
    apply ct_region
    apply seq_plain; exact do_move rfl; exact rfl
    apply seq_plain; exact do_move rfl; exact rfl
    apply seq_plain; exact do_move rfl; exact rfl
    apply seq_call (ht := rfl); exact cl _ _; exact rfl
    apply seq_plain; exact do_assign rfl; exact rfl
    apply seq_nil
    apply ct_ret
    exact fin_flatB hc hc' hE rfl rfl ⟨rfl, rfl⟩
  have u : queC t l w = 0 := by simpa using u
  obtain ⟨hb, hqz, hfb⟩ := queC_z u
  obtain ⟨e1, e2⟩ := srv_zero u
  have cR := refServe_c (c := t.length) (d := l.length) (e := w.length) (s2.ext (ext_Ext hc' (lo := lo) (L := []))) (by omega) (s1.ext (ext_Ext hc')) (hyb.ext (ext_Ext hc')) (s3.ext (ext_Ext hc')) hb hqz ((both_ok hb).fit.1 hfb)
  simp only [lstH_ext, ext_fresh] at cR
  rw [← hO, ← hEE] at cR
  rw [← hEE] at e1 e2
  rw [← hO] at e2
  have cl := list_c (m := O) (c' := O.length) (q := lstP (nb h2 ([] : List (Option ABlk)).length) O) (e := E) (bad := E) (c := O.length) (sO.ext (ext_Ext hc' (lo := lo) (L := [] ++ lstL 1 i1 O))) (lst_slAt (H := h2) (lo := lo) (L := []) (m := 1) (f := i1) (l := O) (fun _ => rfl)) hOl
  rw [list_same e2] at cl
  apply ct_skip
  apply ct_seq
  apply ct_region
  apply seq_plain; exact do_move rfl; exact rfl
  apply seq_plain; exact do_move rfl; exact rfl
  apply seq_plain; exact do_move rfl; exact rfl
  apply seq_call (ht := rfl); exact cR; exact rfl
  apply seq_plain; exact do_move rfl; exact rfl
  apply seq_plain; exact do_extract rfl rfl; exact rfl
  apply seq_plain; exact do_extract rfl rfl; exact rfl
  apply seq_plain; exact do_assign rfl; exact rfl
  apply seq_plain; exact do_assign rfl; exact rfl
  apply seq_nil
  apply ct_seq
  apply ct_region
  apply seq_plain; exact do_move rfl; exact rfl
  apply seq_plain; exact do_move rfl; exact rfl
  apply seq_plain; exact do_move rfl; exact rfl
  apply seq_plain; exact do_unOp rfl rfl; exact rfl
  apply seq_call (ht := rfl); exact when23; exact rfl
  apply seq_plain; exact do_move rfl; exact rfl
  rw [e1]
  skip
  apply seq_call (ht := rfl); exact cl; exact rfl
  apply seq_plain; exact do_assign rfl; exact rfl
  apply seq_nil
  apply ct_ret
  exact fin_flatB hc hc' hE rfl rfl ⟨rfl, rfl⟩
end Go.Proofs.YtfegloadbajbhaaGreatDoor
