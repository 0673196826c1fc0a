/- HallFits: the law's own walk. -/
import Derived.Test.YtfegloadbajbhaaGreatDoorOpnE
import Derived.Test.YtfegloadbajbhaaGreatDoorDeA
noncomputable section
namespace Go.Proofs.YtfegloadbajbhaaGreatDoor
open Go Go.Den
set_option maxRecDepth 100000
theorem seq_gen1 {P : Program} {rd : Option Nat} {nt : Nat} {ops : Array Oper} {r : List Oper} {i : Nat} {ds : List Nat} {e : Env} {H : AHeap} {lo : Nat} {L : List (Option ABlk)} {K : St → Prop} {j : Nat} {x : ABlk} (h0 : L[j]? = some (some x)) (hk : ∀ L' : List (Option ABlk), L'[j]? = some (some x) → SeqL P rd nt ops r i ⟨e, ds, ext H lo L'⟩ K) : SeqL P rd nt ops r i ⟨e, ds, ext H lo L⟩ K := hk L h0
theorem blk_lst {α : Type} {H : AHeap} {lo m : Nat} {L : List (Option ABlk)} {f : α → List Value} {l : List α} : BlkS (ext H lo (L ++ lstL m f l)) (lstP (nb H L.length) l) := by
  cases l with
  | nil => exact .nil
  | cons a l => exact .at_ (ext_get_new List.getElem?_concat_length)
theorem books_one {b : Bk} : booksE [b] = bookE b := by
  unfold booksE
  rw [if_neg (by simp)]
  by_cases h : bookE b = 0
  · simp [restG, errG, firstL, h]
  · simp [restG, errG, firstL, h]
theorem fits_ref {t : List Tb} {l : List Bk} {b : Bk} (h : fitsE t l b = 0) (hl : l.length < 256) : fitsV t l b = !(roA t (l ++ [b]) (l ++ [b]).length).2.2 := by
  have ha := firstL_allZ h
  have h1 : bothE t l = 0 := ha _ (by simp)
  have h2 : bookE b = 0 := ha _ (by simp)
  have h3 := whenL_z (ha (whenL ((cntK t b.kind : Int) == 0) 10) (by simp)) (by decide)
  have h3 : 0 < cntK t b.kind := by
    simp only [beq_eq_false_iff_ne, ne_eq] at h3; omega
  have e : fitsV t l b = fitB t (l ++ [b]) := if_neg (by rw [h]; simp)
  rw [e, ((both_ok h1).grow (bookE_ok h2) h3 hl).ov.2]
theorem opn_ref {t : List Tb} {l : List Bk} {k : ByteArray} (h : opnE t l k = 0) : opnX t l k = whenL (!(!(roA t l l.length).2.2)) 23 := by
  unfold opnX
  rw [if_neg (by rw [h]; simp), (both_ok (opnE_both h)).ov.2]
  cases (roA t l l.length).2.2 <;> rfl
theorem opV_len {t : List Tb} {l : List Bk} {k : ByteArray} : (opV t l k).length ≤ 99999 := by
  unfold opV
  split
  · rename_i hx
    have := hx.choose_spec.len (by omega)
    omega
  · simp
theorem opnO_len {t : List Tb} {l : List Bk} {k : ByteArray} : (opnO t l k).length ≤ 99999 := by
  unfold opnO
  split
  · exact opV_len
  · simp
theorem seq_anyLo {P : Program} {rd : Option Nat} {nt : Nat} {ops : Array Oper} {r : List Oper} {i : Nat} {ds : List Nat} {e : Env} {H : AHeap} {lo : Nat} {L : List (Option ABlk)} {K : St → Prop} (hk : ∀ lo' : Nat, SeqL P rd nt ops r i ⟨e, ds, ext H lo' L⟩ K) : SeqL P rd nt ops r i ⟨e, ds, ext H lo L⟩ K := hk lo
theorem truth_id {v : Bool} {e : Int} (h : e ≠ 0 → v = false) : truthB v e e v = true := by
  unfold truthB
  by_cases he : e ≠ 0
  · rw [if_pos he, h he]; simp
  · rw [if_neg he, Classical.not_not.1 he]; simp
set_option maxHeartbeats 16000000 in
theorem fits_w {H : AHeap} {q r : Option Addr} {c d : Nat} {t : List Tb} {l : List Bk} {b : Bk} (haw : ∀ h, Ext H h → Ret Tryz.prog 17 [] h (.bool true) h) (hs : SlAt H 2 tb q t) (hlow : LowS q c t.length) (hn : t.length ≤ 1048576) (hr : SlAt H 4 bk r l) (hlow2 : LowS r d l.length) (hq : OldS H r) (hbl : BlkS H r) (hd : r = none → d = 0) (hm : l.length ≤ 1048576) :
    Ret Tryz.prog 5 [.slice q t.length c, .slice r l.length d, .agg ⟨bk b⟩] H (.bool true) H := by
  refine fn_start Tryz.func5 rfl rfl rfl fun hc => ?_
  have c1 := fun L => own_c (c := c) (d := d) (hs.ext (ext_Ext hc (lo := H.fresh) (L := L))) (by omega) (hr.ext (ext_Ext hc (lo := H.fresh) (L := L))) (by omega)
  simp only [lstH_ext, ext_fresh] at c1
  apply ct_seq
  apply ct_region
  apply seq_newP; exact do_box rfl rfl rfl; exact rfl
  apply seq_plain; exact do_assign rfl; exact rfl
  apply seq_nil
  apply ct_seq
  apply ct_region
  apply seq_plain; exact do_move rfl; exact rfl
  apply seq_plain; exact do_move rfl; exact rfl
  refine seq_gen1 (j := 0) (x := .cells (bk b) 0 false false) rfl (fun Lb hLb => ?_)
  apply seq_call (ht := rfl); exact c1 Lb; exact rfl
  apply seq_plain; exact do_move rfl; exact rfl
  apply seq_plain; exact do_extract rfl rfl; exact rfl
  apply seq_plain; exact do_extract rfl rfl; exact rfl
  apply seq_plain; exact do_assign rfl; exact rfl
  apply seq_plain; exact do_assign rfl; exact rfl
  apply seq_nil
  apply ct_seq
  apply ct_seq
  apply ct_region
  obtain ⟨p, hp⟩ : ∃ p, p = lstP (nb H Lb.length) t := ⟨_, rfl⟩
  obtain ⟨u, hu⟩ : ∃ u, u = lstP (nb H (Lb ++ lstL 2 tb t).length) l := ⟨_, rfl⟩
  obtain ⟨bx, hbx⟩ : ∃ bx, bx = nb H 0 := ⟨_, rfl⟩
  have s1 : SlAt (ext H H.fresh (Lb ++ lstL 2 tb t ++ lstL 4 bk l)) 4 bk u l := by rw [hu]; exact lst_slAt bk_len
  have hub : BlkS (ext H H.fresh (Lb ++ lstL 2 tb t ++ lstL 4 bk l)) u := by rw [hu]; exact blk_lst
  have s2 : SlAt (ext H H.fresh (Lb ++ lstL 2 tb t ++ lstL 4 bk l)) 2 tb p t := by
    have := lst_slAt (H := H) (lo := H.fresh) (L := Lb) (m := 2) (f := tb) (l := t) tb_len
    rw [hp]
    exact this.ext (ext_more hc)
  have hgx : (ext H H.fresh (Lb ++ lstL 2 tb t ++ lstL 4 bk l)).get bx = some (.cells (bk b) 0 false false) := by rw [hbx]; exact ext_get_new (getApp (getApp hLb))
  refine seqL_to (l' := [(0, .slice q t.length c), (1, .slice r l.length d), (5, .pointer (some ⟨bx, 0, none⟩)), (6, .bool false), (7, .slice p t.length t.length), (8, .slice u l.length l.length)]) (by rw [hp, hu, hbx]; repeat (first | exact sub_nil | apply sub_cons rfl)) ext_base (by simp) ?_
  obtain ⟨h, hh⟩ : ∃ h, h = ext H H.fresh (Lb ++ lstL 2 tb t ++ lstL 4 bk l) := ⟨_, rfl⟩
  have hc' : Closed h := by rw [hh]; exact ext_closed hc
  have hE : Ext H h := by rw [hh]; exact ext_Ext hc
  have hq' : OldS h r := by rw [hh]; exact hq.ext
  have hbl' := hbl.ext hE
  rw [← hh] at s1 s2 hub hgx ⊢
  clear hh hp hu c1 hbx hLb Lb
  have aw := fun lo L => haw _ (hE.trans (ext_Ext (lo := lo) (L := L) hc'))
  have sh := fun lo L => short_c (d := l.length) (c := t.length) (e := 0) (s2.ext (ext_Ext (lo := lo) (L := L) hc')) (by omega) (s1.ext (ext_Ext (lo := lo) (L := L) hc')) (by omega) (SlAt.nil (p := none)) (by simp)
  obtain ⟨T, hT⟩ : ∃ T, T = ((!shortH t l [] || decide ((b.name.size : Int) > 40)) || decide ((b.kind.size : Int) > 40)) := ⟨_, rfl⟩
  apply seq_call (ht := rfl); exact aw _ _; exact rfl
  apply seq_plain; exact do_unOp rfl rfl; exact rfl
  apply seq_plain; exact do_move rfl; exact rfl
  apply seq_guard (hd := rfl) (hl := rfl); exact do_move rfl; exact rfl
  apply seq_guard (hd := rfl) (hl := rfl); exact do_move rfl; exact rfl
  apply seq_gcall (hg := rfl) (hl := rfl) (ht := rfl); exact sh _ _; exact rfl
  apply seq_guard (hd := rfl) (hl := rfl); exact do_unOp rfl rfl; exact rfl
  apply seq_plain; exact do_pick_f rfl rfl; exact rfl
  apply seq_plain; exact do_move rfl; exact rfl
  refine seq_J [(0, .slice q t.length c), (1, .slice r l.length d), (5, .pointer (some ⟨bx, 0, none⟩)), (6, .bool false), (7, .slice p t.length t.length), (8, .slice u l.length l.length), (42, .bool T)] (ds := []) (h := ext h (min H.fresh H.fresh) []) ?_ ?_
  · refine seq_gsplit rfl rfl (fun u0 => ?_) (fun u0 => ?_)
    · have u0 : (!shortH t l []) = true := u0
      have e : T = true := by rw [hT, u0]; rfl
      rw [e]
      apply seq_passed (hd := rfl) (hl := rfl) (hb := rfl); exact rfl
      apply seq_passed (hd := rfl) (hl := rfl) (hb := rfl); exact rfl
      apply seq_passed (hd := rfl) (hl := rfl) (hb := rfl); exact rfl
      apply seq_passed (hd := rfl) (hl := rfl) (hb := rfl); exact rfl
      apply seq_plain; exact do_pick_t rfl rfl; exact rfl
      apply seq_plain; exact do_move rfl; exact rfl
      apply seq_passed (hd := rfl) (hl := rfl) (hb := rfl); exact rfl
      apply seq_passed (hd := rfl) (hl := rfl) (hb := rfl); exact rfl
      apply seq_passed (hd := rfl) (hl := rfl) (hb := rfl); exact rfl
      apply seq_passed (hd := rfl) (hl := rfl) (hb := rfl); exact rfl
      apply seq_plain; exact do_pick_t rfl rfl; exact rfl
      apply seq_nil
      exact jp_of (by repeat (first | exact sub_nil | apply sub_cons rfl))
    · have u0 : (!shortH t l []) = false := u0
      apply seq_guard (hd := rfl) (hl := rfl); exact do_fieldAddr rfl rfl; exact rfl
      apply seq_guard (hd := rfl) (hl := rfl); exact do_load rfl (by exact ext_get_old (by assumption) (by assumption)) rfl (by exact rfl); exact rfl
      apply seq_guard (hd := rfl) (hl := rfl); exact do_lenStr rfl rfl rfl; exact rfl
      apply seq_guard (hd := rfl) (hl := rfl); exact do_binInt rfl rfl rfl trivial; exact rfl
      apply seq_plain; exact do_pick_f rfl rfl; exact rfl
      apply seq_plain; exact do_move rfl; exact rfl
      refine seq_gsplit rfl rfl (fun u1 => ?_) (fun u1 => ?_)
      · have u1 : decide ((b.name.size : Int) > 40) = true := u1
        have e : T = true := by rw [hT, u0, u1]; rfl
        rw [e]
        apply seq_passed (hd := rfl) (hl := rfl) (hb := rfl); exact rfl
        apply seq_passed (hd := rfl) (hl := rfl) (hb := rfl); exact rfl
        apply seq_passed (hd := rfl) (hl := rfl) (hb := rfl); exact rfl
        apply seq_passed (hd := rfl) (hl := rfl) (hb := rfl); exact rfl
        apply seq_plain; exact do_pick_t rfl rfl; exact rfl
        apply seq_nil
        exact jp_of (by repeat (first | exact sub_nil | apply sub_cons rfl))
      · have u1 : decide ((b.name.size : Int) > 40) = false := u1
        have e : T = decide ((b.kind.size : Int) > 40) := by rw [hT, u0, u1]; rfl
        rw [e]
        apply seq_guard (hd := rfl) (hl := rfl); exact do_fieldAddr rfl rfl; exact rfl
        apply seq_guard (hd := rfl) (hl := rfl); exact do_load rfl (by exact ext_get_old (by assumption) (by assumption)) rfl (by exact rfl); exact rfl
        apply seq_guard (hd := rfl) (hl := rfl); exact do_lenStr rfl rfl rfl; exact rfl
        apply seq_guard (hd := rfl) (hl := rfl); exact do_binInt rfl rfl rfl trivial; exact rfl
        apply seq_plain; exact do_pick_f rfl rfl; exact rfl
        apply seq_nil
        exact jp_of (by repeat (first | exact sub_nil | apply sub_cons rfl))
  refine ct_cond rfl (fun u0 => ?_) (fun u0 => ?_)
  · apply ct_seq
    apply ct_region
    apply seq_call (ht := rfl); exact aw _ _; exact rfl
    apply seq_plain; exact do_assign rfl; exact rfl
    apply seq_nil
    apply ct_ret
    exact fin_flatB hc hc' hE rfl rfl ⟨rfl, rfl⟩
  obtain ⟨m1, m2, _⟩ : t.length ≤ 67 ∧ l.length ≤ 259 ∧ True := by
    have n1 : shortH t l [] = true := by
      rw [u0] at hT
      have := hT.symm
      simp only [Bool.or_eq_false_iff, Bool.not_eq_false'] at this
      exact this.1.1
    obtain ⟨m1, m2, _⟩ := shortH_len n1
    exact ⟨m1, m2, trivial⟩
  clear hT sh aw
  have hse := hs.ext hE
  have hre := hr.ext hE
  apply ct_skip
  apply ct_seq
  apply ct_region
  apply seq_plain; exact do_move rfl; exact rfl
  apply seq_plain; exact do_move rfl; exact rfl
  apply seq_call (ht := rfl); exact refCheck_c (s2.ext (ext_Ext hc')) (by omega) (s1.ext (ext_Ext hc')) (by omega); exact rfl
  apply seq_plain; exact do_assign rfl; exact rfl
  apply seq_nil
  apply ct_seq
  apply ct_seq
  apply ct_region
  apply seq_plain; exact do_move rfl; exact rfl
  apply seq_plain; exact do_binInt rfl rfl rfl trivial; exact rfl
  apply seq_plain; exact do_move rfl; exact rfl
  obtain ⟨T2, hT2⟩ : ∃ T2, T2 = ((bothE t l == 0) && decide ((l.length : Int) > 24)) := ⟨_, rfl⟩
  refine seq_J [(0, .slice q t.length c), (1, .slice r l.length d), (5, .pointer (some ⟨bx, 0, none⟩)), (6, .bool false), (7, .slice p t.length t.length), (8, .slice u l.length l.length), (9, I (bothE t l)), (53, .bool T2)] (ds := []) (h := ext h (min H.fresh H.fresh) []) ?_ ?_
  · refine seq_gsplit rfl rfl (fun v0 => ?_) (fun v0 => ?_)
    · have v0 : (bothE t l == 0) = true := v0
      have e : T2 = decide ((l.length : Int) > 24) := by rw [hT2, v0]; rfl
      rw [e]
      apply seq_guard (hd := rfl) (hl := rfl); exact do_move rfl; exact rfl
      apply seq_guard (hd := rfl) (hl := rfl); exact do_lenS rfl rfl rfl; exact rfl
      apply seq_guard (hd := rfl) (hl := rfl); exact do_binInt rfl rfl rfl trivial; exact rfl
      apply seq_plain; exact do_pick_t rfl rfl; exact rfl
      apply seq_nil
      exact jp_of (by repeat (first | exact sub_nil | apply sub_cons rfl))
    · have v0 : (bothE t l == 0) = false := v0
      have e : T2 = false := by rw [hT2, v0]; rfl
      rw [e]
      apply seq_passed (hd := rfl) (hl := rfl) (hb := rfl); exact rfl
      apply seq_passed (hd := rfl) (hl := rfl) (hb := rfl); exact rfl
      apply seq_passed (hd := rfl) (hl := rfl) (hb := rfl); exact rfl
      apply seq_plain; exact do_pick_f rfl rfl; exact rfl
      apply seq_nil
      exact jp_of (by repeat (first | exact sub_nil | apply sub_cons rfl))
  refine ct_cond rfl (fun v0 => ?_) (fun v0 => ?_)
  · apply ct_seq
    apply ct_region
    apply seq_plain; exact do_assign rfl; exact rfl
    apply seq_nil
    apply ct_ret
    exact fin_flatB hc hc' hE rfl rfl ⟨rfl, rfl⟩
  have m3 : bothE t l = 0 → l.length < 256 := fun e => by
    rw [v0, e] at hT2
    have : decide ((l.length : Int) > 24) = false := by simpa using hT2
    simp only [decide_eq_false_iff_not] at this
    omega
  clear hT2
  have c2 := fun lo L => Openings_c (c := c) (d := d) (k := b.kind) (hse.ext (ext_Ext hc' (lo := lo) (L := L))) hlow (by omega) (hre.ext (ext_Ext hc')) hlow2 hq'.ext (by omega)
  simp only [lstH_ext, ext_fresh] at c2
  apply ct_skip
  apply ct_seq
  apply ct_region
  apply seq_plain; exact do_move rfl; exact rfl
  apply seq_plain; exact do_move rfl; exact rfl
  apply seq_plain; exact do_load rfl (by exact ext_get_old (by assumption) (by assumption)) rfl (by exact rfl); exact rfl
  apply seq_call (ht := rfl); exact Fits_c (hse.ext (ext_Ext hc')) hlow (by omega) (hre.ext (ext_Ext hc')) hlow2 hq'.ext (hbl'.ext (ext_Ext hc')) hd (by omega); exact rfl
  apply seq_plain; exact do_move rfl; exact rfl
  apply seq_plain; exact do_extract rfl rfl; exact rfl
  apply seq_plain; exact do_extract rfl rfl; exact rfl
  apply seq_plain; exact do_assign rfl; exact rfl
  apply seq_plain; exact do_assign rfl; exact rfl
  apply seq_nil
  apply ct_seq
  apply ct_region
  apply seq_plain; exact do_move rfl; exact rfl
  apply seq_plain; exact do_move rfl; exact rfl
  apply seq_plain; exact do_fieldAddr rfl rfl; exact rfl
  apply seq_plain; exact do_load rfl (by exact ext_get_old (by assumption) (by assumption)) rfl (by exact rfl); exact rfl
  apply seq_call (ht := rfl); exact c2 _ _; exact rfl
  obtain ⟨o, ho⟩ : ∃ o, o = opnO t l b.kind := ⟨_, rfl⟩
  obtain ⟨w, hw⟩ : ∃ w, w = lstP (nb h ([] : List (Option ABlk)).length) o := ⟨_, rfl⟩
  rw [← ho]
  have hol : o.length ≤ 99999 := by rw [ho]; exact opnO_len
  have s3 : SlAt (ext h (min H.fresh H.fresh) ([] ++ lstL 2 p2 o)) 2 p2 w o := by rw [hw]; exact lst_slAt p2_len
  refine seqL_to (l' := [(5, .pointer (some ⟨bx, 0, none⟩)), (6, .bool false), (7, .slice p t.length t.length), (8, .slice u l.length l.length), (9, I (bothE t l)), (10, .bool (fitsV t l b)), (11, I (fitsE t l b)), (66, .tuple ⟨[.slice w o.length o.length, I (opnX t l b.kind)]⟩)]) (by rw [hw]; repeat (first | exact sub_nil | apply sub_cons rfl)) ext_base (by simp) ?_
  obtain ⟨h2, hh2⟩ : ∃ h2, h2 = ext h (min H.fresh H.fresh) ([] ++ lstL 2 p2 o) := ⟨_, rfl⟩
  have s1 : SlAt h2 4 bk u l := by rw [hh2]; exact s1.ext (ext_Ext hc')
  have s2 : SlAt h2 2 tb p t := by rw [hh2]; exact s2.ext (ext_Ext hc')
  have hub : BlkS h2 u := by rw [hh2]; exact hub.ext (ext_Ext hc')
  have hgx : h2.get bx = some (.cells (bk b) 0 false false) := by rw [hh2]; exact ext_get_old hc' hgx
  have hE : Ext H h2 := by rw [hh2]; exact hE.trans (ext_Ext hc')
  have hc' : Closed h2 := by rw [hh2]; exact ext_closed hc'
  rw [← hh2] at s3 ⊢
  refine seq_anyLo fun lo => ?_
  clear hh2 c2 hw hse hre hq' hbl'
  have hsE : ∀ lo L, SlAt (ext h2 lo L) 2 tb p t := fun lo L => s2.ext (ext_Ext hc')
  apply seq_plain; exact do_move rfl; exact rfl
  apply seq_plain; exact do_extract rfl rfl; exact rfl
  apply seq_plain; exact do_extract rfl rfl; exact rfl
  apply seq_plain; exact do_assign rfl; exact rfl
  apply seq_plain; exact do_assign rfl; exact rfl
  apply seq_nil
  apply ct_seq
  apply ct_draw (by assumption); decide +kernel
  apply sd_plain (hfree := rfl); intro _; exact do_move rfl; exact rfl
  apply sd_look (hfree := rfl); exact do_load rfl (by exact ext_get_old (by assumption) (by assumption)) rfl (by exact rfl); exact rfl
  apply sd_newS (hfree := rfl); exact do_buildSlice rfl rfl rfl rfl rfl rfl rfl; exact rfl
  apply sd_callM (ht := rfl) (hw := rfl); decide +kernel; exact refBookings_c (l := [b]) (slAt_flat bk_len (ext_get_new rfl)) (by simp); exact rfl
  apply sd_plain (hfree := rfl); intro _; exact do_move rfl; exact rfl
  apply sd_plain (hfree := rfl); intro _; exact do_fieldAddr rfl rfl; exact rfl
  apply sd_look (hfree := rfl); exact do_load rfl (by exact ext_get_old (by assumption) (by assumption)) rfl (by exact rfl); exact rfl
  apply sd_call (ht := rfl); exact refTables1_c (hsE _ _) (by omega); exact rfl
  apply sd_plain (hfree := rfl); intro _; exact do_binInt rfl rfl rfl trivial; exact rfl
  apply sd_call (ht := rfl); exact when23; exact rfl
  apply sd_newS (hfree := rfl); exact do_buildSlice rfl rfl rfl rfl rfl rfl rfl; exact rfl
  apply sd_callM (ht := rfl) (hw := rfl); decide +kernel; exact firstW_c (l := [_, _, _]) (slAt_map (ext_get_new rfl)) (by simp); exact rfl
  apply sd_plain (hfree := rfl); intro _; exact do_assign rfl; exact rfl
  apply sd_nil
  apply ct_seq
  apply ct_region
  apply seq_plain; exact do_assign rfl; exact rfl
  apply seq_nil
  apply ct_seq
  apply ct_seq
  apply ct_region
  apply seq_plain; exact do_move rfl; exact rfl
  apply seq_plain; exact do_binInt rfl rfl rfl trivial; exact rfl
  apply seq_nil
  have hE1 : firstL [bothE t l, booksE [b], whenL ((cntK t b.kind : Int) == 0) 10] = fitsE t l b := by rw [books_one]; rfl
  simp only [hE1]
  have c3 := fun lo L => With_c (b := b) (c := l.length) (s1.ext (ext_Ext hc' (lo := lo) (L := L))) (hub.ext (ext_Ext hc')) (by omega)
  simp only [lstH_ext, ext_fresh] at c3
  refine ct_JXE (ds := []) (α := List (Option ABlk)) (fun _ => [(5, .pointer (some ⟨bx, 0, none⟩)), (6, .bool false), (7, .slice p t.length t.length), (8, .slice u l.length l.length), (9, I (bothE t l)), (10, .bool (fitsV t l b)), (11, I (fitsE t l b)), (12, .slice w o.length o.length), (13, I (opnX t l b.kind)), (14, I (fitsE t l b)), (15, .bool (fitsV t l b))]) (fun L => ext h2 lo L) (fun _ => True) ?_ (fun L3 _ => ?_)
  · refine ct_cond rfl (fun v1 => ?_) (fun v1 => ?_)
    · have v1 : fitsE t l b = 0 := by simpa using v1
      rw [fits_ref v1 (m3 (firstL_allZ v1 _ (by simp)))]
      apply ct_region
      apply seq_plain; exact do_move rfl; exact rfl
      apply seq_plain; exact do_move rfl; exact rfl
      apply seq_plain; exact do_load rfl (by exact ext_get_old (by assumption) (by assumption)) rfl (by exact rfl); exact rfl
      apply seq_call (ht := rfl); exact c3 _ _; exact rfl
      apply seq_call (ht := rfl); exact refFits_c (s2.ext (ext_Ext hc')) (by omega) (lst_slAt bk_len) (by rw [List.length_append, List.length_singleton]; omega); exact rfl
      apply seq_plain; exact do_assign rfl; exact rfl
      apply seq_nil
      exact jx_of _ trivial (by repeat (first | exact sub_nil | apply sub_cons rfl)) rfl
    · have v1 : fitsE t l b ≠ 0 := by simpa using v1
      have e : fitsV t l b = false := if_pos v1
      rw [e]
      apply ct_skip
      exact jx_of _ trivial (by repeat (first | exact sub_nil | apply sub_cons rfl)) rfl
  clear c3
  apply ct_seq
  apply ct_draw (by assumption); decide +kernel
  apply sd_plain (hfree := rfl); intro _; exact do_move rfl; exact rfl
  apply sd_plain (hfree := rfl); intro _; exact do_fieldAddr rfl rfl; exact rfl
  apply sd_look (hfree := rfl); exact do_load rfl (by exact ext_get_old (by assumption) (by assumption)) rfl (by exact rfl); exact rfl
  apply sd_call (ht := rfl); exact refIsName_c; exact rfl
  apply sd_plain (hfree := rfl); intro _; exact do_unOp rfl rfl; exact rfl
  apply sd_call (ht := rfl); exact when23; exact rfl
  apply sd_plain (hfree := rfl); intro _; exact do_move rfl; exact rfl
  apply sd_plain (hfree := rfl); intro _; exact do_fieldAddr rfl rfl; exact rfl
  apply sd_look (hfree := rfl); exact do_load rfl (by exact ext_get_old (by assumption) (by assumption)) rfl (by exact rfl); exact rfl
  apply sd_call (ht := rfl); exact refTables1_c (hsE _ _) (by omega); exact rfl
  apply sd_plain (hfree := rfl); intro _; exact do_binInt rfl rfl rfl trivial; exact rfl
  apply sd_call (ht := rfl); exact when23; exact rfl
  apply sd_newS (hfree := rfl); exact do_buildSlice rfl rfl rfl rfl rfl rfl rfl; exact rfl
  apply sd_callM (ht := rfl) (hw := rfl); decide +kernel; exact firstW_c (l := [_, _, _]) (slAt_map (ext_get_new List.getElem?_concat_length)) (by simp); exact rfl
  apply sd_plain (hfree := rfl); intro _; exact do_assign rfl; exact rfl
  apply sd_nil
  apply ct_seq
  apply ct_seq
  apply ct_region
  apply seq_plain; exact do_move rfl; exact rfl
  apply seq_plain; exact do_binInt rfl rfl rfl trivial; exact rfl
  apply seq_nil
  have hE2 : firstL [bothE t l, whenL (!nameB b.kind) 8, whenL ((cntK t b.kind : Int) == 0) 10] = opnE t l b.kind := by unfold opnE nameE; simp
  simp only [hE2]
  refine ct_JXE (ds := []) (α := List (Option ABlk)) (fun _ => [(5, .pointer (some ⟨bx, 0, none⟩)), (6, .bool false), (7, .slice p t.length t.length), (8, .slice u l.length l.length), (10, .bool (fitsV t l b)), (11, I (fitsE t l b)), (12, .slice w o.length o.length), (13, I (opnX t l b.kind)), (14, I (fitsE t l b)), (15, .bool (fitsV t l b)), (16, I (opnX t l b.kind))]) (fun L => ext h2 lo L) (fun _ => True) ?_ (fun L4 _ => ?_)
  · refine ct_cond rfl (fun v2 => ?_) (fun v2 => ?_)
    · have v2 : opnE t l b.kind = 0 := by simpa using v2
      rw [opn_ref v2]
      apply ct_region
      apply seq_plain; exact do_move rfl; exact rfl
      apply seq_plain; exact do_move rfl; exact rfl
      apply seq_call (ht := rfl); exact refFits_c (s2.ext (ext_Ext hc')) (by omega) (s1.ext (ext_Ext hc')) (by omega); exact rfl
      apply seq_plain; exact do_unOp rfl rfl; exact rfl
      apply seq_call (ht := rfl); exact when23; exact rfl
      apply seq_plain; exact do_assign rfl; exact rfl
      apply seq_nil
      exact jx_of _ trivial (by repeat (first | exact sub_nil | apply sub_cons rfl)) rfl
    · have v2 : opnE t l b.kind ≠ 0 := by simpa using v2
      have e : opnX t l b.kind = opnE t l b.kind := if_pos v2
      rw [e]
      apply ct_skip
      exact jx_of _ trivial (by repeat (first | exact sub_nil | apply sub_cons rfl)) rfl
  have tid : truthB (fitsV t l b) (fitsE t l b) (fitsE t l b) (fitsV t l b) = true := truth_id fun he => if_pos he
  apply ct_seq
  apply ct_seq
  apply ct_region
  apply seq_plain; exact do_move rfl; exact rfl
  apply seq_plain; exact do_move rfl; exact rfl
  apply seq_plain; exact do_move rfl; exact rfl
  apply seq_plain; exact do_move rfl; exact rfl
  apply seq_call (ht := rfl); exact truth_c; exact rfl
  apply seq_plain; exact do_unOp rfl rfl; exact rfl
  apply seq_nil
  simp only [tid]
  skip
  refine ct_cond_f rfl rfl ?_
  apply ct_skip
  apply ct_seq
  apply ct_seq
  apply ct_region
  apply seq_plain; exact do_move rfl; exact rfl
  apply seq_plain; exact do_binInt rfl rfl rfl trivial; exact rfl
  apply seq_nil
  refine ct_cond rfl (fun v3 => ?_) (fun v3 => ?_)
  · have v3 : opnX t l b.kind ≠ 0 := by simpa using v3
    have e : o.length = 0 := by
      have : opnO t l b.kind = [] := if_neg v3
      rw [ho, this]; rfl
    rw [e]
    apply ct_seq
    apply ct_region
    apply seq_plain; exact do_move rfl; exact rfl
    apply seq_plain; exact do_lenS rfl rfl rfl; exact rfl
    apply seq_plain; exact do_binInt rfl rfl rfl trivial; exact rfl
    apply seq_plain; exact do_move rfl; exact rfl
    apply seq_guard (hd := rfl) (hl := rfl); exact do_move rfl; exact rfl
    apply seq_guard (hd := rfl) (hl := rfl); exact do_move rfl; exact rfl
    apply seq_guard (hd := rfl) (hl := rfl); exact do_binInt rfl rfl rfl trivial; exact rfl
    apply seq_plain; exact do_pick_t rfl rfl; exact rfl
    apply seq_plain; exact do_assign rfl; exact rfl
    apply seq_nil
    apply ct_ret
    simp only [beq_self_eq_true]
    exact fin_flatB hc hc' hE rfl rfl ⟨rfl, rfl⟩
  · have v3 : opnX t l b.kind = 0 := by simpa using v3
    have e : o = opV t l b.kind := by rw [ho]; exact if_pos v3
    have c4 := fun lo L => refOpenings_c (c := t.length) (d := l.length) (k := b.kind) (s2.ext (ext_Ext hc' (lo := lo) (L := L))) (by omega) (s1.ext (ext_Ext hc')) (by omega)
    simp only [lstH_ext, ext_fresh] at c4
    rw [v3]
    apply ct_skip
    apply ct_seq
    apply ct_region
    apply seq_plain; exact do_move rfl; exact rfl
    apply seq_plain; exact do_binInt rfl rfl rfl trivial; exact rfl
    apply seq_plain; exact do_move rfl; exact rfl
    apply seq_guard (hd := rfl) (hl := rfl); exact do_move rfl; exact rfl
    apply seq_guard (hd := rfl) (hl := rfl); exact do_move rfl; exact rfl
    apply seq_guard (hd := rfl) (hl := rfl); exact do_move rfl; exact rfl
    apply seq_guard (hd := rfl) (hl := rfl); exact do_fieldAddr rfl rfl; exact rfl
    apply seq_guard (hd := rfl) (hl := rfl); exact do_load rfl (by exact ext_get_old (by assumption) (by assumption)) rfl (by exact rfl); exact rfl
    apply seq_gcall (hg := rfl) (hl := rfl) (ht := rfl); exact c4 _ _; exact rfl
    apply seq_gcall (hg := rfl) (hl := rfl) (ht := rfl); exact sameSpans_c (s3.ext (ext_Ext hc')) (lst_slAt p2_len) (by omega); exact rfl
    rw [decide_eq_true e]
    apply seq_plain; exact do_pick_t rfl rfl; exact rfl
    apply seq_plain; exact do_assign rfl; exact rfl
    apply seq_nil
    apply ct_ret
    exact fin_flatB hc hc' hE rfl rfl ⟨rfl, rfl⟩
end Go.Proofs.YtfegloadbajbhaaGreatDoor
