/- HallAssigns: the law's own walk. -/
import Derived.Test.YtflbffhahoblfaaGreatDoorAsI
import Derived.Test.YtflbffhahoblfaaGreatDoorAsJ
import Derived.Test.YtflbffhahoblfaaGreatDoorAsG
import Derived.Test.YtflbffhahoblfaaGreatDoorOpsA
noncomputable section
namespace Go.Proofs.YtflbffhahoblfaaGreatDoor
open Go Go.Den
set_option maxRecDepth 100000
theorem asgR_state {h : AHeap} {lo : Nat} {L : List (Option ABlk)} (t : List Tb) (l : List Bk) : ∃ (X : List (Option ABlk)) (p : Option Addr) (W : List Int), asgVal (ext h lo L) t l = .tuple ⟨[.slice p W.length W.length, I (asgX t l)]⟩ ∧ asgH (ext h lo L) t l = ext h lo (L ++ X) ∧ SlAt (ext h lo (L ++ X)) 1 i1 p W ∧ W.length ≤ l.length ∧ (asgX t l = 0 → W = asgV t l) ∧ (asgX t l ≠ 0 → W = []) := by
  by_cases e : asgX t l = 0
  · have hl : (asgV t l).length = l.length := by unfold asgV; exact asgA_len
    refine ⟨[some (.cells ((asgV t l).map I) 1 false false)], some ⟨nb h L.length, 0, none⟩, asgV t l, ?_, ?_, slAt_map (ext_get_new List.getElem?_concat_length), by rw [hl]; exact Nat.le_refl _, fun _ => rfl, fun h => absurd e h⟩
    · unfold asgVal
      rw [if_pos e, ext_fresh, hl]
    · unfold asgH
      rw [if_pos e, ext_add]
  · refine ⟨[], none, [], ?_, ?_, SlAt.nil, Nat.zero_le _, fun h => absurd h e, fun _ => rfl⟩
    · unfold asgVal
      rw [if_neg e]; rfl
    · unfold asgH
      rw [if_neg e, List.append_nil]
theorem refA_state {h : AHeap} {lo : Nat} {L : List (Option ABlk)} (t : List Tb) (l : List Bk) : ∃ (X : List (Option ABlk)) (p : Option Addr) (W : List Int), refAV (ext h lo L) t l = .tuple ⟨[.slice p W.length W.length, .bool (fitB t l)]⟩ ∧ refAH (ext h lo L) t l = ext h lo (L ++ X) ∧ SlAt (ext h lo (L ++ X)) 1 i1 p W ∧ (fitB t l = true → W = asgV t l) := by
  by_cases e : fitB t l = true
  · have hl : (asgV t l).length = l.length := by unfold asgV; exact asgA_len
    refine ⟨[some (.cells ((asgV t l).map I) 1 false false)], some ⟨nb h L.length, 0, none⟩, asgV t l, ?_, ?_, slAt_map (ext_get_new List.getElem?_concat_length), fun _ => rfl⟩
    · unfold refAV
      rw [if_pos e, ext_fresh, hl]
    · unfold refAH
      rw [if_pos e, ext_add]
  · refine ⟨[], none, [], ?_, ?_, SlAt.nil, fun h => absurd h e⟩
    · unfold refAV
      rw [if_neg e]; rfl
    · unfold refAH
      rw [if_neg e, List.append_nil]
theorem asg_bad {t : List Tb} {l : List Bk} (h : bothE t l ≠ 0) : asgX t l = bothE t l := if_pos h
theorem asg_good {t : List Tb} {l : List Bk} (h : bothE t l = 0) : asgX t l = whenL (!fitB t l) 23 := by
  unfold asgX
  rw [if_neg (by rw [h]; simp)]
  cases fitB t l <;> rfl
theorem cas_bad {t : List Tb} {l : List Bk} {A : List Int} (h : bothE t l ≠ 0) : casE t l A = bothE t l := by
  unfold casE firstL
  simp [h]
set_option maxHeartbeats 16000000 in
theorem assigns_w {H : AHeap} {q r w : Option Addr} {c d g : Nat} {t : List Tb} {l : List Bk} {A : List Int} (haw : ∀ h, Ext H h → Ret Tryz.prog 5 [] h (.bool true) h) (hs : SlAt H 2 tb q t) (hlow : LowS q c t.length) (hn : t.length ≤ 1048576) (hr : SlAt H 4 bk r l) (hlow2 : LowS r d l.length) (hq : OldS H r) (hm : l.length ≤ 1048576) (hw : SlAt H 1 i1 w A) (hA : A.length ≤ 1048576) :
    Ret Tryz.prog 3 [.slice q t.length c, .slice r l.length d, .slice w A.length g] H (.bool true) H := by
  refine fn_start Tryz.func3 rfl rfl rfl fun hc => ?_
  have c1 := own_c (c := c) (d := d) (hs.ext (ext_Ext hc (lo := H.fresh) (L := []))) (by omega) (hr.ext (ext_Ext hc (lo := H.fresh) (L := []))) (by omega)
  simp only [lstH_ext, ext_fresh] at c1
  apply ct_seq
  apply ct_region
  apply seq_plain; exact do_assign rfl; exact rfl
  apply seq_nil
  apply ct_seq
  apply ct_region
  iterate 2 (apply seq_plain; exact do_move rfl; exact rfl)
  apply seq_call (ht := rfl); exact c1; exact rfl
  obtain ⟨p, hp⟩ : ∃ p, p = lstP (nb H ([] : List (Option ABlk)).length) t := ⟨_, rfl⟩
  obtain ⟨u, hu⟩ : ∃ u, u = lstP (nb H (([] : List (Option ABlk)) ++ lstL 2 tb t).length) l := ⟨_, rfl⟩
  have s1 : SlAt (ext H H.fresh (([] : List (Option ABlk)) ++ lstL 2 tb t ++ lstL 4 bk l)) 4 bk u l := by rw [hu]; exact lst_slAt bk_len
  have s2 : SlAt (ext H H.fresh (([] : List (Option ABlk)) ++ lstL 2 tb t ++ lstL 4 bk l)) 2 tb p t := by
    have := lst_slAt (H := H) (lo := H.fresh) (L := ([] : List (Option ABlk))) (m := 2) (f := tb) (l := t) tb_len
    rw [hp]
    exact this.ext (ext_more hc)
  apply seq_plain; exact do_move rfl; exact rfl
  iterate 2 (apply seq_plain; exact do_extract rfl rfl; exact rfl)
  iterate 2 (apply seq_plain; exact do_assign rfl; exact rfl)
  apply seq_nil
  iterate 2 (apply ct_seq)
  apply ct_region
  refine seqL_to (l' := [(0, .slice q t.length c), (1, .slice r l.length d), (2, .slice w A.length g), (6, .bool false), (7, .slice p t.length t.length), (8, .slice u l.length l.length)]) (by rw [hp, hu]; repeat (first | exact sub_nil | apply sub_cons rfl)) ext_base (by simp) ?_
  obtain ⟨h, hh⟩ : ∃ h, h = ext H H.fresh (([] : List (Option ABlk)) ++ lstL 2 tb t ++ lstL 4 bk l) := ⟨_, rfl⟩
  have hc' : Closed h := by rw [hh]; exact ext_closed hc
  have hE : Ext H h := by rw [hh]; exact ext_Ext hc
  have hq' : OldS h r := by rw [hh]; exact hq.ext
  rw [← hh] at s1 s2 ⊢
  clear hh hp hu c1
  have aw := fun lo L => haw _ (hE.trans (ext_Ext (lo := lo) (L := L) hc'))
  have sh := fun lo L => short_c (d := l.length) (c := t.length) (e := 0) (s2.ext (ext_Ext (lo := lo) (L := L) hc')) (by omega) (s1.ext (ext_Ext (lo := lo) (L := L) hc')) (by omega) (SlAt.nil (p := none)) (by simp)
  have rc := fun lo L => refCheck_c (d := l.length) (c := t.length) (s2.ext (ext_Ext (lo := lo) (L := L) hc')) (by omega) (s1.ext (ext_Ext (lo := lo) (L := L) hc')) (by omega)
  obtain ⟨T, hT⟩ : ∃ T, T = (!shortH t l [] || decide ((A.length : Int) > 260)) := ⟨_, rfl⟩
  skip
  apply seq_call (ht := rfl); exact aw _ _; exact rfl
  apply seq_plain; exact do_unOp rfl rfl; exact rfl
  apply seq_plain; exact do_move rfl; exact rfl
  iterate 2 (apply seq_guard (hd := rfl) (hl := rfl); exact do_move rfl; exact rfl)
  apply seq_gcall (hg := rfl) (hl := rfl) (ht := rfl); exact sh _ _; exact rfl
  apply seq_guard (hd := rfl) (hl := rfl); exact do_unOp rfl rfl; exact rfl
  apply seq_plain; exact do_pick_f rfl rfl; exact rfl
  apply seq_plain; exact do_move rfl; exact rfl
  refine seq_J [(0, .slice q t.length c), (1, .slice r l.length d), (2, .slice w A.length g), (6, .bool false), (7, .slice p t.length t.length), (8, .slice u l.length l.length), (33, .bool T)] (ds := []) (h := ext h (min H.fresh H.fresh) []) ?_ ?_
  · refine seq_gsplit rfl rfl (fun u0 => ?_) (fun u0 => ?_)
    · have u0 : (!shortH t l []) = true := u0
      have e : T = true := by rw [hT, u0]; rfl
      rw [e]
      iterate 3 (apply seq_passed (hd := rfl) (hl := rfl) (hb := rfl); exact rfl)
      apply seq_plain; exact do_pick_t rfl rfl; exact rfl
      apply seq_nil
      exact jp_of (by repeat (first | exact sub_nil | apply sub_cons rfl))
    · have u0 : (!shortH t l []) = false := u0
      have e : T = decide ((A.length : Int) > 260) := by rw [hT, u0]; rfl
      rw [e]
      apply seq_guard (hd := rfl) (hl := rfl); exact do_move rfl; exact rfl
      apply seq_guard (hd := rfl) (hl := rfl); exact do_lenS rfl rfl rfl; exact rfl
      apply seq_guard (hd := rfl) (hl := rfl); exact do_binInt rfl rfl rfl trivial; exact rfl
      apply seq_plain; exact do_pick_f rfl rfl; exact rfl
      apply seq_nil
      exact jp_of (by repeat (first | exact sub_nil | apply sub_cons rfl))
  refine ct_cond rfl (fun u0 => ?_) (fun u0 => ?_)
  · apply ct_seq
    apply ct_region
    apply seq_call (ht := rfl); exact aw _ _; exact rfl
    apply seq_plain; exact do_assign rfl; exact rfl
    apply seq_nil
    apply ct_ret
    exact fin_flatB hc hc' hE rfl rfl ⟨rfl, rfl⟩
  have u0 : T = false := u0
  obtain ⟨m1, m2, mA⟩ : t.length ≤ 67 ∧ l.length ≤ 259 ∧ A.length ≤ 260 := by
    have n1 : shortH t l [] = true := by
      rw [u0] at hT
      have := hT.symm
      simp only [Bool.or_eq_false_iff, Bool.not_eq_false'] at this
      exact this.1
    have n2 : A.length ≤ 260 := by
      rw [u0] at hT
      have := hT.symm
      simp only [Bool.or_eq_false_iff, decide_eq_false_iff_not] at this
      omega
    obtain ⟨m1, m2, _⟩ := shortH_len n1
    exact ⟨m1, m2, n2⟩
  clear hT sh aw
  have hse := hs.ext hE
  have hre := hr.ext hE
  have hwe := hw.ext hE
  clear rc
  obtain ⟨T2, hT2⟩ : ∃ T2, T2 = ((bothE t l == 0) && decide ((l.length : Int) > 24)) := ⟨_, rfl⟩
  apply ct_skip
  apply ct_seq
  apply ct_region
  iterate 2 (apply seq_plain; exact do_move rfl; exact rfl)
  apply seq_call (ht := rfl); exact refCheck_c (s2.ext (ext_Ext hc')) (by omega) (s1.ext (ext_Ext hc')) (by omega); exact rfl
  apply seq_plain; exact do_assign rfl; exact rfl
  apply seq_nil
  iterate 2 (apply ct_seq)
  apply ct_region
  apply seq_plain; exact do_move rfl; exact rfl
  apply seq_plain; exact do_binInt rfl rfl rfl trivial; exact rfl
  apply seq_plain; exact do_move rfl; exact rfl
  refine seq_J [(0, .slice q t.length c), (1, .slice r l.length d), (2, .slice w A.length g), (6, .bool false), (7, .slice p t.length t.length), (8, .slice u l.length l.length), (9, I (bothE t l)), (44, .bool T2)] (ds := []) (h := ext h (min H.fresh H.fresh) []) ?_ ?_
  · refine seq_gsplit rfl rfl (fun v0 => ?_) (fun v0 => ?_)
    · have v0 : (bothE t l == 0) = true := v0
      have e : T2 = decide ((l.length : Int) > 24) := by rw [hT2, v0]; rfl
      rw [e]
      apply seq_guard (hd := rfl) (hl := rfl); exact do_move rfl; exact rfl
      apply seq_guard (hd := rfl) (hl := rfl); exact do_lenS rfl rfl rfl; exact rfl
      apply seq_guard (hd := rfl) (hl := rfl); exact do_binInt rfl rfl rfl trivial; exact rfl
      apply seq_plain; exact do_pick_t rfl rfl; exact rfl
      apply seq_nil
      exact jp_of (by repeat (first | exact sub_nil | apply sub_cons rfl))
    · have v0 : (bothE t l == 0) = false := v0
      have e : T2 = false := by rw [hT2, v0]; rfl
      rw [e]
      iterate 3 (apply seq_passed (hd := rfl) (hl := rfl) (hb := rfl); exact rfl)
      apply seq_plain; exact do_pick_f rfl rfl; exact rfl
      apply seq_nil
      exact jp_of (by repeat (first | exact sub_nil | apply sub_cons rfl))
  refine ct_cond rfl (fun v0 => ?_) (fun v0 => ?_)
  · apply ct_seq
    apply ct_region
    apply seq_plain; exact do_assign rfl; exact rfl
    apply seq_nil
    apply ct_ret
    exact fin_flatB hc hc' hE rfl rfl ⟨rfl, rfl⟩
  have v0 : T2 = false := v0
  have m3 : bothE t l = 0 → l.length ≤ 24 := fun e => by
    rw [v0, e] at hT2
    have : decide ((l.length : Int) > 24) = false := by simpa using hT2
    simp only [decide_eq_false_iff_not] at this
    omega
  clear hT2
  obtain ⟨X1, pa, W1, ev1, eh1, sW, nW, ok1, bad1⟩ := asgR_state (h := h) (lo := min H.fresh H.fresh) (L := []) t l
  have ca := Assign24_c (c := c) (d := d) (hse.ext (ext_Ext hc' (lo := min H.fresh H.fresh) (L := []))) hlow (by omega) (hre.ext (ext_Ext hc')) hlow2 hq'.ext (by omega) m3
  rw [ev1, eh1] at ca
  clear ev1 eh1
  apply ct_skip
  apply ct_seq
  apply ct_region
  iterate 2 (apply seq_plain; exact do_move rfl; exact rfl)
  apply seq_call (ht := rfl); exact ca; exact rfl
  apply seq_plain; exact do_move rfl; exact rfl
  iterate 2 (apply seq_plain; exact do_extract rfl rfl; exact rfl)
  iterate 2 (apply seq_plain; exact do_assign rfl; exact rfl)
  apply seq_nil
  apply ct_seq
  apply ct_region
  iterate 3 (apply seq_plain; exact do_move rfl; exact rfl)
  refine seqL_to (l' := [(0, .slice q t.length c), (1, .slice r l.length d), (2, .slice w A.length g), (6, .bool false), (7, .slice p t.length t.length), (8, .slice u l.length l.length), (9, I (bothE t l)), (10, .slice pa W1.length W1.length), (11, I (asgX t l)), (51, .slice q t.length c), (52, .slice r l.length d), (53, .slice w A.length g)]) (by repeat (first | exact sub_nil | apply sub_cons rfl)) ext_base (by simp) ?_
  obtain ⟨h2, hh2⟩ : ∃ h2, h2 = ext h (min H.fresh H.fresh) (([] : List (Option ABlk)) ++ X1) := ⟨_, rfl⟩
  have s1 : SlAt h2 4 bk u l := by rw [hh2]; exact s1.ext (ext_Ext hc')
  have s2 : SlAt h2 2 tb p t := by rw [hh2]; exact s2.ext (ext_Ext hc')
  have hse : SlAt h2 2 tb q t := by rw [hh2]; exact hse.ext (ext_Ext hc')
  have hre : SlAt h2 4 bk r l := by rw [hh2]; exact hre.ext (ext_Ext hc')
  have hwe : SlAt h2 1 i1 w A := by rw [hh2]; exact hwe.ext (ext_Ext hc')
  have hE : Ext H h2 := by rw [hh2]; exact hE.trans (ext_Ext hc')
  have hc' : Closed h2 := by rw [hh2]; exact ext_closed hc'
  rw [← hh2] at sW ⊢
  clear hh2 ca hq'
  have cc := fun lo L => CheckAssign_c (c := c) (d := d) (e := g) (hse.ext (ext_Ext hc' (lo := lo) (L := L))) hlow (by omega) (hre.ext (ext_Ext hc')) hlow2 (by omega) (hwe.ext (ext_Ext hc')) (by omega)
  skip
  apply seq_call (ht := rfl); exact cc _ _; exact rfl
  clear cc
  apply seq_plain; exact do_assign rfl; exact rfl
  apply seq_nil
  iterate 2 (apply ct_seq)
  apply ct_region
  apply seq_plain; exact do_move rfl; exact rfl
  apply seq_plain; exact do_binInt rfl rfl rfl trivial; exact rfl
  apply seq_nil
  refine ct_cond rfl (fun v1 => ?_) (fun v1 => ?_)
  · have v1 : bothE t l ≠ 0 := by simpa using v1
    have e1 := asg_bad v1
    have e2 := cas_bad (A := A) v1
    obtain rfl : W1 = [] := bad1 (by rw [e1]; exact v1)
    have e3 : listB [] (bothE t l) (bothE t l) [] = true := by
      unfold listB
      rw [if_pos v1]; simp
    have cl := fun lo L => list_c (c := ([] : List Int).length) (c' := 0) (e := bothE t l) (bad := bothE t l) (sW.ext (ext_Ext hc' (lo := lo) (L := L))) (SlAt.nil (p := none) (f := i1) (w := 1)) (by simp)
    rw [e3] at cl
    rw [e1, e2]
    clear s1 s2 hse hre hwe bad1 ok1 m3
    apply ct_seq
    apply ct_region
    iterate 3 (apply seq_plain; exact do_move rfl; exact rfl)
    apply seq_call (ht := rfl); exact cl _ _; exact rfl
    apply seq_plain; exact do_move rfl; exact rfl
    iterate 2 (apply seq_guard (hd := rfl) (hl := rfl); exact do_move rfl; exact rfl)
    apply seq_guard (hd := rfl) (hl := rfl); exact do_binInt rfl rfl rfl trivial; exact rfl
    apply seq_plain; exact do_pick_t rfl rfl; exact rfl
    apply seq_plain; exact do_assign rfl; exact rfl
    apply seq_nil
    apply ct_ret
    exact fin_flatB hc hc' hE rfl (by simp [packA, flatD]) ⟨by simp [packA], rfl⟩
  have v1 : bothE t l = 0 := by simpa using v1
  have e1 := asg_good v1
  have e2 := cas_ref (A := A) v1
  rw [e1] at ok1 bad1 ⊢
  rw [e2]
  have cr := fun lo L => refAssign_c (c := t.length) (d := l.length) (s2.ext (ext_Ext hc' (lo := lo) (L := L))) (by omega) (s1.ext (ext_Ext hc')) (m3 v1) v1
  apply ct_skip
  apply ct_seq
  apply ct_region
  iterate 2 (apply seq_plain; exact do_move rfl; exact rfl)
  apply seq_call (ht := rfl); exact cr _ _; exact rfl
  clear cr
  obtain ⟨X2, pr, W2, ev2, eh2, sR, ok2⟩ := refA_state (h := h2) (lo := _) (L := []) t l
  rw [ev2, eh2]
  have e3 : listB W1 (whenL (!fitB t l) 23) (whenL (!fitB t l) 23) W2 = true := by
    unfold listB
    cases e : fitB t l with
    | true =>
      rw [e] at ok1
      rw [ok1 rfl, ok2 e]; simp [whenL]
    | false =>
      rw [e] at bad1
      rw [bad1 (by simp [whenL])]; simp [whenL]
  have cl := list_c (c := W1.length) (c' := W2.length) (e := whenL (!fitB t l) 23) (bad := whenL (!fitB t l) 23) (sW.ext (ext_Ext hc')) sR (by omega)
  rw [e3] at cl
  clear ok1 ok2 bad1 ev2 eh2 e3
  have ck := fun lo L => refCheckAssign_c (c := t.length) (d := l.length) (e := g) (s2.ext (ext_Ext hc' (lo := lo) (L := L))) (by omega) (s1.ext (ext_Ext hc')) (by omega) (hwe.ext (ext_Ext hc')) (by omega)
  apply seq_plain; exact do_move rfl; exact rfl
  iterate 2 (apply seq_plain; exact do_extract rfl rfl; exact rfl)
  iterate 2 (apply seq_plain; exact do_assign rfl; exact rfl)
  apply seq_nil
  apply ct_seq
  apply ct_region
  iterate 3 (apply seq_plain; exact do_move rfl; exact rfl)
  apply seq_plain; exact do_unOp rfl rfl; exact rfl
  apply seq_call (ht := rfl); exact when23; exact rfl
  apply seq_plain; exact do_move rfl; exact rfl
  apply seq_call (ht := rfl); exact cl; exact rfl
  apply seq_plain; exact do_move rfl; exact rfl
  iterate 4 (apply seq_guard (hd := rfl) (hl := rfl); exact do_move rfl; exact rfl)
  apply seq_gcall (hg := rfl) (hl := rfl) (ht := rfl); exact ck _ _; exact rfl
  apply seq_guard (hd := rfl) (hl := rfl); exact do_binInt rfl rfl rfl trivial; exact rfl
  apply seq_plain; exact do_pick_t rfl rfl; exact rfl
  apply seq_plain; exact do_assign rfl; exact rfl
  apply seq_nil
  apply ct_ret
  exact fin_flatB hc hc' hE rfl (by simp [packA, flatD]) ⟨by simp [packA], rfl⟩
end Go.Proofs.YtflbffhahoblfaaGreatDoor
