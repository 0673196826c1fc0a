/- Contracts: points with which a team is first, or none. -/
import Derived.Test.YtppflopinmkpgaaDoorTiG
noncomputable section
namespace Go.Proofs.YtppflopinmkpgaaDoor
open Go Go.Den Go.Den.Title
set_option maxRecDepth 100000

theorem turn_new {H h : AHeap} {lo kg kr ks : Nat} {L : List (Option ABlk)} {gb rb sb : ABlk} (hc : Closed H) (lg : kg < L.length) (lr : kr < L.length) (ls : ks < L.length) (gr : kg ≠ kr) (gs : kg ≠ ks) (rs : kr ≠ ks) (ht : Turn (ext H lo L) h (nb H kg) (nb H kr) (nb H ks) gb rb sb) :
    HQ h (ext H h.low (((L.set kg (some gb)).set kr (some rb)).set ks (some sb))) := by
  refine ⟨fun b => ?_, ?_, ?_⟩
  · by_cases e1 : b = nb H ks
    · subst e1
      rw [ht.s]
      exact (ext_get_new (by rw [List.getElem?_set, if_pos rfl, if_pos (by simpa using ls)])).symm
    · by_cases e2 : b = nb H kr
      · subst e2
        rw [ht.r]
        exact (ext_get_new (by rw [List.getElem?_set, if_neg (fun e => rs e.symm), List.getElem?_set, if_pos rfl, if_pos (by simpa using lr)])).symm
      · by_cases e3 : b = nb H kg
        · subst e3
          rw [ht.g]
          exact (ext_get_new (by rw [List.getElem?_set, if_neg (fun e => gs e.symm), List.getElem?_set, if_neg (fun e => gr e.symm), List.getElem?_set, if_pos rfl, if_pos lg])).symm
        · rw [ht.rest b e3 e2 e1, ext_get hc, ext_get hc]
          split
          · rename_i hb
            have hb2 := hb.2
            simp only [AHeap.fresh] at hb2
            have ne : ∀ k, b ≠ nb H k → ¬ k = b / 2 - H.next := fun k hk e => hk (by simp only [nb]; omega)
            rw [List.getElem?_set, if_neg (ne _ e1), List.getElem?_set, if_neg (ne _ e2), List.getElem?_set, if_neg (ne _ e3)]
          · rfl
  · rw [ht.next]
    show H.next + L.length = H.next + _
    simp
  · show h.low = min h.low H.fresh
    have h1 : h.low ≤ min lo H.fresh := ht.low
    omega

theorem neg_c {H : AHeap} {k : Int} : Ret Tryd.prog 39 [I k] H (.bool (decide (k < 0))) H := by
  refine fn_start Tryd.func39 rfl rfl rfl fun hc => ?_
  apply ct_seq
  apply ct_region
  apply seq_plain; exact do_assign rfl; exact rfl
  apply seq_nil
  apply ct_seq
  apply ct_region
  apply seq_plain; exact do_move rfl; exact rfl
  apply seq_plain; exact do_binInt rfl rfl rfl trivial; exact rfl
  apply seq_plain; exact do_assign rfl; exact rfl
  apply seq_nil
  apply ct_ret
  exact fin_flat hc rfl rfl ⟨rfl, rfl⟩
theorem mkPairs {l : EL} {h : AHeap} {a : Operand} {n : Nat} (ha : ev l a = some (I n)) (hn : n ≤ 64) : Does Tryd.prog l (.makeSlice 41 a a) h (.slice (some ⟨h.fresh, 0, none⟩) n n) (h.add (.cells ((List.replicate n ((0 : Int), (0 : Int))).flatMap p2) 2 false false)) := by
  rw [← repl_flat]
  exact do_makeSlice ha ha rfl rfl rfl rfl (Nat.le_refl _) (by omega) (Nat.le_trans (Nat.mul_le_mul_left _ hn) (Nat.le_of_ble_eq_true rfl))

theorem flow_at {H : AHeap} {lo ks bo oo zo zf : Nat} {so roo sf rof : Bool} {cso : List Value} {L : List (Option ABlk)} {q : Option Addr} {c d : Nat} {opn given : List (Int × Int)} {room : List Int} {seen : List Bool} (hc : Closed H) (h1 : L[1]? = some (some (gB given))) (h2 : L[2]? = some (some (rB room)))
    (h3 : L[3]? = some (some (.cells [.slice q room.length c, .slice (some ⟨bo, oo, none⟩) opn.length d, .slice (some ⟨nb H 1, 0, none⟩) opn.length opn.length, .slice (some ⟨nb H 2, 0, none⟩) room.length room.length] zf sf rof))) (hk : L[ks]? = some (some (sB seen))) (hks : 4 ≤ ks)
    (ho : H.get bo = some (.cells cso zo so roo)) (hw : ∀ i (h : i < opn.length), sliceIn cso (oo + i * 2) 2 = some (p2 opn[i])) : FlowAt (ext H lo L) (nb H 3) (nb H 1) (nb H 2) (nb H ks) bo oo q c d opn given room seen := by
  have l1 := (List.getElem?_eq_some_iff.1 h1).1
  have l2 := (List.getElem?_eq_some_iff.1 h2).1
  have lk := (List.getElem?_eq_some_iff.1 hk).1
  have lt : ∀ k, k < L.length → nb H k < (ext H lo L).fresh := fun k hk => by rw [ext_fresh]; simp only [nb]; omega
  have ne : ∀ j k, j ≠ k → nb H j ≠ nb H k := fun j k h e => h (nb_inj.1 e)
  have no : ∀ k, bo ≠ nb H k := fun k e => by
    have a := hc.lt ho
    have b := nb_ge (H := H) k
    have c := own_iff.1 (nb_own (H := H) k)
    rw [← e] at b c
    omega
  exact ⟨⟨nb_own _, nb_own _, nb_own _, lt _ l1, lt _ l2, lt _ lk, ne _ _ (by omega), ne _ _ (by omega), ne _ _ (by omega)⟩, ⟨_, _, _, ext_get_new h3⟩, ⟨_, _, _, _, ext_get_old hc ho, hw⟩, ext_get_new h1, ext_get_new h2, ext_get_new hk, ⟨ne _ _ (by omega), ne _ _ (by omega), ne _ _ (by omega)⟩, ⟨no _, no _, no _⟩⟩
theorem stay_mid {L : List (Option ABlk)} {z x : Option ABlk} {M : List (Option ABlk)} : Stay L.length L ((L ++ [z]).set L.length x ++ M) := fun j y hj hy => by
  refine getApp ?_
  rw [List.getElem?_set_ne (by omega)]
  exact getApp hy

theorem p2_two (x : Int × Int) : (p2 x).length = 2 := rfl
set_option maxHeartbeats 8000000 in
theorem title_c {H : AHeap} {q r : Option Addr} {c d : Nat} {pts : List Int} {opn : List (Int × Int)} {team : Int} (hs : SlAt H 1 i1 q pts) (ht : SlAt H 2 p2 r opn) (hok : chkR pts opn team = 0) :
    CallT Tryd.prog 9 [Rv q pts.length c r opn.length d, I team] H (fun v h => (bestL pts opn team ≠ [] ∧ v = .tuple ⟨[.slice none 0 0, I 23]⟩ ∧ h = H) ∨ (bestL pts opn team = [] ∧ ∃ p, titleF pts opn team p = 0 ∧ p.length = opn.length ∧ v = .tuple ⟨[lstV H.fresh p, I 0]⟩ ∧ h = lstH H 1 i1 p)) := by
  obtain ⟨hk1, hk2, hk3⟩ := chkR_zero hok
  have hg := race_good hk1
  have hlo := hg.lo
  have hhi := hg.hi
  have hol := hg.len
  have hmb := mostL_bound hg team
  have hmt : team.toNat < pts.length := by omega
  refine fn_start Tryd.func9 rfl rfl rfl fun hc => ?_
  apply ct_seq
  apply ct_region
  apply seq_newP; exact do_box rfl rfl rfl; exact rfl
  apply seq_plain; exact do_assign rfl; exact rfl
  apply seq_plain; exact do_assign rfl; exact rfl
  apply seq_nil
  apply ct_seq
  apply ct_seq
  apply ct_region
  apply seq_plain; exact do_load rfl (by exact ext_get_new rfl) rfl (by exact rfl); exact rfl
  apply seq_plain; exact do_move rfl; exact rfl
  apply seq_call (ht := rfl); exact check_c (hs.ext (ext_Ext hc)) (ht.ext (ext_Ext hc)) (by omega) (by omega); exact rfl
  apply seq_plain; exact do_assign rfl; exact rfl
  apply seq_nil
  apply ct_seq
  apply ct_region
  apply seq_plain; exact do_move rfl; exact rfl
  apply seq_plain; exact do_binInt rfl rfl rfl trivial; exact rfl
  apply seq_nil
  refine ct_cond_f rfl (by simp [hok]) ?_
  apply ct_skip
  apply ct_seq
  apply ct_region
  apply seq_plain; exact do_load rfl (by exact ext_get_new rfl) rfl (by exact rfl); exact rfl
  apply seq_plain; exact do_move rfl; exact rfl
  apply seq_call (ht := rfl); exact most_c (hs.ext (ext_Ext hc)) (ht.ext (ext_Ext hc)) hg hk2 hk3; exact rfl
  apply seq_plain; exact do_assign rfl; exact rfl
  apply seq_nil
  apply ct_seq
  apply ct_draw (by assumption); decide +kernel
  apply sd_look (hfree := rfl); exact do_load rfl (by exact ext_get_new rfl) rfl (by exact rfl); exact rfl
  apply sd_plain (hfree := rfl); intro _; exact do_fieldAddr rfl rfl; exact rfl
  apply sd_look (hfree := rfl); exact do_load rfl (by exact ext_get_new rfl) rfl (by exact rfl); exact rfl
  apply sd_look (hfree := rfl); exact do_lenS rfl rfl rfl; exact rfl
  apply sd_newS (hfree := rfl); exact mkPairs rfl hol; exact rfl
  apply sd_plain (hfree := rfl); intro _; exact do_fieldAddr rfl rfl; exact rfl
  apply sd_look (hfree := rfl); exact do_load rfl (by exact ext_get_new rfl) rfl (by exact rfl); exact rfl
  apply sd_look (hfree := rfl); exact do_lenS rfl rfl rfl; exact rfl
  apply sd_newS (hfree := rfl); exact mk33 rfl hhi; exact rfl
  apply sd_plain (hfree := rfl); intro _; exact do_build rfl rfl rfl rfl; exact rfl
  apply sd_newP (hfree := rfl); exact do_box rfl rfl rfl; exact rfl
  apply sd_plain (hfree := rfl); intro _; exact do_assign rfl; exact rfl
  apply sd_nil
  apply ct_seq
  apply ct_seq
  apply ct_region
  apply seq_plain; exact do_fieldAddr rfl rfl; exact rfl
  apply seq_plain; exact do_load rfl (by exact ext_get_new rfl) rfl (by exact rfl); exact rfl
  apply seq_plain; exact do_lenS rfl rfl rfl; exact rfl
  apply seq_plain; exact do_move rfl; exact rfl
  apply seq_nil
  apply ct_block
  apply ct_loop
  rw [← upTo_zero (f := roomF pts opn team)]
  refine lt_meas (α := Nat) (fun i => [(1, I team), (2, .pointer (some ⟨nb H 0, 0, none⟩)), (7, I (mostL pts opn team)), (8, .pointer (some ⟨nb H 3, 0, none⟩)), (41, .slice q pts.length c), (42, I pts.length), (43, I i)]) (fun i => ext H H.fresh [some (.cells [.slice q pts.length c, .slice r opn.length d] 0 false false), some (.cells ((List.replicate opn.length ((0 : Int), (0 : Int))).flatMap p2) 2 false false), some (.cells ((upTo pts.length i (roomF pts opn team) 0).map I) 1 false false), some (.cells [.slice q pts.length c, .slice r opn.length d, .slice (some ⟨nb H 1, 0, none⟩) opn.length opn.length, .slice (some ⟨nb H 2, 0, none⟩) pts.length pts.length] 0 false false)])
    (fun i => i ≤ pts.length) (fun i => pts.length - i) (fun i hi ih => ?_) 0 (by omega) (by repeat (first | exact sub_nil | apply sub_cons rfl)) (.refl _)
  have hul : (upTo pts.length i (roomF pts opn team) 0).length = pts.length := upTo_len
  apply ct_seq
  apply ct_region
  apply seq_plain; exact do_binInt rfl rfl rfl trivial; exact rfl
  apply seq_nil
  apply ct_seq
  refine ct_cond rfl (fun h1 => ?_) (fun h1 => ?_)
  · simp only [decide_eq_true_eq, Int.ofNat_lt] at h1
    obtain ⟨b, o, cs, z, s, ro, rfl, hg1, hw⟩ := hs.out (by intro e; rw [e] at h1; simp at h1)
    have hpi := hg.pt _ (List.getElem_mem h1)
    have epi : mostL pts opn team - pts[i] = roomF pts opn team i := by unfold roomF ptL; simp [h1]
    apply ct_skip
    apply ct_seq
    apply ct_block
    apply ct_seq
    apply ct_region
    apply seq_plain; exact do_move rfl; exact rfl
    apply seq_plain; exact do_indexAddrS rfl rfl rfl (by exact idx_nat (by omega)); exact rfl
    apply seq_plain; exact do_load rfl (by exact ext_get_old (by assumption) (by assumption)) rfl (by exact pt_sl0 (by assumption) (by omega)); exact rfl
    apply seq_plain; exact do_assign rfl; exact rfl
    apply seq_plain; exact do_assign rfl; exact rfl
    apply seq_nil
    apply ct_region
    apply seq_plain; exact do_move rfl; exact rfl
    apply seq_plain; exact do_nilCheck rfl; exact rfl
    apply seq_plain; exact do_fieldAddr rfl rfl; exact rfl
    apply seq_plain; exact do_load rfl (by exact ext_get_new rfl) rfl (by exact rfl); exact rfl
    apply seq_plain; exact do_move rfl; exact rfl
    apply seq_plain; exact do_move rfl; exact rfl
    apply seq_plain; exact do_move rfl; exact rfl
    apply seq_plain; exact do_sub rfl rfl (by omega); exact rfl
    apply seq_plain; exact do_indexAddrS rfl rfl rfl (by exact idx_nat (by omega)); exact rfl
    apply seq_putC (hc := by assumption); rotate_left; exact do_store rfl rfl (by exact ext_get_new rfl) rfl (stl_map (by omega) rfl rfl) (nb_own _); rotate_left; exact Nat.le_of_ble_eq_true rfl
    apply ct_region
    apply seq_plain; exact do_succ rfl (by omega); exact rfl
    apply seq_plain; exact do_move rfl; exact rfl
    apply seq_nil
    have ih := ih (i + 1) (by omega) (by omega)
    rw [← upTo_set, ← epi] at ih
    exact lt_to (by repeat (first | exact sub_nil | apply sub_cons rfl)) (.refl _) ih
  · simp only [decide_eq_false_iff_not, Int.ofNat_lt] at h1
    have hi' : i = pts.length := by omega
    subst hi'
    rw [show upTo pts.length pts.length (roomF pts opn team) 0 = room1 pts opn team from rfl]
    have r1l : (room1 pts opn team).length = pts.length := room1_len
    have ha : ∀ {h : AHeap} {b z : Nat} {s ro : Bool}, h.get b = some (.cells ((room1 pts opn team).map I) z s ro) → Ret Tryd.prog 38 [.slice (some ⟨b, 0, none⟩) pts.length pts.length, .func (.func 39) #[] ⟨[]⟩] h (.bool ((room1 pts opn team).any fun k => decide (k < 0))) h := fun hh => by
      have := has106 (c := pts.length) (l := room1 pts opn team) (p := fun k => decide (k < 0)) (slAt_map hh) (by omega) fun x hx H' h' => neg_c
      rwa [r1l] at this
    apply ct_exit
    apply exit_eq; exact rfl
    apply ct_seq
    apply ct_seq
    apply ct_region
    apply seq_plain; exact do_move rfl; exact rfl
    apply seq_plain; exact do_nilCheck rfl; exact rfl
    apply seq_plain; exact do_fieldAddr rfl rfl; exact rfl
    apply seq_plain; exact do_load rfl (by exact ext_get_new rfl) rfl (by exact rfl); exact rfl
    apply seq_call (ht := rfl); exact ha (by exact ext_get_new rfl); exact rfl
    apply seq_nil
    refine ct_cond rfl (fun h2 => ?_) (fun h2 => ?_)
    · apply ct_seq
      apply ct_region
      apply seq_plain; exact do_assign rfl; exact rfl
      apply seq_plain; exact do_assign rfl; exact rfl
      apply seq_nil
      apply ct_ret
      refine fin_flat hc rfl rfl (.inl ⟨best_of_far hg hk2 hk3 ?_, rfl, rfl⟩)
      rw [List.any_eq_true] at h2
      obtain ⟨x, hx, hx0⟩ := h2
      exact ⟨x, hx, by simpa using hx0⟩
    · have hr1 : ∀ x ∈ room1 pts opn team, 0 ≤ x := fun x hx => by
        rw [List.any_eq_false] at h2
        have := h2 x hx
        simp at this; omega
      apply ct_skip
      apply ct_seq
      apply ct_seq
      apply ct_region
      apply seq_plain; exact do_fieldAddr rfl rfl; exact rfl
      apply seq_plain; exact do_load rfl (by exact ext_get_new rfl) rfl (by exact rfl); exact rfl
      apply seq_plain; exact do_lenS rfl rfl rfl; exact rfl
      apply seq_plain; exact do_move rfl; exact rfl
      apply seq_nil
      apply ct_block
      apply ct_loop
      rw [← room2_zero (opn := opn) hk2 hk3, ← upTo_zero (f := fun k => ownG team (opnD opn k))]
      refine lt_meas (α := Nat × List (Option ABlk)) (fun a => [(1, I team), (2, .pointer (some ⟨nb H 0, 0, none⟩)), (8, .pointer (some ⟨nb H 3, 0, none⟩)), (64, .slice r opn.length d), (65, I opn.length), (66, I a.1)]) (fun a => ext H H.fresh (some (.cells [.slice q pts.length c, .slice r opn.length d] 0 false false) :: some (.cells ((given2 opn team a.1).flatMap p2) 2 false false) :: some (.cells ((room2 pts opn team a.1).map I) 1 false false) :: some (.cells [.slice q pts.length c, .slice r opn.length d, .slice (some ⟨nb H 1, 0, none⟩) opn.length opn.length, .slice (some ⟨nb H 2, 0, none⟩) pts.length pts.length] 0 false false) :: a.2))
        (fun a => a.1 ≤ opn.length) (fun a => opn.length - a.1) (fun a hi ih => ?_) (0, []) (by simp) (by repeat (first | exact sub_nil | apply sub_cons rfl)) (.refl _)
      obtain ⟨i, M⟩ := a
      simp only at hi ih ⊢
      have ih' := fun i' M' a1 a2 => ih (i', M') a1 a2
      simp only at ih'
      clear ih
      have r2l : (room2 pts opn team i).length = pts.length := room2_len
      have g2l : (given2 opn team i).length = opn.length := given2_len
      apply ct_seq
      apply ct_region
      apply seq_plain; exact do_binInt rfl rfl rfl trivial; exact rfl
      apply seq_nil
      apply ct_seq
      refine ct_cond rfl (fun h3 => ?_) (fun h3 => ?_)
      · simp only [decide_eq_true_eq, Int.ofNat_lt] at h3
        obtain ⟨bo, oo, cso, zo, so, roo, rfl, hgo, hwo⟩ := ht.out (by intro e; rw [e] at h3; simp at h3)
        apply ct_skip
        apply ct_seq
        apply ct_block
        apply ct_seq
        apply ct_region
        apply seq_plain; exact do_move rfl; exact rfl
        apply seq_plain; exact do_indexAddrS rfl rfl rfl (by exact idx_nat (by omega)); exact rfl
        apply seq_plain; exact do_load rfl (by exact ext_get_old (by assumption) (by assumption)) rfl (by exact pt_sl (by assumption) (by omega)); exact rfl
        apply seq_newP; exact do_alloc rfl rfl; exact rfl
        apply seq_plain; exact do_assign rfl; exact rfl
        apply seq_putC (hc := by assumption); rotate_left; exact do_store rfl rfl (by exact ext_get_new List.getElem?_concat_length) rfl rfl (nb_own _); rotate_left; exact (by simp)
        apply ct_seq
        apply ct_region
        apply seq_plain; exact do_sliceArr rfl rfl rfl; exact rfl
        apply seq_plain; exact do_move rfl; exact rfl
        apply seq_call (ht := rfl); exact index_c (l := [opn[i].1, opn[i].2]) (slAt_map (by exact ext_get_new getSetLast)) (by simp); exact rfl
        apply seq_plain; exact do_assign rfl; exact rfl
        apply seq_nil
        apply ct_seq
        apply ct_region
        apply seq_plain; exact do_move rfl; exact rfl
        apply seq_plain; exact do_binInt rfl rfl rfl trivial; exact rfl
        apply seq_nil
        rcases idx2 (t := team) (p := opn[i]) with ⟨e, n1, n2⟩ | ⟨a, ha, hta, e, hfst⟩
        · rw [e]
          refine ct_cond_f rfl rfl ?_
          apply ct_skip
          apply ct_region
          apply seq_plain; exact do_succ rfl (by omega); exact rfl
          apply seq_plain; exact do_move rfl; exact rfl
          apply seq_nil
          have hno : hasT team opn[i] = false := by
            cases hh : hasT team opn[i]
            · rfl
            · rcases hasT_iff.1 hh with x | x <;> contradiction
          have ih := fun M' => ih' (i + 1) M' (by omega) (by omega)
          rw [given2_skip h3 ⟨n1, n2⟩, room2_same h3 hno] at ih
          exact lt_to (by repeat (first | exact sub_nil | apply sub_cons rfl)) (.refl _) (ih _)
        · rw [e]
          refine ct_cond_t rfl (by simp) ?_
          have hho : hasT team opn[i] = true := by
            rw [hasT_iff]
            unfold tm at hta
            split at hta
            · exact .inl hta
            · exact .inr hta
          have hgi : i < (given2 opn team i).length := by omega
          have hrt : team.toNat < (room2 pts opn team i).length := by omega
          have ert := room2_at hrt
          have hcb : (opn.take i).countP (hasT team) ≤ opn.length := count_le
          have hpb := ptL_bound hg team
          apply ct_seq
          apply ct_region
          apply seq_plain; exact do_move rfl; exact rfl
          apply seq_plain; exact do_nilCheck rfl; exact rfl
          apply seq_plain; exact do_fieldAddr rfl rfl; exact rfl
          apply seq_plain; exact do_load rfl (by exact ext_get_new rfl) rfl (by exact rfl); exact rfl
          apply seq_plain; exact do_move rfl; exact rfl
          apply seq_plain; exact do_move rfl; exact rfl
          apply seq_plain; exact do_indexAddrS rfl rfl rfl (by exact idx_nat (by omega)); exact rfl
          apply seq_plain; exact do_indexAddrA rfl rfl rfl (by exact idx_nat (by omega)); exact rfl
          apply seq_putC (hc := by assumption); rotate_left; exact do_store rfl rfl (by exact ext_get_new rfl) rfl (stl_flat (f := p2) (w := 2) (x' := ownG team opn[i]) (fun _ => rfl) hgi ha (by rw [given2_at hgi]; exact own_a ha hta hfst) rfl rfl) (nb_own _); rotate_left; exact Nat.le_of_ble_eq_true rfl
          apply ct_region
          apply seq_plain; exact do_move rfl; exact rfl
          apply seq_plain; exact do_nilCheck rfl; exact rfl
          apply seq_plain; exact do_fieldAddr rfl rfl; exact rfl
          apply seq_plain; exact do_load rfl (by exact ext_get_new rfl) rfl (by exact rfl); exact rfl
          apply seq_plain; exact do_move rfl; exact rfl
          apply seq_plain; exact do_indexAddrS rfl rfl rfl (by exact idx_int (by omega)); exact rfl
          apply seq_plain; exact do_load rfl (by exact ext_get_new rfl) rfl (by exact pt_map (by omega)); exact rfl
          apply seq_plain; exact do_sub rfl rfl (by omega); exact rfl
          apply seq_plain; exact do_indexAddrS rfl rfl rfl (by exact idx_int (by omega)); exact rfl
          rw [ert]
          apply seq_putC (hc := by assumption); rotate_left; exact do_store rfl rfl (by exact ext_get_new rfl) rfl (stl_map hrt rfl rfl) (nb_own _); rotate_left; exact Nat.le_of_ble_eq_true rfl
          apply ct_region
          apply seq_plain; exact do_succ rfl (by omega); exact rfl
          apply seq_plain; exact do_move rfl; exact rfl
          apply seq_nil
          have ih := fun M' => ih' (i + 1) M' (by omega) (by omega)
          rw [← given2_set h3, ← room2_set h3 hho] at ih
          exact lt_to (by repeat (first | exact sub_nil | apply sub_cons rfl)) (.refl _) (ih _)
      · simp only [decide_eq_false_iff_not, Int.ofNat_lt] at h3
        have hi' : i = opn.length := by omega
        subst hi'
        have M0 := mid_start hg hk2 hk3 hr1
        generalize given2 opn team opn.length = gv0 at M0 ⊢
        generalize room2 pts opn team opn.length = rm0 at M0 ⊢
        apply ct_exit
        apply exit_eq; exact rfl
        apply ct_seq
        apply ct_region
        apply seq_plain; exact do_assign rfl; exact rfl
        apply seq_nil
        apply ct_seq
        apply ct_seq
        apply ct_region
        apply seq_plain; exact do_fieldAddr rfl rfl; exact rfl
        apply seq_plain; exact do_load rfl (by exact ext_get_new rfl) rfl (by exact rfl); exact rfl
        apply seq_plain; exact do_lenS rfl rfl rfl; exact rfl
        apply seq_plain; exact do_move rfl; exact rfl
        apply seq_nil
        apply ct_block
        apply ct_loop
        refine lt_meas (α := Nat × Nat × List (Option ABlk) × List (Int × Int) × List Int) (fun a => [(1, I team), (2, .pointer (some ⟨nb H 0, 0, none⟩)), (8, .pointer (some ⟨nb H 3, 0, none⟩)), (14, .slice none 0 0), (95, .slice r opn.length d), (96, I opn.length), (97, I a.1)]) (fun a => ext H a.2.1 (some (.cells [.slice q pts.length c, .slice r opn.length d] 0 false false) :: some (.cells (a.2.2.2.1.flatMap p2) 2 false false) :: some (.cells (a.2.2.2.2.map I) 1 false false) :: some (.cells [.slice q pts.length c, .slice r opn.length d, .slice (some ⟨nb H 1, 0, none⟩) opn.length opn.length, .slice (some ⟨nb H 2, 0, none⟩) pts.length pts.length] 0 false false) :: a.2.2.1))
          (fun a => a.1 ≤ opn.length ∧ Mid pts opn team a.1 0 a.2.2.2.1 a.2.2.2.2) (fun a => opn.length - a.1) (fun a ha ih => ?_) (0, H.fresh, _, gv0, rm0) ⟨by omega, M0⟩ (by repeat (first | exact sub_nil | apply sub_cons rfl)) (.refl _)
        obtain ⟨i, lo, M, gv1, rm1⟩ := a
        obtain ⟨hi, hm⟩ := ha
        simp only at hi hm ih ⊢
        have ih' := fun i' l' M' g' r' a1 a2 a3 => ih (i', l', M', g', r') a1 ⟨a2, a3⟩
        simp only at ih'
        clear ih
        apply ct_seq
        apply ct_region
        apply seq_plain; exact do_binInt rfl rfl rfl trivial; exact rfl
        apply seq_nil
        apply ct_seq
        refine ct_cond rfl (fun h4 => ?_) (fun h4 => ?_)
        · simp only [decide_eq_true_eq, Int.ofNat_lt] at h4
          obtain ⟨bo, oo, cso, zo, so, roo, rfl, hgo, hwo⟩ := ht.out (by intro e; rw [e] at h4; simp at h4)
          apply ct_skip
          apply ct_seq
          apply ct_block
          apply ct_seq
          apply ct_region
          apply seq_plain; exact do_move rfl; exact rfl
          apply seq_plain; exact do_indexAddrS rfl rfl rfl (by exact idx_nat (by omega)); exact rfl
          apply seq_plain; exact do_load rfl (by exact ext_get_old (by assumption) (by assumption)) rfl (by exact pt_sl (by assumption) (by omega)); exact rfl
          apply seq_newP; exact do_alloc rfl rfl; exact rfl
          apply seq_plain; exact do_assign rfl; exact rfl
          apply seq_putC (hc := by assumption); rotate_left; exact do_store rfl rfl (by exact ext_get_new List.getElem?_concat_length) rfl rfl (nb_own _); rotate_left; exact (by simp)
          apply ct_seq
          apply ct_seq
          apply ct_region
          apply seq_plain; exact do_sliceArr rfl rfl rfl; exact rfl
          apply seq_plain; exact do_move rfl; exact rfl
          apply seq_call (ht := rfl); exact contains_c (l := [opn[i].1, opn[i].2]) (slAt_map (by exact ext_get_new getSetLast)) (by simp); exact rfl
          apply seq_nil
          refine ct_cond rfl (fun c1 => ?_) (fun c1 => ?_)
          · have c1 : hasT team opn[i] = true := c1
            apply ct_exit
            apply exit_eq; exact rfl
            apply ct_region
            apply seq_plain; exact do_succ rfl (by omega); exact rfl
            apply seq_plain; exact do_move rfl; exact rfl
            apply seq_nil
            exact lt_to (by repeat (first | exact sub_nil | apply sub_cons rfl)) (.refl _) (ih' (i + 1) lo _ gv1 rm1 (by omega) (by omega) (hm.next (.inr ⟨_, List.getElem?_eq_getElem h4, c1⟩)))
          · have c1 : hasT team opn[i] = false := c1
            have hno : ∀ p, opn[i]? = some p → hasT team p = false := fun p hp => by
              rw [List.getElem?_eq_getElem h4] at hp
              cases hp; exact c1
            apply ct_skip
            apply ct_seq
            apply ct_region
            apply seq_plain; exact do_move rfl; exact rfl
            apply seq_nil
            apply ct_block
            apply ct_loop
            refine lt_meas (α := Nat × Nat × List (Option ABlk) × List (Int × Int) × List Int) (fun a => [(1, I team), (2, .pointer (some ⟨nb H 0, 0, none⟩)), (8, .pointer (some ⟨nb H 3, 0, none⟩)), (14, .slice none 0 0), (15, I i), (95, .slice (some ⟨bo, oo, none⟩) opn.length d), (96, I opn.length), (97, I i), (105, I a.1)]) (fun a => ext H a.2.1 (some (.cells [.slice q pts.length c, .slice (some ⟨bo, oo, none⟩) opn.length d] 0 false false) :: some (.cells (a.2.2.2.1.flatMap p2) 2 false false) :: some (.cells (a.2.2.2.2.map I) 1 false false) :: some (.cells [.slice q pts.length c, .slice (some ⟨bo, oo, none⟩) opn.length d, .slice (some ⟨nb H 1, 0, none⟩) opn.length opn.length, .slice (some ⟨nb H 2, 0, none⟩) pts.length pts.length] 0 false false) :: a.2.2.1))
              (fun a => a.1 ≤ 2 ∧ Mid pts opn team i a.1 a.2.2.2.1 a.2.2.2.2) (fun a => 2 - a.1) (fun a ha ih => ?_) (0, lo, _, gv1, rm1) ⟨by omega, hm⟩ (by repeat (first | exact sub_nil | apply sub_cons rfl)) (.refl _)
            obtain ⟨k, lo2, M2, gv2, rm2⟩ := a
            obtain ⟨hk, hm2⟩ := ha
            simp only at hk hm2 ih ⊢
            have ih3 := fun i' l' M' g' r' a1 a2 a3 => ih (i', l', M', g', r') a1 ⟨a2, a3⟩
            simp only at ih3
            clear ih
            apply ct_seq
            apply ct_region
            apply seq_plain; exact do_binInt rfl rfl rfl trivial; exact rfl
            apply seq_nil
            apply ct_seq
            refine ct_cond rfl (fun h5 => ?_) (fun h5 => ?_)
            · simp only [decide_eq_true_eq] at h5
              have hlr := hm2.lenR
              apply ct_skip
              apply ct_seq
              apply ct_block
              apply ct_seq
              apply ct_region
              apply seq_plain; exact do_fieldAddr rfl rfl; exact rfl
              apply seq_plain; exact do_load rfl (by exact ext_get_new rfl) rfl (by exact rfl); exact rfl
              apply seq_plain; exact do_lenS rfl rfl rfl; exact rfl
              apply seq_newS; exact mkBools rfl hhi; exact rfl
              apply seq_plain; exact do_assign rfl; exact rfl
              apply seq_nil
              apply ct_seq
              apply ct_region
              apply seq_plain; exact do_move rfl; exact rfl
              apply seq_plain; exact do_move rfl; exact rfl
              apply seq_plain; exact do_indexAddrS rfl rfl rfl (by exact idx_int (by omega)); exact rfl
              apply seq_putC (hc := by assumption); rotate_left; exact do_store rfl rfl (by exact ext_get_new List.getElem?_concat_length) rfl (stl_map (v := true) (by rw [List.length_replicate]; exact hmt) rfl rfl) (nb_own _); rotate_left; exact (by simp)
              apply ct_seq
              apply ct_region
              apply seq_plain; exact do_move rfl; exact rfl
              apply seq_plain; exact do_move rfl; exact rfl
              apply seq_plain; exact do_move rfl; exact rfl
              have hF := fun L a b c' d' => flow_at (H := H) (lo := lo2) (L := L) (ks := (M2.length + 1 + 1 + 1 + 1)) (q := q) (c := c) (d := d) (zf := 0) (sf := false) (rof := false) (given := gv2) (room := rm2) (seen := seen0 pts.length team) hc a b c' d' (by omega) hgo hwo
              rw [hlr] at hF
              have tc := fun L a b c' d' => take_c _ (hF L a b c' d') (hm2.ready hg (by omega)) (Nat.lt_succ_self _) h4 (by omega)
              rw [hlr] at tc
              refine seq_callQ rfl (tc _ rfl rfl rfl getSetLast) rfl (fun v h hv => ?_)
              obtain ⟨ok, g1, r1, s1, rfl, hT, hTn⟩ := hv
              refine seqL_to sub_refl (turn_new hc (by simp) (by simp) (by simp) (by omega) (by omega) (by omega) hTn) (by simp) ?_
              cases ok with
              | false =>
                apply seq_plain; exact do_unOp rfl rfl; exact rfl
                apply seq_nil
                refine ct_cond_t rfl rfl ?_
                obtain ⟨rfl, rfl, hfl, hboth⟩ := hT.fail rfl
                apply ct_seq
                apply ct_region
                apply seq_plain; exact do_assign rfl; exact rfl
                apply seq_plain; exact do_assign rfl; exact rfl
                apply seq_nil
                apply ct_ret
                exact fin_flat hc rfl rfl (.inl ⟨hm2.fail hg hk2 hk3 (by omega) (List.getElem?_eq_getElem h4) c1 hfl (hboth _ (List.getElem?_eq_getElem h4)), rfl, rfl⟩)
              | true =>
                apply seq_plain; exact do_unOp rfl rfl; exact rfl
                apply seq_nil
                refine ct_cond_f rfl rfl ?_
                apply ct_skip
                apply ct_region
                apply seq_plain; exact do_succ rfl (by omega); exact rfl
                apply seq_plain; exact do_move rfl; exact rfl
                apply seq_nil
                exact lt_to (by repeat (first | exact sub_nil | apply sub_cons rfl)) (.refl _) (ih3 (k + 1) h.low _ g1 r1 (by omega) (by omega) (hm2.take hg hk2 hk3 hno (hT.succ rfl)))
            · simp only [decide_eq_false_iff_not] at h5
              have hk' : k = 2 := by omega
              subst hk'
              apply ct_exit
              apply exit_eq; exact rfl
              apply ct_region
              apply seq_plain; exact do_succ rfl (by omega); exact rfl
              apply seq_plain; exact do_move rfl; exact rfl
              apply seq_nil
              exact lt_to (by repeat (first | exact sub_nil | apply sub_cons rfl)) (.refl _) (ih' (i + 1) lo2 _ gv2 rm2 (by omega) (by omega) (hm2.next (.inl rfl)))
        · simp only [decide_eq_false_iff_not, Int.ofNat_lt] at h4
          have hi' : i = opn.length := by omega
          subst hi'
          obtain ⟨hbest, htitle⟩ := hm.done hk2 hk3
          have hgl := hm.lenG
          apply ct_exit
          apply exit_eq; exact rfl
          apply ct_seq
          apply ct_seq
          apply ct_region
          apply seq_plain; exact do_move rfl; exact rfl
          apply seq_plain; exact do_nilCheck rfl; exact rfl
          apply seq_plain; exact do_fieldAddr rfl rfl; exact rfl
          apply seq_plain; exact do_load rfl (by exact ext_get_new rfl) rfl (by exact rfl); exact rfl
          apply seq_plain; exact do_lenS rfl rfl rfl; exact rfl
          apply seq_plain; exact do_move rfl; exact rfl
          apply seq_nil
          apply ct_block
          apply ct_loop
          refine lt_meas (α := Nat × Value × List (Option ABlk)) (fun a => [(14, a.2.1), (124, .slice (some ⟨nb H 1, 0, none⟩) opn.length opn.length), (125, I opn.length), (126, I a.1)]) (fun a => ext H lo a.2.2)
            (fun a => a.1 ≤ opn.length ∧ Lst H a.2.2 1 i1 2 a.2.1 ((gv1.take a.1).map (·.1)) ∧ a.2.2[1]? = some (some (.cells (gv1.flatMap p2) 2 false false))) (fun a => opn.length - a.1) (fun a ha ih => ?_) (0, .slice none 0 0, _) ⟨by omega, .nil, rfl⟩ (by repeat (first | exact sub_nil | apply sub_cons rfl)) (.refl _)
          obtain ⟨j, v, L⟩ := a
          obtain ⟨hj, hv, hL1⟩ := ha
          simp only at hj hv hL1 ih ⊢
          have ih4 := fun i' v' L' a1 a2 a3 a4 => ih (i', v', L') a1 ⟨a2, a3, a4⟩
          simp only at ih4
          clear ih
          have l1 := (List.getElem?_eq_some_iff.1 hL1).1
          apply ct_seq
          apply ct_region
          apply seq_plain; exact do_binInt rfl rfl rfl trivial; exact rfl
          apply seq_nil
          apply ct_seq
          refine ct_cond rfl (fun h6 => ?_) (fun h6 => ?_)
          · simp only [decide_eq_true_eq, Int.ofNat_lt] at h6
            have hjg : j < gv1.length := by omega
            apply ct_skip
            apply ct_seq
            apply ct_block
            apply ct_seq
            apply ct_region
            apply seq_plain; exact do_indexAddrS rfl rfl rfl (by exact idx_nat (by omega)); exact rfl
            apply seq_plain; exact do_load rfl (by exact ext_get_new (by assumption)) rfl (by exact pt_flat p2_two (by omega)); exact rfl
            apply seq_newP; exact do_alloc rfl rfl; exact rfl
            apply seq_putC (hc := by assumption); rotate_left; exact do_store rfl rfl (by exact ext_get_new List.getElem?_concat_length) rfl rfl (nb_own _); rotate_left; exact (by simp)
            apply ct_region
            apply seq_plain; exact do_move rfl; exact rfl
            apply seq_plain; exact do_indexAddrA rfl rfl rfl (by exact rfl); exact rfl
            apply seq_plain; exact do_load rfl (by exact ext_get_new getSetLast) rfl (by exact rfl); exact rfl
            apply seq_newS; exact do_buildSlice rfl rfl rfl rfl rfl rfl rfl; exact rfl
            refine seq_grow (xs := [gv1[j].1]) hc (hv.stayAll stay_mid) (by simp) (fun _ => rfl) (fun _ => rfl) rfl rfl rfl rfl rfl rfl (ext_get_new List.getElem?_concat_length) rfl (by simp) ?_ (Nat.ne_of_beq_eq_false rfl) (Nat.ne_of_beq_eq_false rfl) rfl (fun v' L' hv' hst hlen => ?_)
            · exact Nat.le_trans (Nat.mul_le_mul_right _ (by rw [List.length_map, List.length_take]; simp only [List.length_cons, List.length_nil]; omega : _ ≤ 3000)) (Nat.le_of_ble_eq_true rfl)
            apply seq_plain; exact do_assign rfl; exact rfl
            apply seq_nil
            apply ct_region
            apply seq_plain; exact do_succ rfl (by omega); exact rfl
            apply seq_plain; exact do_move rfl; exact rfl
            apply seq_nil
            refine lt_sub (by repeat (first | exact sub_nil | apply sub_cons rfl)) (ih4 (j + 1) v' L' (by omega) (by omega) ?_ (hst 1 _ (by omega) (stay_mid 1 _ l1 hL1)))
            rw [take_snoc hjg, List.map_append]; exact hv'
          · simp only [decide_eq_false_iff_not, Int.ofNat_lt] at h6
            have hjl : j = opn.length := by omega
            subst hjl
            rw [take_all (l := gv1) (by omega)] at hv
            apply ct_exit
            apply exit_eq; exact rfl
            apply ct_seq
            apply ct_region
            apply seq_plain; exact do_move rfl; exact rfl
            apply seq_plain; exact do_assign rfl; exact rfl
            apply seq_plain; exact do_assign rfl; exact rfl
            apply seq_nil
            apply ct_ret
            exact fin_lst2 hc hv rfl (fun _ => rfl) (.inr ⟨hbest, _, htitle, by rw [List.length_map]; exact hgl, rfl, rfl⟩)
end Go.Proofs.YtppflopinmkpgaaDoor
