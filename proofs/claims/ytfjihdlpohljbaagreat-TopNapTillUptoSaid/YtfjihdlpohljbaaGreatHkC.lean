/- Contracts: tables and bookings, as the reference examines them. -/
import Derived.Test.YtfjihdlpohljbaaGreatHkA
noncomputable section
namespace Go.Proofs.YtfjihdlpohljbaaGreat
open Go Go.Den
set_option maxRecDepth 100000
theorem nameE_two (a b : ByteArray) : nameE [a, b] = whenL (!nameB a || !nameB b) 8 := by simp [nameE]
/-- the reference's look at names -/
theorem bookE_8 {x : Bk} (h : (!nameB x.name || !nameB x.kind) = true) : bookE x = 8 := by unfold bookE; rw [nameE_two, h]; simp [firstL, whenL]
theorem bookE_3 {x : Bk} (h : (!nameB x.name || !nameB x.kind) = false) (h2 : (outL x.frm 0 99999 || outL x.to 0 99999) = true) : bookE x = 3 := by
  unfold bookE
  rw [nameE_two, h]
  cases e : outL x.frm 0 99999
  · rw [e] at h2
    have h3 : outL x.to 0 99999 = true := by simpa using h2
    rw [h3]; simp [firstL, whenL]
  · simp [firstL, whenL]
theorem bookE_11 {x : Bk} (h : (!nameB x.name || !nameB x.kind) = false) (h2 : (outL x.frm 0 99999 || outL x.to 0 99999) = false) : bookE x = whenL (decide (x.to ≤ x.frm)) 11 := by
  rw [Bool.or_eq_false_iff] at h2
  unfold bookE
  rw [nameE_two, h, h2.1, h2.2]
  cases decide (x.to ≤ x.frm) <;> simp [firstL, whenL]
set_option maxHeartbeats 4000000 in
theorem refBookings_c {H : AHeap} {q : Option Addr} {c : Nat} {l : List Bk} (hs : SlAt H 4 bk q l) (hn : l.length < 1000000000) :
    Ret Tryz.prog 9 [.slice q l.length c] H (I (booksE l)) H := by
  refine fn_start Tryz.func9 rfl rfl rfl fun hc => ?_
  apply ct_seq
  apply ct_region
  apply seq_plain; exact do_assign rfl; exact rfl
  apply seq_nil
  apply ct_seq
  apply ct_seq
  apply ct_region
  apply seq_plain; exact do_move rfl; exact rfl
  apply seq_plain; exact do_lenS rfl rfl rfl; exact rfl
  apply seq_plain; exact do_binInt rfl rfl rfl trivial; exact rfl
  apply seq_nil
  refine ct_cond rfl (fun h0 => ?_) (fun h0 => ?_)
  · have h0 : l.length > 256 := by simp at h0; omega
    apply ct_seq
    apply ct_region
    apply seq_plain; exact do_assign rfl; exact rfl
    apply seq_nil
    apply ct_ret
    refine fin_flat hc rfl rfl ⟨?_, rfl⟩
    unfold booksE
    rw [if_pos h0]; rfl
  have h0 : ¬ l.length > 256 := by simp at h0; omega
  apply ct_skip
  apply ct_seq
  apply ct_seq
  apply ct_region
  apply seq_plain; exact do_assign rfl; exact rfl
  apply seq_nil
  apply ct_block
  apply ct_loop
  refine lt_up (fun i => [(0, .slice q l.length c), (3, I i)]) (fun i => ∀ j, j < i → errG (fun _ x => bookE x) l j = 0) l.length (fun i hi hJ ih => ?_) 0 (by omega) (by intros; omega) (by repeat (first | exact sub_nil | apply sub_cons rfl))
  apply ct_seq
  apply ct_seq
  apply ct_region
  apply seq_plain; exact do_move rfl; exact rfl
  apply seq_plain; exact do_move rfl; exact rfl
  apply seq_plain; exact do_lenS rfl rfl rfl; exact rfl
  apply seq_plain; exact do_binInt rfl rfl rfl trivial; exact rfl
  apply seq_nil
  refine ct_cond rfl (fun h1 => ?_) (fun h1 => ?_)
  · simp only [decide_eq_true_eq, Int.ofNat_lt] at h1
    obtain ⟨b, o, cs, z, s, ro, rfl, hg, hw⟩ := hs.out (by intro e; rw [e] at h1; simp at h1)
    have ee := errG_at (err := fun _ x => bookE x) h1
    have bad : bookE l[i] ≠ 0 → booksE l = bookE l[i] := fun hne => by
      unfold booksE
      rw [if_neg h0, restG_at h1 hJ (by rw [ee]; exact hne), ee]
    obtain ⟨Z, hZ⟩ : ∃ Z : Bool, Z = (!nameB l[i].name || !nameB l[i].kind) := ⟨_, rfl⟩
    obtain ⟨Y, hY⟩ : ∃ Y : Bool, Y = (outL l[i].frm 0 99999 || outL l[i].to 0 99999) := ⟨_, rfl⟩
    apply ct_skip
    apply ct_seq
    apply ct_block
    apply ct_seq
    apply ct_seq
    apply ct_region
    apply seq_plain; exact do_move rfl; exact rfl
    apply seq_plain; exact do_move rfl; exact rfl
    apply seq_plain; exact do_indexAddrS rfl rfl rfl (by exact idx_nat (by omega)); exact rfl
    apply seq_plain; exact do_fieldAddr rfl rfl; exact rfl
    apply seq_plain; exact do_load rfl (by exact ext_get_old (by assumption) (by assumption)) rfl (by exact pt_sl1 (by assumption) (by omega) (Nat.le_of_ble_eq_true rfl) rfl); exact rfl
    apply seq_call (ht := rfl); exact refIsName_c; exact rfl
    apply seq_plain; exact do_unOp rfl rfl; exact rfl
    apply seq_plain; exact do_move rfl; exact rfl
    refine seq_J [(0, .slice (some ⟨b, o, none⟩) l.length c), (3, I i), (28, .bool Z)] (ds := []) (h := ext H H.fresh []) ?_ ?_
    · refine seq_gsplit rfl rfl (fun u => ?_) (fun u => ?_)
      · have u : (!nameB l[i].name) = true := u
        have e : Z = true := by rw [hZ, u]; rfl
        rw [e]
        apply seq_passed (hd := rfl) (hl := rfl) (hb := rfl); exact rfl
        apply seq_passed (hd := rfl) (hl := rfl) (hb := rfl); exact rfl
        apply seq_passed (hd := rfl) (hl := rfl) (hb := rfl); exact rfl
        apply seq_passed (hd := rfl) (hl := rfl) (hb := rfl); exact rfl
        apply seq_passed (hd := rfl) (hl := rfl) (hb := rfl); exact rfl
        apply seq_passed (hd := rfl) (hl := rfl) (hb := rfl); exact rfl
        apply seq_passed (hd := rfl) (hl := rfl) (hb := rfl); exact rfl
        apply seq_plain; exact do_pick_t rfl rfl; exact rfl
        apply seq_nil
        exact jp_of (by repeat (first | exact sub_nil | apply sub_cons rfl))
      · have u : (!nameB l[i].name) = false := u
        have e : Z = !nameB l[i].kind := by rw [hZ, u]; rfl
        rw [e]
        apply seq_guard (hd := rfl) (hl := rfl); exact do_move rfl; exact rfl
        apply seq_guard (hd := rfl) (hl := rfl); exact do_move rfl; exact rfl
        apply seq_guard (hd := rfl) (hl := rfl); exact do_indexAddrS rfl rfl rfl (by exact idx_nat (by omega)); exact rfl
        apply seq_guard (hd := rfl) (hl := rfl); exact do_fieldAddr rfl rfl; exact rfl
        apply seq_guard (hd := rfl) (hl := rfl); exact do_load rfl (by exact ext_get_old (by assumption) (by assumption)) rfl (by exact pt_sl1 (by assumption) (by omega) (Nat.le_of_ble_eq_true rfl) rfl); exact rfl
        apply seq_gcall (hg := rfl) (hl := rfl) (ht := rfl); exact refIsName_c; exact rfl
        apply seq_guard (hd := rfl) (hl := rfl); exact do_unOp rfl rfl; exact rfl
        apply seq_plain; exact do_pick_f rfl rfl; exact rfl
        apply seq_nil
        exact jp_of (by repeat (first | exact sub_nil | apply sub_cons rfl))
    refine ct_cond rfl (fun h2 => ?_) (fun h2 => ?_)
    · have er : bookE l[i] = 8 := bookE_8 (by rw [← hZ]; exact h2)
      apply ct_seq
      apply ct_region
      apply seq_plain; exact do_assign rfl; exact rfl
      apply seq_nil
      apply ct_ret
      refine fin_flat hc rfl rfl ⟨?_, rfl⟩
      rw [bad (by rw [er]; decide), er]; rfl
    rw [h2] at hZ
    apply ct_skip
    apply ct_seq
    apply ct_seq
    apply ct_region
    apply seq_plain; exact do_move rfl; exact rfl
    apply seq_plain; exact do_move rfl; exact rfl
    apply seq_plain; exact do_indexAddrS rfl rfl rfl (by exact idx_nat (by omega)); exact rfl
    apply seq_plain; exact do_fieldAddr rfl rfl; exact rfl
    apply seq_plain; exact do_load rfl (by exact ext_get_old (by assumption) (by assumption)) rfl (by exact pt_sl1 (by assumption) (by omega) (Nat.le_of_ble_eq_true rfl) rfl); exact rfl
    apply seq_call (ht := rfl); exact outside24; exact rfl
    apply seq_plain; exact do_move rfl; exact rfl
    refine seq_J [(0, .slice (some ⟨b, o, none⟩) l.length c), (3, I i), (42, .bool Y)] (ds := []) (h := ext H H.fresh []) ?_ ?_
    · refine seq_gsplit rfl rfl (fun u => ?_) (fun u => ?_)
      · have u : outL l[i].frm 0 99999 = true := u
        have e : Y = true := by rw [hY, u]; rfl
        rw [e]
        apply seq_passed (hd := rfl) (hl := rfl) (hb := rfl); exact rfl
        apply seq_passed (hd := rfl) (hl := rfl) (hb := rfl); exact rfl
        apply seq_passed (hd := rfl) (hl := rfl) (hb := rfl); exact rfl
        apply seq_passed (hd := rfl) (hl := rfl) (hb := rfl); exact rfl
        apply seq_passed (hd := rfl) (hl := rfl) (hb := rfl); exact rfl
        apply seq_passed (hd := rfl) (hl := rfl) (hb := rfl); exact rfl
        apply seq_plain; exact do_pick_t rfl rfl; exact rfl
        apply seq_nil
        exact jp_of (by repeat (first | exact sub_nil | apply sub_cons rfl))
      · have u : outL l[i].frm 0 99999 = false := u
        have e : Y = outL l[i].to 0 99999 := by rw [hY, u]; rfl
        rw [e]
        apply seq_guard (hd := rfl) (hl := rfl); exact do_move rfl; exact rfl
        apply seq_guard (hd := rfl) (hl := rfl); exact do_move rfl; exact rfl
        apply seq_guard (hd := rfl) (hl := rfl); exact do_indexAddrS rfl rfl rfl (by exact idx_nat (by omega)); exact rfl
        apply seq_guard (hd := rfl) (hl := rfl); exact do_fieldAddr rfl rfl; exact rfl
        apply seq_guard (hd := rfl) (hl := rfl); exact do_load rfl (by exact ext_get_old (by assumption) (by assumption)) rfl (by exact pt_sl1 (by assumption) (by omega) (Nat.le_of_ble_eq_true rfl) rfl); exact rfl
        apply seq_gcall (hg := rfl) (hl := rfl) (ht := rfl); exact outside24; exact rfl
        apply seq_plain; exact do_pick_f rfl rfl; exact rfl
        apply seq_nil
        exact jp_of (by repeat (first | exact sub_nil | apply sub_cons rfl))
    refine ct_cond rfl (fun h3 => ?_) (fun h3 => ?_)
    · have er : bookE l[i] = 3 := bookE_3 hZ.symm (by rw [← hY]; exact h3)
      apply ct_seq
      apply ct_region
      apply seq_plain; exact do_assign rfl; exact rfl
      apply seq_nil
      apply ct_ret
      refine fin_flat hc rfl rfl ⟨?_, rfl⟩
      rw [bad (by rw [er]; decide), er]; rfl
    rw [h3] at hY
    have er := bookE_11 hZ.symm hY.symm
    apply ct_skip
    apply ct_seq
    apply ct_draw (by assumption); decide +kernel
    apply sd_plain (hfree := rfl); intro _; exact do_move rfl; exact rfl
    apply sd_plain (hfree := rfl); intro _; exact do_move rfl; exact rfl
    apply sd_plain (hfree := rfl); intro _; exact do_indexAddrS rfl rfl rfl (by exact idx_nat (by omega)); exact rfl
    apply sd_plain (hfree := rfl); intro _; exact do_fieldAddr rfl rfl; exact rfl
    apply sd_look (hfree := rfl); exact do_load rfl (by exact ext_get_old (by assumption) (by assumption)) rfl (by exact pt_sl1 (by assumption) (by omega) (Nat.le_of_ble_eq_true rfl) rfl); exact rfl
    apply sd_plain (hfree := rfl); intro _; exact do_move rfl; exact rfl
    apply sd_plain (hfree := rfl); intro _; exact do_move rfl; exact rfl
    apply sd_plain (hfree := rfl); intro _; exact do_indexAddrS rfl rfl rfl (by exact idx_nat (by omega)); exact rfl
    apply sd_plain (hfree := rfl); intro _; exact do_fieldAddr rfl rfl; exact rfl
    apply sd_look (hfree := rfl); exact do_load rfl (by exact ext_get_old (by assumption) (by assumption)) rfl (by exact pt_sl1 (by assumption) (by omega) (Nat.le_of_ble_eq_true rfl) rfl); exact rfl
    apply sd_plain (hfree := rfl); intro _; exact do_binInt rfl rfl rfl trivial; exact rfl
    apply sd_nil
    refine ct_cond rfl (fun h4 => ?_) (fun h4 => ?_)
    · have h4 : decide (l[i].to ≤ l[i].frm) = true := h4
      rw [h4] at er
      have er : bookE l[i] = 11 := er
      apply ct_seq
      apply ct_region
      apply seq_plain; exact do_assign rfl; exact rfl
      apply seq_nil
      apply ct_ret
      refine fin_flat hc rfl rfl ⟨?_, rfl⟩
      rw [bad (by rw [er]; decide), er]; rfl
    have h4 : decide (l[i].to ≤ l[i].frm) = false := h4
    rw [h4] at er
    have er : bookE l[i] = 0 := er
    apply ct_skip
    apply ct_region
    apply seq_plain; exact do_move rfl; exact rfl
    apply seq_plain; exact do_succ rfl (by omega); exact rfl
    apply seq_plain; exact do_assign rfl; exact rfl
    apply seq_nil
    refine lt_to (by repeat (first | exact sub_nil | apply sub_cons rfl)) (by simp only [List.map_nil, List.append_nil]; exact .refl _) (ih (i + 1) (by omega) (by omega) fun j hj => ?_)
    rcases Nat.lt_or_ge j i with h | h
    · exact hJ j h
    · obtain rfl : j = i := by omega
      rw [ee]; exact er
  have h1 : i = l.length := by simp at h1; omega
  subst h1
  apply ct_exit
  apply exit_eq; exact rfl
  apply ct_seq
  apply ct_region
  apply seq_plain; exact do_assign rfl; exact rfl
  apply seq_nil
  apply ct_ret
  refine fin_flat hc rfl rfl ⟨?_, rfl⟩
  unfold booksE
  rw [if_neg h0, restG_none hJ]; rfl
end Go.Proofs.YtfjihdlpohljbaaGreat
