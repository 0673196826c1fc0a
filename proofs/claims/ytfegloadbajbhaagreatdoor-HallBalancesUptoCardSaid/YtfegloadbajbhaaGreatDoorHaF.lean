/- Contracts: a price that is split; rates, as the reference checks them. -/
import Derived.Test.YtfegloadbajbhaaGreatDoorHaB
import Derived.Test.YtfegloadbajbhaaGreatDoorSxM
import Derived.Test.YtfegloadbajbhaaGreatDoorTcB
import Derived.Test.YtfegloadbajbhaaGreatDoorFnL
import Derived.Test.YtfegloadbajbhaaGreatDoorTbN
import Derived.Test.YtfegloadbajbhaaGreatDoorStA
noncomputable section
namespace Go.Proofs.YtfegloadbajbhaaGreatDoor
open Go Go.Den
set_option maxRecDepth 100000

theorem ownRates_c {H : AHeap} {q : Option Addr} {c : Nat} {l : List Ra} (hs : SlAt H 3 ra q l) (hn : l.length < 1000000000) :
    Ret Tryz.prog 49 [.slice q l.length c] H (lstV H.fresh l) (lstH H 3 ra l) := by
  refine fn_start Tryz.func49 rfl rfl rfl fun hc => ?_
  apply ct_seq
  apply ct_region
  apply seq_plain; exact do_assign rfl; exact rfl
  apply seq_nil
  apply ct_seq
  apply ct_region
  apply seq_plain; exact do_assign rfl; exact rfl
  apply seq_nil
  apply ct_seq
  apply ct_seq
  apply ct_region
  apply seq_plain; exact do_assign rfl; exact rfl
  apply seq_nil
  apply ct_block
  apply ct_loop
  refine lt_meas (α := Nat × Value × List (Option ABlk)) (fun a => [(0, .slice q l.length c), (3, a.2.1), (4, I a.1)]) (fun a => ext H H.fresh a.2.2) (fun a => a.1 ≤ l.length ∧ Lst H a.2.2 3 ra 0 a.2.1 (l.take a.1)) (fun a => l.length - a.1) (fun a ha ih => ?_) (0, .slice none 0 0, []) ⟨by simp, .nil⟩ (by repeat (first | exact sub_nil | apply sub_cons rfl)) (.refl _)
  obtain ⟨i, v, L⟩ := a
  obtain ⟨hi, hv⟩ := ha
  simp only at hi hv ih ⊢
  have ih' := fun i' v' L' a1 a2 a3 => ih (i', v', L') a1 ⟨a2, a3⟩
  simp only at ih'
  clear ih
  apply ct_seq
  apply ct_seq
  apply ct_region
  apply seq_plain; exact do_move rfl; exact rfl
  apply seq_plain; exact do_move rfl; exact rfl
  apply seq_plain; exact do_lenS rfl rfl rfl; exact rfl
  apply seq_plain; exact do_binInt rfl rfl rfl trivial; exact rfl
  apply seq_nil
  refine ct_cond rfl (fun h1 => ?_) (fun h1 => ?_)
  · simp only [decide_eq_true_eq, Int.ofNat_lt] at h1
    obtain ⟨b, o, cs, z, s, ro, rfl, hg, hw⟩ := hs.out (by intro e; rw [e] at h1; simp at h1)
    apply ct_skip
    apply ct_seq
    apply ct_block
    apply ct_region
    apply seq_plain; exact do_move rfl; exact rfl
    apply seq_plain; exact do_move rfl; exact rfl
    apply seq_plain; exact do_move rfl; exact rfl
    apply seq_plain; exact do_indexAddrS rfl rfl rfl (by exact idx_nat (by omega)); exact rfl
    apply seq_plain; exact do_load rfl (by exact ext_get_old (by assumption) (by assumption)) rfl (by exact pt_sl (by assumption) (by omega)); exact rfl
    apply seq_newS; exact do_buildSlice rfl rfl rfl rfl rfl rfl rfl; exact rfl
    refine seq_grow (xs := [l[i]]) hc (hv.app _) (by omega) (fun _ => rfl) (fun _ => rfl) rfl rfl rfl rfl rfl rfl (ext_get_new List.getElem?_concat_length) rfl (by simp) ?_ (Nat.ne_of_beq_eq_false rfl) (Nat.ne_of_beq_eq_false rfl) rfl (fun v' L3 hv' hst3 hlen3 => ?_)
    · exact Nat.le_trans (Nat.mul_le_mul_right _ (by simp only [List.length_cons, List.length_nil, List.length_take]; omega : _ ≤ 3000000000)) (Nat.le_of_ble_eq_true rfl)
    apply seq_plain; exact do_assign rfl; exact rfl
    apply seq_nil
    apply ct_region
    apply seq_plain; exact do_move rfl; exact rfl
    apply seq_plain; exact do_succ rfl (by omega); exact rfl
    apply seq_plain; exact do_assign rfl; exact rfl
    apply seq_nil
    refine lt_sub (by repeat (first | exact sub_nil | apply sub_cons rfl)) (ih' (i + 1) v' L3 (by omega) (by omega) ?_)
    rw [take_snoc h1]; exact hv'
  · have h1 : i = l.length := by simp at h1; omega
    subst h1
    rw [List.take_length] at hv
    apply ct_exit
    apply exit_eq; exact rfl
    apply ct_seq
    apply ct_region
    apply seq_plain; exact do_move rfl; exact rfl
    apply seq_plain; exact do_assign rfl; exact rfl
    apply seq_nil
    apply ct_ret
    exact fin_lst hc hv rfl (fun _ => rfl) ⟨rfl, rfl⟩
theorem lastTo_snoc {l : List Ra} {i : Nat} (h : i < l.length) : lastTo (l.take (i + 1)) = l[i].to := by
  unfold lastTo
  rw [take_snoc h, List.getLast?_concat]
theorem rate_11 {pre : List Ra} {x : Ra} (h : (decide (x.frm ≠ lastTo pre) || decide (x.to ≤ x.frm)) = true) : rateE pre x = 11 := by
  unfold rateE
  rw [h]; simp [firstL, whenL]
theorem rate_3 {pre : List Ra} {x : Ra} (h : (decide (x.frm ≠ lastTo pre) || decide (x.to ≤ x.frm)) = false) (h2 : (decide (x.to > 96) || outL x.price 0 100000) = true) : rateE pre x = 3 := by
  unfold rateE
  rw [h]
  cases hc : decide (x.to > 96)
  · rw [hc, Bool.false_or] at h2
    rw [h2]; simp [firstL, whenL]
  · simp [firstL, whenL]
theorem rate_0 {pre : List Ra} {x : Ra} (h : (decide (x.frm ≠ lastTo pre) || decide (x.to ≤ x.frm)) = false) (h2 : (decide (x.to > 96) || outL x.price 0 100000) = false) : rateE pre x = 0 := by
  unfold rateE
  rw [Bool.or_eq_false_iff] at h2
  rw [h, h2.1, h2.2]; simp [firstL, whenL]
theorem refRates_c {H : AHeap} {q : Option Addr} {c : Nat} {l : List Ra} (hs : SlAt H 3 ra q l) (hn : l.length < 1000000000) :
    Ret Tryz.prog 50 [.slice q l.length c] H (I (ratesE l)) H := by
  refine fn_start Tryz.func50 rfl rfl rfl fun hc => ?_
  apply ct_seq
  apply ct_region
  apply seq_plain; exact do_assign rfl; exact rfl
  apply seq_nil
  apply ct_seq
  apply ct_seq
  apply ct_region
  apply seq_plain; exact do_move rfl; exact rfl
  apply seq_plain; exact do_lenS rfl rfl rfl; exact rfl
  apply seq_plain; exact do_binInt rfl rfl rfl trivial; exact rfl
  apply seq_nil
  refine ct_cond rfl (fun h1 => ?_) (fun h1 => ?_)
  · have h1 : l.length = 0 := by
      have h1 : ((l.length : Int) == 0) = true := h1
      simpa using h1
    apply ct_seq
    apply ct_region
    apply seq_plain; exact do_assign rfl; exact rfl
    apply seq_nil
    apply ct_ret
    refine fin_flat hc rfl rfl ⟨?_, rfl⟩
    unfold ratesE
    rw [if_pos h1]; rfl
  have h0 : ¬ l.length = 0 := by
    have h1 : ((l.length : Int) == 0) = false := h1
    intro e; rw [e] at h1; simp at h1
  apply ct_skip
  apply ct_seq
  apply ct_seq
  apply ct_region
  apply seq_plain; exact do_move rfl; exact rfl
  apply seq_plain; exact do_lenS rfl rfl rfl; exact rfl
  apply seq_plain; exact do_binInt rfl rfl rfl trivial; exact rfl
  apply seq_nil
  refine ct_cond rfl (fun h2 => ?_) (fun h2 => ?_)
  · have h2 : l.length > 96 := by simp at h2; omega
    apply ct_seq
    apply ct_region
    apply seq_plain; exact do_assign rfl; exact rfl
    apply seq_nil
    apply ct_ret
    refine fin_flat hc rfl rfl ⟨?_, rfl⟩
    unfold ratesE
    rw [if_neg h0, if_pos h2]; rfl
  have h2 : ¬ l.length > 96 := by simp at h2; omega
  apply ct_skip
  apply ct_seq
  apply ct_region
  apply seq_plain; exact do_assign rfl; exact rfl
  apply seq_nil
  apply ct_seq
  apply ct_seq
  apply ct_region
  apply seq_plain; exact do_assign rfl; exact rfl
  apply seq_nil
  apply ct_block
  apply ct_loop
  refine lt_up (fun i => [(0, .slice q l.length c), (3, I (lastTo (l.take i))), (4, I i)]) (fun i => ∀ j, j < i → errG rateE l j = 0) l.length (fun i hi hJ ih => ?_) 0 (by omega) (by intros; omega) (by repeat (first | exact sub_nil | apply sub_cons rfl))
  apply ct_seq
  apply ct_seq
  apply ct_region
  apply seq_plain; exact do_move rfl; exact rfl
  apply seq_plain; exact do_move rfl; exact rfl
  apply seq_plain; exact do_lenS rfl rfl rfl; exact rfl
  apply seq_plain; exact do_binInt rfl rfl rfl trivial; exact rfl
  apply seq_nil
  refine ct_cond rfl (fun h3 => ?_) (fun h3 => ?_)
  · simp only [decide_eq_true_eq, Int.ofNat_lt] at h3
    obtain ⟨b, o, cs, z, s, ro, rfl, hg, hw⟩ := hs.out (by intro e; rw [e] at h3; simp at h3)
    have bad : errG rateE l i ≠ 0 → ratesE l = errG rateE l i := fun hne => by
      unfold ratesE
      rw [if_neg h0, if_neg h2, restG_at h3 hJ hne]
      simp [firstL, hne]
    have ee := errG_at (err := rateE) h3
    obtain ⟨Z, hZ⟩ : ∃ Z : Bool, Z = (decide (l[i].frm ≠ lastTo (l.take i)) || decide (l[i].to ≤ l[i].frm)) := ⟨_, rfl⟩
    obtain ⟨Y, hY⟩ : ∃ Y : Bool, Y = (decide (l[i].to > 96) || outL l[i].price 0 100000) := ⟨_, rfl⟩
    apply ct_skip
    apply ct_seq
    apply ct_block
    apply ct_seq
    apply ct_seq
    apply ct_draw (by assumption); decide +kernel
    apply sd_plain (hfree := rfl); intro _; exact do_move rfl; exact rfl
    apply sd_plain (hfree := rfl); intro _; exact do_move rfl; exact rfl
    apply sd_plain (hfree := rfl); intro _; exact do_indexAddrS rfl rfl rfl (by exact idx_nat (by omega)); exact rfl
    apply sd_plain (hfree := rfl); intro _; exact do_fieldAddr rfl rfl; exact rfl
    apply sd_look (hfree := rfl); exact do_load rfl (by exact ext_get_old (by assumption) (by assumption)) rfl (by exact pt_sl1 (by assumption) (by omega) (Nat.le_of_ble_eq_true rfl) rfl); exact rfl
    apply sd_plain (hfree := rfl); intro _; exact do_move rfl; exact rfl
    apply sd_plain (hfree := rfl); intro _; exact do_binInt rfl rfl rfl trivial; exact rfl
    apply sd_plain (hfree := rfl); intro _; exact do_move rfl; exact rfl
    refine sd_J [(0, .slice (some ⟨b, o, none⟩) l.length c), (3, I (lastTo (l.take i))), (4, I i), (36, .bool Z)] (h := ext H H.fresh []) ?_ ?_
    · refine sd_gsplit rfl rfl (fun u => ?_) (fun u => ?_)
      · have u : (l[i].frm != lastTo (l.take i)) = true := u
        have e : Z = true := by
          have : l[i].frm ≠ lastTo (l.take i) := by simpa using u
          rw [hZ]; simp [this]
        rw [e]
        apply sd_passed (hg := rfl) (hl := rfl) (hb := rfl); exact rfl
        apply sd_passed (hg := rfl) (hl := rfl) (hb := rfl); exact rfl
        apply sd_passed (hg := rfl) (hl := rfl) (hb := rfl); exact rfl
        apply sd_passed (hg := rfl) (hl := rfl) (hb := rfl); exact rfl
        apply sd_passed (hg := rfl) (hl := rfl) (hb := rfl); exact rfl
        apply sd_passed (hg := rfl) (hl := rfl) (hb := rfl); exact rfl
        apply sd_passed (hg := rfl) (hl := rfl) (hb := rfl); exact rfl
        apply sd_passed (hg := rfl) (hl := rfl) (hb := rfl); exact rfl
        apply sd_passed (hg := rfl) (hl := rfl) (hb := rfl); exact rfl
        apply sd_passed (hg := rfl) (hl := rfl) (hb := rfl); exact rfl
        apply sd_passed (hg := rfl) (hl := rfl) (hb := rfl); exact rfl
        apply sd_plain (hfree := rfl); intro _; exact do_pick_t rfl rfl; exact rfl
        apply sd_nil
        exact jp_of (by repeat (first | exact sub_nil | apply sub_cons rfl))
      · have u : (l[i].frm != lastTo (l.take i)) = false := u
        have e : Z = decide (l[i].to ≤ l[i].frm) := by
          have : l[i].frm = lastTo (l.take i) := by simpa using u
          rw [hZ]; simp [this]
        rw [e]
        apply sd_guard (hfree := rfl) (hg := rfl) (hl := rfl); intro _; exact do_move rfl; exact rfl
        apply sd_guard (hfree := rfl) (hg := rfl) (hl := rfl); intro _; exact do_move rfl; exact rfl
        apply sd_guard (hfree := rfl) (hg := rfl) (hl := rfl); intro _; exact do_indexAddrS rfl rfl rfl (by exact idx_nat (by omega)); exact rfl
        apply sd_guard (hfree := rfl) (hg := rfl) (hl := rfl); intro _; exact do_fieldAddr rfl rfl; exact rfl
        apply sd_guardL (hfree := rfl) (hg := rfl) (hl := rfl); exact do_load rfl (by exact ext_get_old (by assumption) (by assumption)) rfl (by exact pt_sl1 (by assumption) (by omega) (Nat.le_of_ble_eq_true rfl) rfl); exact rfl
        apply sd_guard (hfree := rfl) (hg := rfl) (hl := rfl); intro _; exact do_move rfl; exact rfl
        apply sd_guard (hfree := rfl) (hg := rfl) (hl := rfl); intro _; exact do_move rfl; exact rfl
        apply sd_guard (hfree := rfl) (hg := rfl) (hl := rfl); intro _; exact do_indexAddrS rfl rfl rfl (by exact idx_nat (by omega)); exact rfl
        apply sd_guard (hfree := rfl) (hg := rfl) (hl := rfl); intro _; exact do_fieldAddr rfl rfl; exact rfl
        apply sd_guardL (hfree := rfl) (hg := rfl) (hl := rfl); exact do_load rfl (by exact ext_get_old (by assumption) (by assumption)) rfl (by exact pt_sl1 (by assumption) (by omega) (Nat.le_of_ble_eq_true rfl) rfl); exact rfl
        apply sd_guard (hfree := rfl) (hg := rfl) (hl := rfl); intro _; exact do_binInt rfl rfl rfl trivial; exact rfl
        apply sd_plain (hfree := rfl); intro _; exact do_pick_f rfl rfl; exact rfl
        apply sd_nil
        exact jp_of (by repeat (first | exact sub_nil | apply sub_cons rfl))
    refine ct_cond rfl (fun h4 => ?_) (fun h4 => ?_)
    · have er : errG rateE l i = 11 := by rw [ee]; exact rate_11 (by rw [← hZ]; exact h4)
      apply ct_seq
      apply ct_region
      apply seq_plain; exact do_assign rfl; exact rfl
      apply seq_nil
      apply ct_ret
      refine fin_flat hc rfl rfl ⟨?_, rfl⟩
      rw [bad (by rw [er]; decide), er]; rfl
    apply ct_skip
    apply ct_seq
    apply ct_seq
    apply ct_region
    apply seq_plain; exact do_move rfl; exact rfl
    apply seq_plain; exact do_move rfl; exact rfl
    apply seq_plain; exact do_indexAddrS rfl rfl rfl (by exact idx_nat (by omega)); exact rfl
    apply seq_plain; exact do_fieldAddr rfl rfl; exact rfl
    apply seq_plain; exact do_load rfl (by exact ext_get_old (by assumption) (by assumption)) rfl (by exact pt_sl1 (by assumption) (by omega) (Nat.le_of_ble_eq_true rfl) rfl); exact rfl
    apply seq_plain; exact do_binInt rfl rfl rfl trivial; exact rfl
    apply seq_plain; exact do_move rfl; exact rfl
    refine seq_J [(0, .slice (some ⟨b, o, none⟩) l.length c), (4, I i), (50, .bool Y)] (ds := []) (h := ext H H.fresh []) ?_ ?_
    · refine seq_gsplit rfl rfl (fun u => ?_) (fun u => ?_)
      · have u : decide (l[i].to > 96) = true := u
        have e : Y = true := by rw [hY, u]; rfl
        rw [e]
        apply seq_passed (hd := rfl) (hl := rfl) (hb := rfl); exact rfl
        apply seq_passed (hd := rfl) (hl := rfl) (hb := rfl); exact rfl
        apply seq_passed (hd := rfl) (hl := rfl) (hb := rfl); exact rfl
        apply seq_passed (hd := rfl) (hl := rfl) (hb := rfl); exact rfl
        apply seq_passed (hd := rfl) (hl := rfl) (hb := rfl); exact rfl
        apply seq_passed (hd := rfl) (hl := rfl) (hb := rfl); exact rfl
        apply seq_plain; exact do_pick_t rfl rfl; exact rfl
        apply seq_nil
        exact jp_of (by repeat (first | exact sub_nil | apply sub_cons rfl))
      · have u : decide (l[i].to > 96) = false := u
        have e : Y = outL l[i].price 0 100000 := by rw [hY, u]; rfl
        rw [e]
        apply seq_guard (hd := rfl) (hl := rfl); exact do_move rfl; exact rfl
        apply seq_guard (hd := rfl) (hl := rfl); exact do_move rfl; exact rfl
        apply seq_guard (hd := rfl) (hl := rfl); exact do_indexAddrS rfl rfl rfl (by exact idx_nat (by omega)); exact rfl
        apply seq_guard (hd := rfl) (hl := rfl); exact do_fieldAddr rfl rfl; exact rfl
        apply seq_guard (hd := rfl) (hl := rfl); exact do_load rfl (by exact ext_get_old (by assumption) (by assumption)) rfl (by exact pt_sl1 (by assumption) (by omega) (Nat.le_of_ble_eq_true rfl) rfl); exact rfl
        apply seq_gcall (hg := rfl) (hl := rfl) (ht := rfl); exact outside24; exact rfl
        apply seq_plain; exact do_pick_f rfl rfl; exact rfl
        apply seq_nil
        exact jp_of (by repeat (first | exact sub_nil | apply sub_cons rfl))
    refine ct_cond rfl (fun h5 => ?_) (fun h5 => ?_)
    · have er : errG rateE l i = 3 := by rw [ee]; exact rate_3 (by rw [← hZ]; exact h4) (by rw [← hY]; exact h5)
      apply ct_seq
      apply ct_region
      apply seq_plain; exact do_assign rfl; exact rfl
      apply seq_nil
      apply ct_ret
      refine fin_flat hc rfl rfl ⟨?_, rfl⟩
      rw [bad (by rw [er]; decide), er]; rfl
    have er : errG rateE l i = 0 := by rw [ee]; exact rate_0 (by rw [← hZ]; exact h4) (by rw [← hY]; exact h5)
    have el := lastTo_snoc h3
    apply ct_skip
    apply ct_region
    apply seq_plain; exact do_move rfl; exact rfl
    apply seq_plain; exact do_move rfl; exact rfl
    apply seq_plain; exact do_indexAddrS rfl rfl rfl (by exact idx_nat (by omega)); exact rfl
    apply seq_plain; exact do_fieldAddr rfl rfl; exact rfl
    apply seq_plain; exact do_load rfl (by exact ext_get_old (by assumption) (by assumption)) rfl (by exact pt_sl1 (by assumption) (by omega) (Nat.le_of_ble_eq_true rfl) rfl); exact rfl
    apply seq_plain; exact do_assign rfl; exact rfl
    apply seq_nil
    apply ct_region
    apply seq_plain; exact do_move rfl; exact rfl
    apply seq_plain; exact do_succ rfl (by omega); exact rfl
    apply seq_plain; exact do_assign rfl; exact rfl
    apply seq_nil
    refine lt_sub ?_ (ih (i + 1) (by omega) (by omega) fun j hj => ?_)
    · rw [el]
      (repeat (first | exact sub_nil | apply sub_cons rfl))
    · rcases Nat.lt_or_ge j i with h | h
      · exact hJ j h
      · obtain rfl : j = i := by omega
        exact er
  have h3 : i = l.length := by simp at h3; omega
  subst h3
  rw [List.take_length]
  have hz : restG rateE l = 0 := restG_none hJ
  have hr : ratesE l = whenL (lastTo l != 96) 2 := by
    unfold ratesE
    rw [if_neg h0, if_neg h2, hz]
    cases (lastTo l != 96) <;> simp [firstL, whenL]
  apply ct_exit
  apply exit_eq; exact rfl
  apply ct_seq
  apply ct_seq
  apply ct_region
  apply seq_plain; exact do_move rfl; exact rfl
  apply seq_plain; exact do_binInt rfl rfl rfl trivial; exact rfl
  apply seq_nil
  refine ct_cond rfl (fun h4 => ?_) (fun h4 => ?_)
  · have h4 : (lastTo l != 96) = true := h4
    apply ct_seq
    apply ct_region
    apply seq_plain; exact do_assign rfl; exact rfl
    apply seq_nil
    apply ct_ret
    refine fin_flat hc rfl rfl ⟨?_, rfl⟩
    rw [hr, h4]; rfl
  · have h4 : (lastTo l != 96) = false := h4
    apply ct_skip
    apply ct_seq
    apply ct_region
    apply seq_plain; exact do_assign rfl; exact rfl
    apply seq_nil
    apply ct_ret
    refine fin_flat hc rfl rfl ⟨?_, rfl⟩
    rw [hr, h4]; rfl
end Go.Proofs.YtfegloadbajbhaaGreatDoor
