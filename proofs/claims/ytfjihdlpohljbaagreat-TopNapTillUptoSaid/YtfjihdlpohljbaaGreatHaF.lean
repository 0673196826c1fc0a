/- Contracts: a price that is split; rates, as the reference checks them. -/
import Derived.Test.YtfjihdlpohljbaaGreatHaE
noncomputable section
namespace Go.Proofs.YtfjihdlpohljbaaGreat
open Go Go.Den
set_option maxRecDepth 100000

/-- without an error, and not too large -/
theorem split_c {H : AHeap} {q : Option Addr} {c : Nat} {l : List Ra} {a b n : Nat} (hs : SlAt H 3 ra q l) (hlow : LowS q c l.length) (hn : l.length < 1000000000000) (hok : spanE l a b = 0) (h1 : 1 ≤ n) (h16 : n ≤ 16) (hp : priceP l a b ≤ 999999999) :
    Ret Tryz.prog 13 [.slice q l.length c, I a, I b, I n] H (.tuple ⟨[.slice (some ⟨H.fresh, 0, none⟩) n n, I 0]⟩) (H.add (.cells ((sharesP (priceP l a b).toNat n).map I) 1 false false)) := by
  obtain ⟨hr, h2, h3, h4⟩ := span_ok hok
  have pb := (priceP_bd hr (a := a) (b := b) (by omega)).1
  have e0 : whenL (outL (n : Int) 1 16) 3 = 0 := by
    have : outL (n : Int) 1 16 = false := by simp [outL]; omega
    rw [this]; rfl
  have e1 : ¬ priceP l a b > 999999999 := by omega
  obtain ⟨t, ht⟩ := Int.eq_ofNat_of_zero_le pb
  refine fn_start Tryz.func13 rfl rfl rfl fun hc => ?_
  have cR : ∀ L, L[1]? = some (some (.cells [I 1] 1 false false)) → L.length = 2 → Ret Tryz.prog 38 [.slice (some ⟨nb H 1, 0, none⟩) 1 1, I n] (ext H H.fresh L) (.slice (some ⟨nb H 2, 0, none⟩) n n) (ext H H.fresh (L ++ [some (onesB n)])) := fun L h2 h3 => by
    have := repeat_c (H := ext H H.fresh L) h1 h16 (nb_own 1) (ext_get_new h2)
    rwa [ext_add, ext_fresh, h3] at this
  have cS : ∀ L, L[2]? = some (some (onesB n)) → L.length = 3 → Ret Tryz.prog 14 [I (priceP l a b), .slice (some ⟨nb H 2, 0, none⟩) n n] (ext H H.fresh L) (.tuple ⟨[.slice (some ⟨nb H 3, 0, none⟩) n n, I 0]⟩) (ext H H.fresh (L ++ [some (.cells ((sharesP (priceP l a b).toNat n).map I) 1 false false)])) := fun L h2 h3 => by
    have := shares_c (H := ext H H.fresh L) (total := t) h1 h16 (nb_own 2) (ext_get_new h2) (by omega)
    rw [ext_add, ext_fresh, h3] at this
    rw [ht]
    exact this
  apply ct_seq
  apply ct_region
  apply seq_plain; exact do_assign rfl; exact rfl
  apply seq_plain; exact do_assign rfl; exact rfl
  apply seq_nil
  apply ct_seq
  apply ct_seq
  apply ct_region
  apply seq_plain; exact do_move rfl; exact rfl
  apply seq_plain; exact do_move rfl; exact rfl
  apply seq_plain; exact do_move rfl; exact rfl
  apply seq_call (ht := rfl); exact checkSpan_c (hs.ext (ext_Ext hc)) hlow hn; exact rfl
  rw [hok]
  apply seq_plain; exact do_move rfl; exact rfl
  apply seq_call (ht := rfl); exact within89; exact rfl
  apply seq_newS; exact do_buildSlice rfl rfl rfl rfl rfl rfl rfl; exact rfl
  apply seq_call (ht := rfl); exact first84 (l := [_, _]) (slAt_map (ext_get_new rfl)) (by simp); exact rfl
  apply seq_plain; exact do_assign rfl; exact rfl
  apply seq_nil
  apply ct_seq
  apply ct_region
  apply seq_plain; exact do_move rfl; exact rfl
  apply seq_plain; exact do_binInt rfl rfl rfl trivial; exact rfl
  apply seq_nil
  rw [e0]
  skip
  refine ct_cond_f rfl rfl ?_
  apply ct_skip
  apply ct_seq
  apply ct_region
  apply seq_plain; exact do_move rfl; exact rfl
  apply seq_plain; exact do_move rfl; exact rfl
  apply seq_plain; exact do_move rfl; exact rfl
  have cP := fun L => price_c (c := c) (hs.ext (ext_Ext hc (lo := H.fresh) (L := L))) hr (show a ≤ 100100 by omega) (show b ≤ 100100 by omega)
  simp only [if_neg e1] at cP
  apply seq_call (ht := rfl); exact cP _; exact rfl
  apply seq_plain; exact do_move rfl; exact rfl
  apply seq_plain; exact do_extract rfl rfl; exact rfl
  apply seq_plain; exact do_extract rfl rfl; exact rfl
  apply seq_plain; exact do_assign rfl; exact rfl
  apply seq_plain; exact do_assign rfl; exact rfl
  apply seq_nil
  apply ct_seq
  apply ct_seq
  apply ct_region
  apply seq_plain; exact do_move rfl; exact rfl
  apply seq_plain; exact do_binInt rfl rfl rfl trivial; exact rfl
  apply seq_nil
  refine ct_cond_f rfl rfl ?_
  apply ct_skip
  apply ct_seq
  apply ct_region
  apply seq_plain; exact do_move rfl; exact rfl
  apply seq_newS; exact do_buildSlice rfl rfl rfl rfl rfl rfl rfl; exact rfl
  apply seq_plain; exact do_move rfl; exact rfl
  apply seq_call (ht := rfl); exact cR _ rfl rfl; exact rfl
  skip
  apply seq_call (ht := rfl); exact cS _ rfl rfl; exact rfl
  apply seq_plain; exact do_extract rfl rfl; exact rfl
  apply seq_plain; exact do_extract rfl rfl; exact rfl
  apply seq_plain; exact do_assign rfl; exact rfl
  apply seq_plain; exact do_assign rfl; exact rfl
  apply seq_nil
  apply ct_ret
  exact fin_one (k := 3) hc rfl rfl (flat_ints _) (by simp [packA, renV, renL, renOf_one ⟨own_iff.1 (nb_own 3), nb_ge 3⟩]) ⟨rfl, rfl⟩
theorem lastTo_snoc {l : List Ra} {i : Nat} (h : i < l.length) : lastTo (l.take (i + 1)) = l[i].to := by
  unfold lastTo
  rw [take_snoc h, List.getLast?_concat]
theorem rate_11 {pre : List Ra} {x : Ra} (h : (decide (x.frm ≠ lastTo pre) || decide (x.to ≤ x.frm)) = true) : rateE pre x = 11 := by
  unfold rateE
  rw [h]; simp [firstL, whenL]
theorem rate_3 {pre : List Ra} {x : Ra} (h : (decide (x.frm ≠ lastTo pre) || decide (x.to ≤ x.frm)) = false) (h2 : (decide (x.to > 96) || outL x.price 0 100000) = true) : rateE pre x = 3 := by
  unfold rateE
  rw [h]
  cases hc : decide (x.to > 96)
  · rw [hc, Bool.false_or] at h2
    rw [h2]; simp [firstL, whenL]
  · simp [firstL, whenL]
theorem rate_0 {pre : List Ra} {x : Ra} (h : (decide (x.frm ≠ lastTo pre) || decide (x.to ≤ x.frm)) = false) (h2 : (decide (x.to > 96) || outL x.price 0 100000) = false) : rateE pre x = 0 := by
  unfold rateE
  rw [Bool.or_eq_false_iff] at h2
  rw [h, h2.1, h2.2]; simp [firstL, whenL]
theorem refRates_c {H : AHeap} {q : Option Addr} {c : Nat} {l : List Ra} (hs : SlAt H 3 ra q l) (hn : l.length < 1000000000) :
    Ret Tryz.prog 28 [.slice q l.length c] H (I (ratesE l)) H := by
  refine fn_start Tryz.func28 rfl rfl rfl fun hc => ?_
  apply ct_seq
  apply ct_region
  apply seq_plain; exact do_assign rfl; exact rfl
  apply seq_nil
  apply ct_seq
  apply ct_seq
  apply ct_region
  apply seq_plain; exact do_move rfl; exact rfl
  apply seq_plain; exact do_lenS rfl rfl rfl; exact rfl
  apply seq_plain; exact do_binInt rfl rfl rfl trivial; exact rfl
  apply seq_nil
  refine ct_cond rfl (fun h1 => ?_) (fun h1 => ?_)
  · have h1 : l.length = 0 := by
      have h1 : ((l.length : Int) == 0) = true := h1
      simpa using h1
    apply ct_seq
    apply ct_region
    apply seq_plain; exact do_assign rfl; exact rfl
    apply seq_nil
    apply ct_ret
    refine fin_flat hc rfl rfl ⟨?_, rfl⟩
    unfold ratesE
    rw [if_pos h1]; rfl
  have h0 : ¬ l.length = 0 := by
    have h1 : ((l.length : Int) == 0) = false := h1
    intro e; rw [e] at h1; simp at h1
  apply ct_skip
  apply ct_seq
  apply ct_seq
  apply ct_region
  apply seq_plain; exact do_move rfl; exact rfl
  apply seq_plain; exact do_lenS rfl rfl rfl; exact rfl
  apply seq_plain; exact do_binInt rfl rfl rfl trivial; exact rfl
  apply seq_nil
  refine ct_cond rfl (fun h2 => ?_) (fun h2 => ?_)
  · have h2 : l.length > 96 := by simp at h2; omega
    apply ct_seq
    apply ct_region
    apply seq_plain; exact do_assign rfl; exact rfl
    apply seq_nil
    apply ct_ret
    refine fin_flat hc rfl rfl ⟨?_, rfl⟩
    unfold ratesE
    rw [if_neg h0, if_pos h2]; rfl
  have h2 : ¬ l.length > 96 := by simp at h2; omega
  apply ct_skip
  apply ct_seq
  apply ct_region
  apply seq_plain; exact do_assign rfl; exact rfl
  apply seq_nil
  apply ct_seq
  apply ct_seq
  apply ct_region
  apply seq_plain; exact do_assign rfl; exact rfl
  apply seq_nil
  apply ct_block
  apply ct_loop
  refine lt_up (fun i => [(0, .slice q l.length c), (3, I (lastTo (l.take i))), (4, I i)]) (fun i => ∀ j, j < i → errG rateE l j = 0) l.length (fun i hi hJ ih => ?_) 0 (by omega) (by intros; omega) (by repeat (first | exact sub_nil | apply sub_cons rfl))
  apply ct_seq
  apply ct_seq
  apply ct_region
  apply seq_plain; exact do_move rfl; exact rfl
  apply seq_plain; exact do_move rfl; exact rfl
  apply seq_plain; exact do_lenS rfl rfl rfl; exact rfl
  apply seq_plain; exact do_binInt rfl rfl rfl trivial; exact rfl
  apply seq_nil
  refine ct_cond rfl (fun h3 => ?_) (fun h3 => ?_)
  · simp only [decide_eq_true_eq, Int.ofNat_lt] at h3
    obtain ⟨b, o, cs, z, s, ro, rfl, hg, hw⟩ := hs.out (by intro e; rw [e] at h3; simp at h3)
    have bad : errG rateE l i ≠ 0 → ratesE l = errG rateE l i := fun hne => by
      unfold ratesE
      rw [if_neg h0, if_neg h2, restG_at h3 hJ hne]
      simp [firstL, hne]
    have ee := errG_at (err := rateE) h3
    obtain ⟨Z, hZ⟩ : ∃ Z : Bool, Z = (decide (l[i].frm ≠ lastTo (l.take i)) || decide (l[i].to ≤ l[i].frm)) := ⟨_, rfl⟩
    obtain ⟨Y, hY⟩ : ∃ Y : Bool, Y = (decide (l[i].to > 96) || outL l[i].price 0 100000) := ⟨_, rfl⟩
    apply ct_skip
    apply ct_seq
    apply ct_block
    apply ct_seq
    apply ct_seq
    apply ct_draw (by assumption); decide +kernel
    apply sd_plain (hfree := rfl); intro _; exact do_move rfl; exact rfl
    apply sd_plain (hfree := rfl); intro _; exact do_move rfl; exact rfl
    apply sd_plain (hfree := rfl); intro _; exact do_indexAddrS rfl rfl rfl (by exact idx_nat (by omega)); exact rfl
    apply sd_plain (hfree := rfl); intro _; exact do_fieldAddr rfl rfl; exact rfl
    apply sd_look (hfree := rfl); exact do_load rfl (by exact ext_get_old (by assumption) (by assumption)) rfl (by exact pt_sl1 (by assumption) (by omega) (Nat.le_of_ble_eq_true rfl) rfl); exact rfl
    apply sd_plain (hfree := rfl); intro _; exact do_move rfl; exact rfl
    apply sd_plain (hfree := rfl); intro _; exact do_binInt rfl rfl rfl trivial; exact rfl
    apply sd_plain (hfree := rfl); intro _; exact do_move rfl; exact rfl
    refine sd_J [(0, .slice (some ⟨b, o, none⟩) l.length c), (3, I (lastTo (l.take i))), (4, I i), (36, .bool Z)] (h := ext H H.fresh []) ?_ ?_
    · refine sd_gsplit rfl rfl (fun u => ?_) (fun u => ?_)
      · have u : (l[i].frm != lastTo (l.take i)) = true := u
        have e : Z = true := by
          have : l[i].frm ≠ lastTo (l.take i) := by simpa using u
          rw [hZ]; simp [this]
        rw [e]
        apply sd_passed (hg := rfl) (hl := rfl) (hb := rfl); exact rfl
        apply sd_passed (hg := rfl) (hl := rfl) (hb := rfl); exact rfl
        apply sd_passed (hg := rfl) (hl := rfl) (hb := rfl); exact rfl
        apply sd_passed (hg := rfl) (hl := rfl) (hb := rfl); exact rfl
        apply sd_passed (hg := rfl) (hl := rfl) (hb := rfl); exact rfl
        apply sd_passed (hg := rfl) (hl := rfl) (hb := rfl); exact rfl
        apply sd_passed (hg := rfl) (hl := rfl) (hb := rfl); exact rfl
        apply sd_passed (hg := rfl) (hl := rfl) (hb := rfl); exact rfl
        apply sd_passed (hg := rfl) (hl := rfl) (hb := rfl); exact rfl
        apply sd_passed (hg := rfl) (hl := rfl) (hb := rfl); exact rfl
        apply sd_passed (hg := rfl) (hl := rfl) (hb := rfl); exact rfl
        apply sd_plain (hfree := rfl); intro _; exact do_pick_t rfl rfl; exact rfl
        apply sd_nil
        exact jp_of (by repeat (first | exact sub_nil | apply sub_cons rfl))
      · have u : (l[i].frm != lastTo (l.take i)) = false := u
        have e : Z = decide (l[i].to ≤ l[i].frm) := by
          have : l[i].frm = lastTo (l.take i) := by simpa using u
          rw [hZ]; simp [this]
        rw [e]
        apply sd_guard (hfree := rfl) (hg := rfl) (hl := rfl); intro _; exact do_move rfl; exact rfl
        apply sd_guard (hfree := rfl) (hg := rfl) (hl := rfl); intro _; exact do_move rfl; exact rfl
        apply sd_guard (hfree := rfl) (hg := rfl) (hl := rfl); intro _; exact do_indexAddrS rfl rfl rfl (by exact idx_nat (by omega)); exact rfl
        apply sd_guard (hfree := rfl) (hg := rfl) (hl := rfl); intro _; exact do_fieldAddr rfl rfl; exact rfl
        apply sd_guardL (hfree := rfl) (hg := rfl) (hl := rfl); exact do_load rfl (by exact ext_get_old (by assumption) (by assumption)) rfl (by exact pt_sl1 (by assumption) (by omega) (Nat.le_of_ble_eq_true rfl) rfl); exact rfl
        apply sd_guard (hfree := rfl) (hg := rfl) (hl := rfl); intro _; exact do_move rfl; exact rfl
        apply sd_guard (hfree := rfl) (hg := rfl) (hl := rfl); intro _; exact do_move rfl; exact rfl
        apply sd_guard (hfree := rfl) (hg := rfl) (hl := rfl); intro _; exact do_indexAddrS rfl rfl rfl (by exact idx_nat (by omega)); exact rfl
        apply sd_guard (hfree := rfl) (hg := rfl) (hl := rfl); intro _; exact do_fieldAddr rfl rfl; exact rfl
        apply sd_guardL (hfree := rfl) (hg := rfl) (hl := rfl); exact do_load rfl (by exact ext_get_old (by assumption) (by assumption)) rfl (by exact pt_sl1 (by assumption) (by omega) (Nat.le_of_ble_eq_true rfl) rfl); exact rfl
        apply sd_guard (hfree := rfl) (hg := rfl) (hl := rfl); intro _; exact do_binInt rfl rfl rfl trivial; exact rfl
        apply sd_plain (hfree := rfl); intro _; exact do_pick_f rfl rfl; exact rfl
        apply sd_nil
        exact jp_of (by repeat (first | exact sub_nil | apply sub_cons rfl))
    refine ct_cond rfl (fun h4 => ?_) (fun h4 => ?_)
    · have er : errG rateE l i = 11 := by rw [ee]; exact rate_11 (by rw [← hZ]; exact h4)
      apply ct_seq
      apply ct_region
      apply seq_plain; exact do_assign rfl; exact rfl
      apply seq_nil
      apply ct_ret
      refine fin_flat hc rfl rfl ⟨?_, rfl⟩
      rw [bad (by rw [er]; decide), er]; rfl
    apply ct_skip
    apply ct_seq
    apply ct_seq
    apply ct_region
    apply seq_plain; exact do_move rfl; exact rfl
    apply seq_plain; exact do_move rfl; exact rfl
    apply seq_plain; exact do_indexAddrS rfl rfl rfl (by exact idx_nat (by omega)); exact rfl
    apply seq_plain; exact do_fieldAddr rfl rfl; exact rfl
    apply seq_plain; exact do_load rfl (by exact ext_get_old (by assumption) (by assumption)) rfl (by exact pt_sl1 (by assumption) (by omega) (Nat.le_of_ble_eq_true rfl) rfl); exact rfl
    apply seq_plain; exact do_binInt rfl rfl rfl trivial; exact rfl
    apply seq_plain; exact do_move rfl; exact rfl
    refine seq_J [(0, .slice (some ⟨b, o, none⟩) l.length c), (4, I i), (50, .bool Y)] (ds := []) (h := ext H H.fresh []) ?_ ?_
    · refine seq_gsplit rfl rfl (fun u => ?_) (fun u => ?_)
      · have u : decide (l[i].to > 96) = true := u
        have e : Y = true := by rw [hY, u]; rfl
        rw [e]
        apply seq_passed (hd := rfl) (hl := rfl) (hb := rfl); exact rfl
        apply seq_passed (hd := rfl) (hl := rfl) (hb := rfl); exact rfl
        apply seq_passed (hd := rfl) (hl := rfl) (hb := rfl); exact rfl
        apply seq_passed (hd := rfl) (hl := rfl) (hb := rfl); exact rfl
        apply seq_passed (hd := rfl) (hl := rfl) (hb := rfl); exact rfl
        apply seq_passed (hd := rfl) (hl := rfl) (hb := rfl); exact rfl
        apply seq_plain; exact do_pick_t rfl rfl; exact rfl
        apply seq_nil
        exact jp_of (by repeat (first | exact sub_nil | apply sub_cons rfl))
      · have u : decide (l[i].to > 96) = false := u
        have e : Y = outL l[i].price 0 100000 := by rw [hY, u]; rfl
        rw [e]
        apply seq_guard (hd := rfl) (hl := rfl); exact do_move rfl; exact rfl
        apply seq_guard (hd := rfl) (hl := rfl); exact do_move rfl; exact rfl
        apply seq_guard (hd := rfl) (hl := rfl); exact do_indexAddrS rfl rfl rfl (by exact idx_nat (by omega)); exact rfl
        apply seq_guard (hd := rfl) (hl := rfl); exact do_fieldAddr rfl rfl; exact rfl
        apply seq_guard (hd := rfl) (hl := rfl); exact do_load rfl (by exact ext_get_old (by assumption) (by assumption)) rfl (by exact pt_sl1 (by assumption) (by omega) (Nat.le_of_ble_eq_true rfl) rfl); exact rfl
        apply seq_gcall (hg := rfl) (hl := rfl) (ht := rfl); exact outside24; exact rfl
        apply seq_plain; exact do_pick_f rfl rfl; exact rfl
        apply seq_nil
        exact jp_of (by repeat (first | exact sub_nil | apply sub_cons rfl))
    refine ct_cond rfl (fun h5 => ?_) (fun h5 => ?_)
    · have er : errG rateE l i = 3 := by rw [ee]; exact rate_3 (by rw [← hZ]; exact h4) (by rw [← hY]; exact h5)
      apply ct_seq
      apply ct_region
      apply seq_plain; exact do_assign rfl; exact rfl
      apply seq_nil
      apply ct_ret
      refine fin_flat hc rfl rfl ⟨?_, rfl⟩
      rw [bad (by rw [er]; decide), er]; rfl
    have er : errG rateE l i = 0 := by rw [ee]; exact rate_0 (by rw [← hZ]; exact h4) (by rw [← hY]; exact h5)
    have el := lastTo_snoc h3
    apply ct_skip
    apply ct_region
    apply seq_plain; exact do_move rfl; exact rfl
    apply seq_plain; exact do_move rfl; exact rfl
    apply seq_plain; exact do_indexAddrS rfl rfl rfl (by exact idx_nat (by omega)); exact rfl
    apply seq_plain; exact do_fieldAddr rfl rfl; exact rfl
    apply seq_plain; exact do_load rfl (by exact ext_get_old (by assumption) (by assumption)) rfl (by exact pt_sl1 (by assumption) (by omega) (Nat.le_of_ble_eq_true rfl) rfl); exact rfl
    apply seq_plain; exact do_assign rfl; exact rfl
    apply seq_nil
    apply ct_region
    apply seq_plain; exact do_move rfl; exact rfl
    apply seq_plain; exact do_succ rfl (by omega); exact rfl
    apply seq_plain; exact do_assign rfl; exact rfl
    apply seq_nil
    refine lt_sub ?_ (ih (i + 1) (by omega) (by omega) fun j hj => ?_)
    · rw [el]
      (repeat (first | exact sub_nil | apply sub_cons rfl))
    · rcases Nat.lt_or_ge j i with h | h
      · exact hJ j h
      · obtain rfl : j = i := by omega
        exact er
  have h3 : i = l.length := by simp at h3; omega
  subst h3
  rw [List.take_length]
  have hz : restG rateE l = 0 := restG_none hJ
  have hr : ratesE l = whenL (lastTo l != 96) 2 := by
    unfold ratesE
    rw [if_neg h0, if_neg h2, hz]
    cases (lastTo l != 96) <;> simp [firstL, whenL]
  apply ct_exit
  apply exit_eq; exact rfl
  apply ct_seq
  apply ct_seq
  apply ct_region
  apply seq_plain; exact do_move rfl; exact rfl
  apply seq_plain; exact do_binInt rfl rfl rfl trivial; exact rfl
  apply seq_nil
  refine ct_cond rfl (fun h4 => ?_) (fun h4 => ?_)
  · have h4 : (lastTo l != 96) = true := h4
    apply ct_seq
    apply ct_region
    apply seq_plain; exact do_assign rfl; exact rfl
    apply seq_nil
    apply ct_ret
    refine fin_flat hc rfl rfl ⟨?_, rfl⟩
    rw [hr, h4]; rfl
  · have h4 : (lastTo l != 96) = false := h4
    apply ct_skip
    apply ct_seq
    apply ct_region
    apply seq_plain; exact do_assign rfl; exact rfl
    apply seq_nil
    apply ct_ret
    refine fin_flat hc rfl rfl ⟨?_, rfl⟩
    rw [hr, h4]; rfl
end Go.Proofs.YtfjihdlpohljbaaGreat
