/- Contracts: tables and bookings, as the reference examines them. -/
import Derived.Test.YtmcecjplgalcgaaGreatDoorHkA
noncomputable section
namespace Go.Proofs.YtmcecjplgalcgaaGreatDoor
open Go Go.Den
set_option maxRecDepth 100000
theorem nameE_two (a b : ByteArray) : nameE [a, b] = whenL (!nameB a || !nameB b) 8 := by simp [nameE]
theorem bookE_8 {x : Bk} (h : (!nameB x.name || !nameB x.kind) = true) : bookE x = 8 := by unfold bookE; rw [nameE_two, h]; simp [firstL, whenL]
theorem bookE_3 {x : Bk} (h : (!nameB x.name || !nameB x.kind) = false) (h2 : (outL x.frm 0 99999 || outL x.to 0 99999) = true) : bookE x = 3 := by
 unfold bookE
 rw [nameE_two, h]
 cases e : outL x.frm 0 99999
 ·rw [e] at h2
  have h3 : outL x.to 0 99999 = true := by simpa using h2
  rw [h3]; simp [firstL, whenL]
 ·simp [firstL, whenL]
theorem bookE_11 {x : Bk} (h : (!nameB x.name || !nameB x.kind) = false) (h2 : (outL x.frm 0 99999 || outL x.to 0 99999) = false) : bookE x = whenL (decide (x.to ≤ x.frm)) 11 := by
 rw [Bool.or_eq_false_iff] at h2
 unfold bookE
 rw [nameE_two, h, h2.1, h2.2]
 cases decide (x.to ≤ x.frm) <;> simp [firstL, whenL]
set_option maxHeartbeats 4000000 in
theorem refBookings_c {H : AHeap} {q : Option Addr} {c : Nat} {l : List Bk} (hs : SlAt H 4 bk q l) (hn : l.length < 1000000000) :
  Ret Tryz.prog 35 [.slice q l.length c] H (I (booksE l)) H := by
 refine fn_start Tryz.func35 rfl rfl rfl fun hc => ?_
 apply ct_seq
 apply ct_region
 apply seq_plain; exact do_assign rfl; exact rfl
 apply seq_nil
 iterate 2 (apply ct_seq)
 apply ct_region
 apply seq_plain; exact do_move rfl; exact rfl
 apply seq_plain; exact do_lenS rfl rfl rfl; exact rfl
 apply seq_plain; exact do_binInt rfl rfl rfl trivial; exact rfl
 apply seq_nil
 refine ct_cond rfl (fun h0 => ?_) (fun h0 => ?_)
 ·have h0 : l.length > 256 := by simp at h0; omega
  apply ct_seq
  apply ct_region
  apply seq_plain; exact do_assign rfl; exact rfl
  apply seq_nil
  apply ct_ret
  refine fin_flat hc rfl rfl ⟨?_, rfl⟩
  unfold booksE
  rw [if_pos h0]; rfl
 have h0 : ¬ l.length > 256 := by simp at h0; omega
 apply ct_skip
 iterate 2 (apply ct_seq)
 apply ct_region
 apply seq_plain; exact do_assign rfl; exact rfl
 apply seq_nil
 apply ct_block
 apply ct_loop
 refine lt_up (fun i => [(0, .slice q l.length c), (3, I i)]) (fun i => ∀ j, j < i → errG (fun _ x => bookE x) l j = 0) l.length (fun i hi hJ ih => ?_) 0 (by omega) (by intros; omega) (by repeat (first | exact sub_nil | apply sub_cons rfl))
 iterate 2 (apply ct_seq)
 apply ct_region
 iterate 2 (apply seq_plain; exact do_move rfl; exact rfl)
 apply seq_plain; exact do_lenS rfl rfl rfl; exact rfl
 apply seq_plain; exact do_binInt rfl rfl rfl trivial; exact rfl
 apply seq_nil
 refine ct_cond rfl (fun h1 => ?_) (fun h1 => ?_)
 ·simp only [decide_eq_true_eq, Int.ofNat_lt] at h1
  obtain ⟨b, o, cs, z, s, ro, rfl, hg, hw⟩ := hs.out (by intro e; rw [e] at h1; simp at h1)
  have ee := errG_at (err := fun _ x => bookE x) h1
  have bad : bookE l[i] ≠ 0 → booksE l = bookE l[i] := fun hne => by
   unfold booksE
   rw [if_neg h0, restG_at h1 hJ (by rw [ee]; exact hne), ee]
  obtain ⟨Z, hZ⟩ : ∃ Z : Bool, Z = (!nameB l[i].name || !nameB l[i].kind) := ⟨_, rfl⟩
  obtain ⟨Y, hY⟩ : ∃ Y : Bool, Y = (outL l[i].frm 0 99999 || outL l[i].to 0 99999) := ⟨_, rfl⟩
  apply ct_skip
  apply ct_seq
  apply ct_block
  iterate 2 (apply ct_seq)
  apply ct_region
  iterate 2 (apply seq_plain; exact do_move rfl; exact rfl)
  apply seq_plain; exact do_indexAddrS rfl rfl rfl (by exact idx_nat (by omega)); exact rfl
  apply seq_plain; exact do_fieldAddr rfl rfl; exact rfl
  apply seq_plain; exact do_load rfl (by exact ext_get_old (by assumption) (by assumption)) rfl (by exact pt_sl1 (by assumption) (by omega) (Nat.le_of_ble_eq_true rfl) rfl); exact rfl
  apply seq_call (ht := rfl); exact refIsName_c; exact rfl
  apply seq_plain; exact do_unOp rfl rfl; exact rfl
  apply seq_plain; exact do_move rfl; exact rfl
  refine seq_J [(0, .slice (some ⟨b, o, none⟩) l.length c), (3, I i), (28, .bool Z)] (ds := []) (h := ext H H.fresh []) ?_ ?_
  ·refine seq_gsplit rfl rfl (fun u => ?_) (fun u => ?_)
   ·have u : (!nameB l[i].name) = true := u
    have e : Z = true := by rw [hZ, u]; rfl
    rw [e]
    iterate 7 (apply seq_passed (hd := rfl) (hl := rfl) (hb := rfl); exact rfl)
    apply seq_plain; exact do_pick_t rfl rfl; exact rfl
    apply seq_nil
    exact jp_of (by repeat (first | exact sub_nil | apply sub_cons rfl))
   ·have u : (!nameB l[i].name) = false := u
    have e : Z = !nameB l[i].kind := by rw [hZ, u]; rfl
    rw [e]
    iterate 2 (apply seq_guard (hd := rfl) (hl := rfl); exact do_move rfl; exact rfl)
    apply seq_guard (hd := rfl) (hl := rfl); exact do_indexAddrS rfl rfl rfl (by exact idx_nat (by omega)); exact rfl
    apply seq_guard (hd := rfl) (hl := rfl); exact do_fieldAddr rfl rfl; exact rfl
    apply seq_guard (hd := rfl) (hl := rfl); exact do_load rfl (by exact ext_get_old (by assumption) (by assumption)) rfl (by exact pt_sl1 (by assumption) (by omega) (Nat.le_of_ble_eq_true rfl) rfl); exact rfl
    apply seq_gcall (hg := rfl) (hl := rfl) (ht := rfl); exact refIsName_c; exact rfl
    apply seq_guard (hd := rfl) (hl := rfl); exact do_unOp rfl rfl; exact rfl
    apply seq_plain; exact do_pick_f rfl rfl; exact rfl
    apply seq_nil
    exact jp_of (by repeat (first | exact sub_nil | apply sub_cons rfl))
  refine ct_cond rfl (fun h2 => ?_) (fun h2 => ?_)
  ·have er : bookE l[i] = 8 := bookE_8 (by rw [← hZ]; exact h2)
   apply ct_seq
   apply ct_region
   apply seq_plain; exact do_assign rfl; exact rfl
   apply seq_nil
   apply ct_ret
   refine fin_flat hc rfl rfl ⟨?_, rfl⟩
   rw [bad (by rw [er]; decide), er]; rfl
  rw [h2] at hZ
  apply ct_skip
  iterate 2 (apply ct_seq)
  apply ct_region
  iterate 2 (apply seq_plain; exact do_move rfl; exact rfl)
  apply seq_plain; exact do_indexAddrS rfl rfl rfl (by exact idx_nat (by omega)); exact rfl
  apply seq_plain; exact do_fieldAddr rfl rfl; exact rfl
  apply seq_plain; exact do_load rfl (by exact ext_get_old (by assumption) (by assumption)) rfl (by exact pt_sl1 (by assumption) (by omega) (Nat.le_of_ble_eq_true rfl) rfl); exact rfl
  apply seq_call (ht := rfl); exact outside24; exact rfl
  apply seq_plain; exact do_move rfl; exact rfl
  refine seq_J [(0, .slice (some ⟨b, o, none⟩) l.length c), (3, I i), (42, .bool Y)] (ds := []) (h := ext H H.fresh []) ?_ ?_
  ·refine seq_gsplit rfl rfl (fun u => ?_) (fun u => ?_)
   ·have u : outL l[i].frm 0 99999 = true := u
    have e : Y = true := by rw [hY, u]; rfl
    rw [e]
    iterate 6 (apply seq_passed (hd := rfl) (hl := rfl) (hb := rfl); exact rfl)
    apply seq_plain; exact do_pick_t rfl rfl; exact rfl
    apply seq_nil
    exact jp_of (by repeat (first | exact sub_nil | apply sub_cons rfl))
   ·have u : outL l[i].frm 0 99999 = false := u
    have e : Y = outL l[i].to 0 99999 := by rw [hY, u]; rfl
    rw [e]
    iterate 2 (apply seq_guard (hd := rfl) (hl := rfl); exact do_move rfl; exact rfl)
    apply seq_guard (hd := rfl) (hl := rfl); exact do_indexAddrS rfl rfl rfl (by exact idx_nat (by omega)); exact rfl
    apply seq_guard (hd := rfl) (hl := rfl); exact do_fieldAddr rfl rfl; exact rfl
    apply seq_guard (hd := rfl) (hl := rfl); exact do_load rfl (by exact ext_get_old (by assumption) (by assumption)) rfl (by exact pt_sl1 (by assumption) (by omega) (Nat.le_of_ble_eq_true rfl) rfl); exact rfl
    apply seq_gcall (hg := rfl) (hl := rfl) (ht := rfl); exact outside24; exact rfl
    apply seq_plain; exact do_pick_f rfl rfl; exact rfl
    apply seq_nil
    exact jp_of (by repeat (first | exact sub_nil | apply sub_cons rfl))
  refine ct_cond rfl (fun h3 => ?_) (fun h3 => ?_)
  ·have er : bookE l[i] = 3 := bookE_3 hZ.symm (by rw [← hY]; exact h3)
   apply ct_seq
   apply ct_region
   apply seq_plain; exact do_assign rfl; exact rfl
   apply seq_nil
   apply ct_ret
   refine fin_flat hc rfl rfl ⟨?_, rfl⟩
   rw [bad (by rw [er]; decide), er]; rfl
  rw [h3] at hY
  have er := bookE_11 hZ.symm hY.symm
  apply ct_skip
  apply ct_seq
  apply ct_draw (by assumption); decide +kernel
  iterate 2 (apply sd_plain (hfree := rfl); intro _; exact do_move rfl; exact rfl)
  apply sd_plain (hfree := rfl); intro _; exact do_indexAddrS rfl rfl rfl (by exact idx_nat (by omega)); exact rfl
  apply sd_plain (hfree := rfl); intro _; exact do_fieldAddr rfl rfl; exact rfl
  apply sd_look (hfree := rfl); exact do_load rfl (by exact ext_get_old (by assumption) (by assumption)) rfl (by exact pt_sl1 (by assumption) (by omega) (Nat.le_of_ble_eq_true rfl) rfl); exact rfl
  iterate 2 (apply sd_plain (hfree := rfl); intro _; exact do_move rfl; exact rfl)
  apply sd_plain (hfree := rfl); intro _; exact do_indexAddrS rfl rfl rfl (by exact idx_nat (by omega)); exact rfl
  apply sd_plain (hfree := rfl); intro _; exact do_fieldAddr rfl rfl; exact rfl
  apply sd_look (hfree := rfl); exact do_load rfl (by exact ext_get_old (by assumption) (by assumption)) rfl (by exact pt_sl1 (by assumption) (by omega) (Nat.le_of_ble_eq_true rfl) rfl); exact rfl
  apply sd_plain (hfree := rfl); intro _; exact do_binInt rfl rfl rfl trivial; exact rfl
  apply sd_nil
  refine ct_cond rfl (fun h4 => ?_) (fun h4 => ?_)
  ·have h4 : decide (l[i].to ≤ l[i].frm) = true := h4
   rw [h4] at er
   have er : bookE l[i] = 11 := er
   apply ct_seq
   apply ct_region
   apply seq_plain; exact do_assign rfl; exact rfl
   apply seq_nil
   apply ct_ret
   refine fin_flat hc rfl rfl ⟨?_, rfl⟩
   rw [bad (by rw [er]; decide), er]; rfl
  have h4 : decide (l[i].to ≤ l[i].frm) = false := h4
  rw [h4] at er
  have er : bookE l[i] = 0 := er
  apply ct_skip
  apply ct_region
  apply seq_plain; exact do_move rfl; exact rfl
  apply seq_plain; exact do_succ rfl (by omega); exact rfl
  apply seq_plain; exact do_assign rfl; exact rfl
  apply seq_nil
  refine lt_to (by repeat (first | exact sub_nil | apply sub_cons rfl)) (by simp only [List.map_nil, List.append_nil]; exact .refl _) (ih (i + 1) (by omega) (by omega) fun j hj => ?_)
  rcases Nat.lt_or_ge j i with h | h
  ·exact hJ j h
  ·obtain rfl : j = i := by omega
   rw [ee]; exact er
 have h1 : i = l.length := by simp at h1; omega
 subst h1
 apply ct_exit
 apply exit_eq; exact rfl
 apply ct_seq
 apply ct_region
 apply seq_plain; exact do_assign rfl; exact rfl
 apply seq_nil
 apply ct_ret
 refine fin_flat hc rfl rfl ⟨?_, rfl⟩
 unfold booksE
 rw [if_neg h0, restG_none hJ]; rfl
theorem tabE_8 {p : List Tb} {x : Tb} (h : (!nameB x.name || !nameB x.kind) = true) : tabE p x = 8 := by unfold tabE; rw [nameE_two, h]; simp [firstL, whenL]
theorem tabE_9 {p : List Tb} {x : Tb} (h : (!nameB x.name || !nameB x.kind) = false) : tabE p x = whenL (p.any fun y => decide (y.name = x.name)) 9 := by
 unfold tabE
 rw [nameE_two, h]
 cases p.any fun y => decide (y.name = x.name) <;> simp [firstL, whenL]
set_option maxHeartbeats 4000000 in
theorem refTables_c {H : AHeap} {q : Option Addr} {c : Nat} {l : List Tb} (hs : SlAt H 2 tb q l) (hn : l.length < 1000000000) :
  Ret Tryz.prog 34 [.slice q l.length c] H (I (tabsE l)) H := by
 refine fn_start Tryz.func34 rfl rfl rfl fun hc => ?_
 apply ct_seq
 apply ct_region
 apply seq_plain; exact do_assign rfl; exact rfl
 apply seq_nil
 iterate 2 (apply ct_seq)
 apply ct_region
 apply seq_plain; exact do_move rfl; exact rfl
 apply seq_plain; exact do_lenS rfl rfl rfl; exact rfl
 apply seq_plain; exact do_binInt rfl rfl rfl trivial; exact rfl
 apply seq_nil
 refine ct_cond rfl (fun h0 => ?_) (fun h0 => ?_)
 ·have h0 : l.length > 64 := by simp at h0; omega
  apply ct_seq
  apply ct_region
  apply seq_plain; exact do_assign rfl; exact rfl
  apply seq_nil
  apply ct_ret
  refine fin_flat hc rfl rfl ⟨?_, rfl⟩
  unfold tabsE
  rw [if_pos h0]; rfl
 have h0 : ¬ l.length > 64 := by simp at h0; omega
 apply ct_skip
 iterate 2 (apply ct_seq)
 apply ct_region
 apply seq_plain; exact do_assign rfl; exact rfl
 apply seq_nil
 apply ct_block
 apply ct_loop
 refine lt_up (fun i => [(0, .slice q l.length c), (3, I i)]) (fun i => ∀ j, j < i → errG tabE l j = 0) l.length (fun i hi hJ ih => ?_) 0 (by omega) (by intros; omega) (by repeat (first | exact sub_nil | apply sub_cons rfl))
 iterate 2 (apply ct_seq)
 apply ct_region
 iterate 2 (apply seq_plain; exact do_move rfl; exact rfl)
 apply seq_plain; exact do_lenS rfl rfl rfl; exact rfl
 apply seq_plain; exact do_binInt rfl rfl rfl trivial; exact rfl
 apply seq_nil
 refine ct_cond rfl (fun h1 => ?_) (fun h1 => ?_)
 ·simp only [decide_eq_true_eq, Int.ofNat_lt] at h1
  obtain ⟨b, o, cs, z, s, ro, rfl, hg, hw⟩ := hs.out (by intro e; rw [e] at h1; simp at h1)
  have ee := errG_at (err := tabE) h1
  have bad : tabE (l.take i) l[i] ≠ 0 → tabsE l = tabE (l.take i) l[i] := fun hne => by
   unfold tabsE
   rw [if_neg h0, restG_at h1 hJ (by rw [ee]; exact hne), ee]
  obtain ⟨Z, hZ⟩ : ∃ Z : Bool, Z = (!nameB l[i].name || !nameB l[i].kind) := ⟨_, rfl⟩
  apply ct_skip
  apply ct_seq
  apply ct_block
  iterate 2 (apply ct_seq)
  apply ct_region
  iterate 2 (apply seq_plain; exact do_move rfl; exact rfl)
  apply seq_plain; exact do_indexAddrS rfl rfl rfl (by exact idx_nat (by omega)); exact rfl
  apply seq_plain; exact do_fieldAddr rfl rfl; exact rfl
  apply seq_plain; exact do_load rfl (by exact ext_get_old (by assumption) (by assumption)) rfl (by exact pt_sl1 (by assumption) (by omega) (Nat.le_of_ble_eq_true rfl) rfl); exact rfl
  apply seq_call (ht := rfl); exact refIsName_c; exact rfl
  apply seq_plain; exact do_unOp rfl rfl; exact rfl
  apply seq_plain; exact do_move rfl; exact rfl
  refine seq_J [(0, .slice (some ⟨b, o, none⟩) l.length c), (3, I i), (29, .bool Z)] (ds := []) (h := ext H H.fresh []) ?_ ?_
  ·refine seq_gsplit rfl rfl (fun u => ?_) (fun u => ?_)
   ·have u : (!nameB l[i].name) = true := u
    have e : Z = true := by rw [hZ, u]; rfl
    rw [e]
    iterate 7 (apply seq_passed (hd := rfl) (hl := rfl) (hb := rfl); exact rfl)
    apply seq_plain; exact do_pick_t rfl rfl; exact rfl
    apply seq_nil
    exact jp_of (by repeat (first | exact sub_nil | apply sub_cons rfl))
   ·have u : (!nameB l[i].name) = false := u
    have e : Z = !nameB l[i].kind := by rw [hZ, u]; rfl
    rw [e]
    iterate 2 (apply seq_guard (hd := rfl) (hl := rfl); exact do_move rfl; exact rfl)
    apply seq_guard (hd := rfl) (hl := rfl); exact do_indexAddrS rfl rfl rfl (by exact idx_nat (by omega)); exact rfl
    apply seq_guard (hd := rfl) (hl := rfl); exact do_fieldAddr rfl rfl; exact rfl
    apply seq_guard (hd := rfl) (hl := rfl); exact do_load rfl (by exact ext_get_old (by assumption) (by assumption)) rfl (by exact pt_sl1 (by assumption) (by omega) (Nat.le_of_ble_eq_true rfl) rfl); exact rfl
    apply seq_gcall (hg := rfl) (hl := rfl) (ht := rfl); exact refIsName_c; exact rfl
    apply seq_guard (hd := rfl) (hl := rfl); exact do_unOp rfl rfl; exact rfl
    apply seq_plain; exact do_pick_f rfl rfl; exact rfl
    apply seq_nil
    exact jp_of (by repeat (first | exact sub_nil | apply sub_cons rfl))
  refine ct_cond rfl (fun h2 => ?_) (fun h2 => ?_)
  ·have er : tabE (l.take i) l[i] = 8 := tabE_8 (by rw [← hZ]; exact h2)
   apply ct_seq
   apply ct_region
   apply seq_plain; exact do_assign rfl; exact rfl
   apply seq_nil
   apply ct_ret
   refine fin_flat hc rfl rfl ⟨?_, rfl⟩
   rw [bad (by rw [er]; decide), er]; rfl
  rw [h2] at hZ
  have er := tabE_9 (p := l.take i) hZ.symm
  apply ct_skip
  apply ct_seq
  apply ct_region
  apply seq_plain; exact do_assign rfl; exact rfl
  apply seq_nil
  apply ct_block
  apply ct_loop
  refine lt_up (fun k => [(0, .slice (some ⟨b, o, none⟩) l.length c), (3, I i), (4, I k)]) (fun k => ∀ j (h : j < l.length), j < k → l[j].name ≠ l[i].name) i (fun k hk hJ2 ih2 => ?_) 0 (by omega) (by intros; omega) (by repeat (first | exact sub_nil | apply sub_cons rfl))
  iterate 2 (apply ct_seq)
  apply ct_region
  iterate 2 (apply seq_plain; exact do_move rfl; exact rfl)
  apply seq_plain; exact do_binInt rfl rfl rfl trivial; exact rfl
  apply seq_nil
  refine ct_cond rfl (fun h3 => ?_) (fun h3 => ?_)
  ·simp only [decide_eq_true_eq, Int.ofNat_lt] at h3
   apply ct_skip
   apply ct_seq
   apply ct_block
   apply ct_seq
   apply ct_draw (by assumption); decide +kernel
   iterate 2 (apply sd_plain (hfree := rfl); intro _; exact do_move rfl; exact rfl)
   apply sd_plain (hfree := rfl); intro _; exact do_indexAddrS rfl rfl rfl (by exact idx_nat (by omega)); exact rfl
   apply sd_plain (hfree := rfl); intro _; exact do_fieldAddr rfl rfl; exact rfl
   apply sd_look (hfree := rfl); exact do_load rfl (by exact ext_get_old (by assumption) (by assumption)) rfl (by exact pt_sl1 (by assumption) (by omega) (Nat.le_of_ble_eq_true rfl) rfl); exact rfl
   iterate 2 (apply sd_plain (hfree := rfl); intro _; exact do_move rfl; exact rfl)
   apply sd_plain (hfree := rfl); intro _; exact do_indexAddrS rfl rfl rfl (by exact idx_nat (by omega)); exact rfl
   apply sd_plain (hfree := rfl); intro _; exact do_fieldAddr rfl rfl; exact rfl
   apply sd_look (hfree := rfl); exact do_load rfl (by exact ext_get_old (by assumption) (by assumption)) rfl (by exact pt_sl1 (by assumption) (by omega) (Nat.le_of_ble_eq_true rfl) rfl); exact rfl
   apply sd_plain (hfree := rfl); intro _; exact do_binStr rfl rfl rfl; exact rfl
   apply sd_nil
   refine ct_cond rfl (fun h4 => ?_) (fun h4 => ?_)
   ·have h4 : byteL l[k].name.data.toList l[i].name.data.toList = true := h4
    rw [bytes_eq] at h4
    have h4 := of_decide_eq_true h4
    have er : tabE (l.take i) l[i] = 9 := by
     rw [er]
     have : ((l.take i).any fun y => decide (y.name = l[i].name)) = true := List.any_eq_true.2 ⟨l[k], List.mem_take_iff_getElem.2 ⟨k, by omega, rfl⟩, decide_eq_true h4⟩
     rw [this]; rfl
    apply ct_seq
    apply ct_region
    apply seq_plain; exact do_assign rfl; exact rfl
    apply seq_nil
    apply ct_ret
    refine fin_flat hc rfl rfl ⟨?_, rfl⟩
    rw [bad (by rw [er]; decide), er]; rfl
   ·have h4 : byteL l[k].name.data.toList l[i].name.data.toList = false := h4
    rw [bytes_eq] at h4
    have h4 := of_decide_eq_false h4
    apply ct_skip
    apply ct_region
    apply seq_plain; exact do_move rfl; exact rfl
    apply seq_plain; exact do_succ rfl (by omega); exact rfl
    apply seq_plain; exact do_assign rfl; exact rfl
    apply seq_nil
    refine lt_to (by repeat (first | exact sub_nil | apply sub_cons rfl)) (by simp only [List.map_nil, List.append_nil]; exact .refl _) (ih2 (k + 1) (by omega) (by omega) fun j hj hjk => ?_)
    by_cases e : j = k
    ·subst e; exact h4
    ·exact hJ2 j hj (by omega)
  have h3 : k = i := by simp only [decide_eq_false_iff_not] at h3; omega
  subst h3
  have er : tabE (l.take k) l[k] = 0 := by
   rw [er]
   have : ((l.take k).any fun y => decide (y.name = l[k].name)) = false := by
    rw [List.any_eq_false]
    intro y hy
    obtain ⟨j, hj, rfl⟩ := List.mem_take_iff_getElem.1 hy
    simpa using hJ2 j (by omega) (by omega)
   rw [this]; rfl
  apply ct_exit
  apply exit_eq; exact rfl
  apply ct_region
  apply seq_plain; exact do_move rfl; exact rfl
  apply seq_plain; exact do_succ rfl (by omega); exact rfl
  apply seq_plain; exact do_assign rfl; exact rfl
  apply seq_nil
  refine lt_to (by repeat (first | exact sub_nil | apply sub_cons rfl)) (.refl _) (ih (k + 1) (by omega) (by omega) fun j hj => ?_)
  rcases Nat.lt_or_ge j k with h | h
  ·exact hJ j h
  ·obtain rfl : j = k := by omega
   rw [ee]; exact er
 have h1 : i = l.length := by simp at h1; omega
 subst h1
 apply ct_exit
 apply exit_eq; exact rfl
 apply ct_seq
 apply ct_region
 apply seq_plain; exact do_assign rfl; exact rfl
 apply seq_nil
 apply ct_ret
 refine fin_flat hc rfl rfl ⟨?_, rfl⟩
 unfold tabsE
 rw [if_neg h0, restG_none hJ]; rfl
theorem refTables1_c {H : AHeap} {q : Option Addr} {c : Nat} {l : List Tb} {k : ByteArray} (hs : SlAt H 2 tb q l) (hn : l.length < 1000000000) :
  Ret Tryz.prog 36 [.slice q l.length c, .string k] H (I (cntK l k)) H := by
 refine fn_start Tryz.func36 rfl rfl rfl fun hc => ?_
 apply ct_seq
 apply ct_region
 apply seq_plain; exact do_assign rfl; exact rfl
 apply seq_nil
 apply ct_seq
 apply ct_region
 apply seq_plain; exact do_assign rfl; exact rfl
 apply seq_nil
 iterate 2 (apply ct_seq)
 apply ct_region
 apply seq_plain; exact do_assign rfl; exact rfl
 apply seq_nil
 apply ct_block
 apply ct_loop
 refine lt_up (fun i => [(0, .slice q l.length c), (1, .string k), (5, I (cntK (l.take i) k)), (6, I i)]) (fun _ => True) l.length (fun i hi _ ih => ?_) 0 (by omega) trivial (by repeat (first | exact sub_nil | apply sub_cons rfl))
 iterate 2 (apply ct_seq)
 apply ct_region
 iterate 2 (apply seq_plain; exact do_move rfl; exact rfl)
 apply seq_plain; exact do_lenS rfl rfl rfl; exact rfl
 apply seq_plain; exact do_binInt rfl rfl rfl trivial; exact rfl
 apply seq_nil
 refine ct_cond rfl (fun h1 => ?_) (fun h1 => ?_)
 ·simp only [decide_eq_true_eq, Int.ofNat_lt] at h1
  obtain ⟨b, o, cs, z, s, ro, rfl, hg, hw⟩ := hs.out (by intro e; rw [e] at h1; simp at h1)
  have se := cntK_snoc (k := k) h1
  have sl := cntK_take (t := l) (k := k) (i := i)
  apply ct_skip
  apply ct_seq
  apply ct_block
  apply ct_seq
  apply ct_region
  iterate 2 (apply seq_plain; exact do_move rfl; exact rfl)
  apply seq_plain; exact do_indexAddrS rfl rfl rfl (by exact idx_nat (by omega)); exact rfl
  apply seq_plain; exact do_fieldAddr rfl rfl; exact rfl
  apply seq_plain; exact do_load rfl (by exact ext_get_old (by assumption) (by assumption)) rfl (by exact pt_sl1 (by assumption) (by omega) (Nat.le_of_ble_eq_true rfl) rfl); exact rfl
  apply seq_plain; exact do_move rfl; exact rfl
  apply seq_plain; exact do_binStr rfl rfl rfl; exact rfl
  apply seq_nil
  refine ct_JE [(0, .slice (some ⟨b, o, none⟩) l.length c), (1, .string k), (5, I (cntK (l.take (i + 1)) k)), (6, I i)] (ds := []) (h := ext H H.fresh []) ?_ ?_
  ·refine ct_cond rfl (fun h2 => ?_) (fun h2 => ?_)
   ·have h2 : byteL l[i].kind.data.toList k.data.toList = true := h2
    rw [bytes_eq] at h2
    have h2 := of_decide_eq_true h2
    rw [se, if_pos h2]
    apply ct_region
    apply seq_plain; exact do_move rfl; exact rfl
    apply seq_plain; exact do_succ rfl (by omega); exact rfl
    apply seq_plain; exact do_assign rfl; exact rfl
    apply seq_nil
    exact jp_of (by repeat (first | exact sub_nil | apply sub_cons rfl))
   ·have h2 : byteL l[i].kind.data.toList k.data.toList = false := h2
    rw [bytes_eq] at h2
    have h2 := of_decide_eq_false h2
    rw [se, if_neg h2]
    apply ct_skip
    exact jp_of (by repeat (first | exact sub_nil | apply sub_cons rfl))
  apply ct_region
  apply seq_plain; exact do_move rfl; exact rfl
  apply seq_plain; exact do_succ rfl (by omega); exact rfl
  apply seq_plain; exact do_assign rfl; exact rfl
  apply seq_nil
  exact lt_to (by repeat (first | exact sub_nil | apply sub_cons rfl)) (.refl _) (ih (i + 1) (by omega) (by omega) trivial)
 ·have h1 : i = l.length := by simp at h1; omega
  subst h1
  rw [List.take_length]
  apply ct_exit
  apply exit_eq; exact rfl
  apply ct_seq
  apply ct_region
  apply seq_plain; exact do_move rfl; exact rfl
  apply seq_plain; exact do_assign rfl; exact rfl
  apply seq_nil
  apply ct_ret
  exact fin_flat hc rfl rfl ⟨rfl, rfl⟩
theorem bothE_0 {t : List Tb} {l : List Bk} (h : tabsE t = 0) (h2 : booksE l = 0) : bothE t l = whenL (unkB t l) 10 := by
 unfold bothE
 rw [h, h2]
 cases unkB t l <;> simp [firstL, whenL]
theorem refCheck_c {H : AHeap} {q r : Option Addr} {c d : Nat} {t : List Tb} {l : List Bk} (hs : SlAt H 2 tb q t) (hn : t.length < 1000000000) (hr : SlAt H 4 bk r l) (hm : l.length < 1000000000) :
  Ret Tryz.prog 7 [.slice q t.length c, .slice r l.length d] H (I (bothE t l)) H := by
 refine fn_start Tryz.func7 rfl rfl rfl fun hc => ?_
 apply ct_seq
 apply ct_region
 apply seq_plain; exact do_assign rfl; exact rfl
 apply seq_nil
 iterate 2 (apply ct_seq)
 apply ct_region
 apply seq_plain; exact do_move rfl; exact rfl
 apply seq_call (ht := rfl); exact refTables_c (hs.ext (ext_Ext hc)) hn; exact rfl
 apply seq_plain; exact do_assign rfl; exact rfl
 apply seq_nil
 apply ct_seq
 apply ct_region
 apply seq_plain; exact do_move rfl; exact rfl
 apply seq_plain; exact do_binInt rfl rfl rfl trivial; exact rfl
 apply seq_nil
 refine ct_cond rfl (fun h0 => ?_) (fun h0 => ?_)
 ·have h0 : tabsE t ≠ 0 := by simpa using h0
  apply ct_seq
  apply ct_region
  apply seq_plain; exact do_move rfl; exact rfl
  apply seq_plain; exact do_assign rfl; exact rfl
  apply seq_nil
  apply ct_ret
  refine fin_flat hc rfl rfl ⟨?_, rfl⟩
  unfold bothE
  simp [firstL, h0, packA]
 have h0 : tabsE t = 0 := by simpa using h0
 apply ct_skip
 iterate 2 (apply ct_seq)
 apply ct_region
 apply seq_plain; exact do_move rfl; exact rfl
 apply seq_call (ht := rfl); exact refBookings_c (hr.ext (ext_Ext hc)) hm; exact rfl
 apply seq_plain; exact do_assign rfl; exact rfl
 apply seq_nil
 apply ct_seq
 apply ct_region
 apply seq_plain; exact do_move rfl; exact rfl
 apply seq_plain; exact do_binInt rfl rfl rfl trivial; exact rfl
 apply seq_nil
 refine ct_cond rfl (fun h1 => ?_) (fun h1 => ?_)
 ·have h1 : booksE l ≠ 0 := by simpa using h1
  apply ct_seq
  apply ct_region
  apply seq_plain; exact do_move rfl; exact rfl
  apply seq_plain; exact do_assign rfl; exact rfl
  apply seq_nil
  apply ct_ret
  refine fin_flat hc rfl rfl ⟨?_, rfl⟩
  unfold bothE
  simp [firstL, h0, h1, packA]
 have h1 : booksE l = 0 := by simpa using h1
 have hE := bothE_0 h0 h1
 apply ct_skip
 iterate 2 (apply ct_seq)
 apply ct_region
 apply seq_plain; exact do_assign rfl; exact rfl
 apply seq_nil
 apply ct_block
 apply ct_loop
 refine lt_up (fun i => [(0, .slice q t.length c), (1, .slice r l.length d), (7, I i)]) (fun i => ∀ j (h : j < l.length), j < i → ((cntK t l[j].kind : Int) == 0) = false) l.length (fun i hi hJ ih => ?_) 0 (by omega) (by intros; omega) (by repeat (first | exact sub_nil | apply sub_cons rfl))
 iterate 2 (apply ct_seq)
 apply ct_region
 iterate 2 (apply seq_plain; exact do_move rfl; exact rfl)
 apply seq_plain; exact do_lenS rfl rfl rfl; exact rfl
 apply seq_plain; exact do_binInt rfl rfl rfl trivial; exact rfl
 apply seq_nil
 refine ct_cond rfl (fun h2 => ?_) (fun h2 => ?_)
 ·simp only [decide_eq_true_eq, Int.ofNat_lt] at h2
  obtain ⟨b, o, cs, z, s, ro, rfl, hg, hw⟩ := hr.out (by intro e; rw [e] at h2; simp at h2)
  apply ct_skip
  apply ct_seq
  apply ct_block
  apply ct_seq
  apply ct_region
  iterate 3 (apply seq_plain; exact do_move rfl; exact rfl)
  apply seq_plain; exact do_indexAddrS rfl rfl rfl (by exact idx_nat (by omega)); exact rfl
  apply seq_plain; exact do_fieldAddr rfl rfl; exact rfl
  apply seq_plain; exact do_load rfl (by exact ext_get_old (by assumption) (by assumption)) rfl (by exact pt_sl1 (by assumption) (by omega) (Nat.le_of_ble_eq_true rfl) rfl); exact rfl
  apply seq_call (ht := rfl); exact refTables1_c (hs.ext (ext_Ext hc)) hn; exact rfl
  apply seq_plain; exact do_binInt rfl rfl rfl trivial; exact rfl
  apply seq_nil
  refine ct_cond rfl (fun h3 => ?_) (fun h3 => ?_)
  ·have h3 : ((cntK t l[i].kind : Int) == 0) = true := h3
   have hu : unkB t l = true := List.any_eq_true.2 ⟨l[i], List.getElem_mem h2, h3⟩
   apply ct_seq
   apply ct_region
   apply seq_plain; exact do_assign rfl; exact rfl
   apply seq_nil
   apply ct_ret
   refine fin_flat hc rfl rfl ⟨?_, rfl⟩
   rw [hE, hu]; rfl
  ·have h3 : ((cntK t l[i].kind : Int) == 0) = false := h3
   apply ct_skip
   apply ct_region
   apply seq_plain; exact do_move rfl; exact rfl
   apply seq_plain; exact do_succ rfl (by omega); exact rfl
   apply seq_plain; exact do_assign rfl; exact rfl
   apply seq_nil
   refine lt_sub (by repeat (first | exact sub_nil | apply sub_cons rfl)) (ih (i + 1) (by omega) (by omega) fun j hj hji => ?_)
   by_cases e : j = i
   ·subst e; exact h3
   ·exact hJ j hj (by omega)
 ·have h2 : i = l.length := by simp at h2; omega
  subst h2
  have hu : unkB t l = false := by
   unfold unkB
   rw [List.any_eq_false]
   intro y hy
   obtain ⟨j, hj, rfl⟩ := List.getElem_of_mem hy
   simpa using hJ j hj hj
  apply ct_exit
  apply exit_eq; exact rfl
  apply ct_seq
  apply ct_region
  apply seq_plain; exact do_assign rfl; exact rfl
  apply seq_nil
  apply ct_ret
  refine fin_flat hc rfl rfl ⟨?_, rfl⟩
  rw [hE, hu]; rfl
end Go.Proofs.YtmcecjplgalcgaaGreatDoor
