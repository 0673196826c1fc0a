/- Contracts: postings that are examined. -/
import Derived.Test.YtfegloadbajbhaaGreatDoorBaL
import Derived.Test.YtfegloadbajbhaaGreatDoorHkC
import Derived.Test.YtfegloadbajbhaaGreatDoorBgH
noncomputable section
namespace Go.Proofs.YtfegloadbajbhaaGreatDoor
open Go Go.Den
set_option maxRecDepth 100000
/-- the error of a posting, and of postings -/
def posE (x : Po) : Int := firstL [nameE [x.debit, x.credit], whenL (decide (x.debit = x.credit)) 9, whenL (outL x.amt 1 999999999) 3]
def possE (l : List Po) : Int := if l.length > 256 then 5 else restG (fun _ x => posE x) l
theorem pos1_c {H : AHeap} {x : Po} {v : Value} : Ret Tryz.prog 184 [.agg ⟨po x⟩, v] H (I (posE x)) H := by
  refine fn_start Tryz.func184 rfl rfl rfl fun hc => ?_
  have eb : byteL x.debit.data.toList x.credit.data.toList = decide (x.debit = x.credit) := bytes_eq
  apply ct_seq
  apply ct_region
  apply seq_newP; exact do_box rfl rfl rfl; exact rfl
  apply seq_plain; exact do_assign rfl; exact rfl
  apply seq_nil
  apply ct_seq
  apply ct_draw (by assumption); decide +kernel
  apply sd_plain (hfree := rfl); intro _; exact do_fieldAddr rfl rfl; exact rfl
  apply sd_look (hfree := rfl); exact do_load rfl (by exact ext_get_new rfl) rfl (by exact rfl); exact rfl
  apply sd_plain (hfree := rfl); intro _; exact do_fieldAddr rfl rfl; exact rfl
  apply sd_look (hfree := rfl); exact do_load rfl (by exact ext_get_new rfl) rfl (by exact rfl); exact rfl
  apply sd_newS (hfree := rfl); exact do_buildSlice rfl rfl rfl rfl rfl rfl rfl; exact rfl
  apply sd_callM (ht := rfl) (hw := rfl); decide +kernel; exact named_c (l := [_, _]) (slAt_map (ext_get_new rfl)) (by simp); exact rfl
  apply sd_plain (hfree := rfl); intro _; exact do_fieldAddr rfl rfl; exact rfl
  apply sd_look (hfree := rfl); exact do_load rfl (by exact ext_get_new rfl) rfl (by exact rfl); exact rfl
  apply sd_plain (hfree := rfl); intro _; exact do_fieldAddr rfl rfl; exact rfl
  apply sd_look (hfree := rfl); exact do_load rfl (by exact ext_get_new rfl) rfl (by exact rfl); exact rfl
  apply sd_plain (hfree := rfl); intro _; exact do_binStr rfl rfl rfl; exact rfl
  apply sd_call (ht := rfl); exact when85; exact rfl
  apply sd_plain (hfree := rfl); intro _; exact do_fieldAddr rfl rfl; exact rfl
  apply sd_look (hfree := rfl); exact do_load rfl (by exact ext_get_new rfl) rfl (by exact rfl); exact rfl
  apply sd_call (ht := rfl); exact within89; exact rfl
  apply sd_newS (hfree := rfl); exact do_buildSlice rfl rfl rfl rfl rfl rfl rfl; exact rfl
  apply sd_callM (ht := rfl) (hw := rfl); decide +kernel; exact first84 (l := [_, _, _]) (slAt_map (ext_get_new rfl)) (by simp); exact rfl
  apply sd_plain (hfree := rfl); intro _; exact do_assign rfl; exact rfl
  apply sd_nil
  apply ct_ret
  rw [eb]
  skip
  exact fin_flat hc rfl rfl ⟨rfl, rfl⟩

theorem examPo_c {H : AHeap} {q : Option Addr} {c g : Nat} {caps : List Value} {l : List Po} {most : Nat} {err : List Po → Po → Int} (hs : SlAt H 3 po q l) (hlow : LowS q c l.length) (hn : l.length < 1000000000000)
    (hp : ∀ i (hi : i < l.length), ∀ H', Ext H H' → Ret Tryz.prog g (.agg ⟨po l[i]⟩ :: .slice q i c :: caps) H' (I (err (l.take i) l[i])) H') :
    Ret Tryz.prog 183 [.slice q l.length c, I most, .func (.func g) #[] ⟨caps⟩] H (I (if l.length > most then 5 else restG err l)) H := by
  refine fn_start Tryz.func183 rfl rfl rfl fun hc => ?_
  apply ct_seq
  apply ct_region
  apply seq_plain; exact do_assign rfl; exact rfl
  apply seq_nil
  apply ct_seq
  apply ct_seq
  apply ct_region
  apply seq_plain; exact do_move rfl; exact rfl
  apply seq_plain; exact do_lenS rfl rfl rfl; exact rfl
  apply seq_plain; exact do_move rfl; exact rfl
  apply seq_plain; exact do_binInt rfl rfl rfl trivial; exact rfl
  apply seq_nil
  refine ct_cond rfl (fun h0 => ?_) (fun h0 => ?_)
  · have h0 : l.length > most := by simp at h0; omega
    apply ct_seq
    apply ct_region
    apply seq_plain; exact do_assign rfl; exact rfl
    apply seq_nil
    apply ct_ret
    refine fin_flat hc rfl rfl ⟨?_, rfl⟩
    rw [if_pos h0]; rfl
  have h0 : ¬ l.length > most := by simp at h0; omega
  rw [if_neg h0]
  apply ct_skip
  apply ct_seq
  apply ct_seq
  apply ct_region
  apply seq_plain; exact do_move rfl; exact rfl
  apply seq_plain; exact do_lenS rfl rfl rfl; exact rfl
  apply seq_plain; exact do_move rfl; exact rfl
  apply seq_nil
  apply ct_block
  apply ct_loop
  refine lt_meas (α := Nat × List (Option ABlk)) (fun a => [(0, .slice q l.length c), (2, .func (.func g) #[] ⟨caps⟩), (14, .slice q l.length c), (15, I l.length), (16, I a.1)]) (fun a => ext H H.fresh a.2) (fun a => a.1 ≤ l.length ∧ ∀ j, j < a.1 → errG err l j = 0) (fun a => l.length - a.1) (fun a ha ih => ?_) (0, []) ⟨by simp, fun j hj => by simp at hj⟩ (by repeat (first | exact sub_nil | apply sub_cons rfl)) (.refl _)
  obtain ⟨i, L⟩ := a
  obtain ⟨hi, hJ⟩ := ha
  simp only at hi hJ ih ⊢
  have ih' := fun i' L' a1 a2 a3 => ih (i', L') a1 ⟨a2, a3⟩
  simp only at ih'
  clear ih
  apply ct_seq
  apply ct_region
  apply seq_plain; exact do_binInt rfl rfl rfl trivial; exact rfl
  apply seq_nil
  apply ct_seq
  refine ct_cond rfl (fun h1 => ?_) (fun h1 => ?_)
  · simp only [decide_eq_true_eq, Int.ofNat_lt] at h1
    obtain ⟨b, o, cs, z, s, ro, rfl, hg, hw⟩ := hs.out (by intro e; rw [e] at h1; simp at h1)
    have hcap := hlow.cap
    apply ct_skip
    apply ct_seq
    apply ct_block
    apply ct_seq
    apply ct_region
    apply seq_plain; exact do_move rfl; exact rfl
    apply seq_plain; exact do_indexAddrS rfl rfl rfl (by exact idx_nat (by omega)); exact rfl
    apply seq_plain; exact do_load rfl (by exact ext_get_old (by assumption) (by assumption)) rfl (by exact pt_sl (by assumption) (by omega)); exact rfl
    apply seq_newP; exact do_alloc rfl rfl; exact rfl
    apply seq_plain; exact do_assign rfl; exact rfl
    apply seq_putC (hc := by assumption); rotate_left; exact do_store rfl rfl (by exact ext_get_new List.getElem?_concat_length) rfl rfl (nb_own _); rotate_left; exact (by simp)
    apply ct_seq
    apply ct_draw (by assumption); decide +kernel
    apply sd_plain (hfree := rfl); intro _; exact do_move rfl; exact rfl
    apply sd_look (hfree := rfl); exact do_load rfl (by exact ext_get_new (getApp getSetLast)) rfl (by exact rfl); exact rfl
    apply sd_plain (hfree := rfl); intro _; exact do_move rfl; exact rfl
    apply sd_plain (hfree := rfl); intro _; exact do_move rfl; exact rfl
    apply sd_look (hfree := rfl); exact do_sliceTo rfl rfl rfl (by intro e; cases e) (by rintro _ ⟨⟩; rfl) (by omega); exact rfl
    skip
    apply sd_call (ht := rfl); exact hp i h1 _ (ext_Ext hc); exact rfl
    apply sd_plain (hfree := rfl); intro _; exact do_assign rfl; exact rfl
    apply sd_nil
    apply ct_seq
    apply ct_region
    apply seq_plain; exact do_move rfl; exact rfl
    apply seq_plain; exact do_binInt rfl rfl rfl trivial; exact rfl
    apply seq_nil
    refine ct_cond rfl (fun h2 => ?_) (fun h2 => ?_)
    · have h2 : err (l.take i) l[i] ≠ 0 := by simpa using h2
      apply ct_seq
      apply ct_region
      apply seq_plain; exact do_move rfl; exact rfl
      apply seq_plain; exact do_assign rfl; exact rfl
      apply seq_nil
      apply ct_ret
      refine fin_flat hc rfl rfl ⟨?_, rfl⟩
      rw [restG_at h1 hJ (by rw [errG_at h1]; exact h2), errG_at h1]; rfl
    · have h2 : err (l.take i) l[i] = 0 := by simpa using h2
      apply ct_skip
      apply ct_region
      apply seq_plain; exact do_succ rfl (by omega); exact rfl
      apply seq_plain; exact do_move rfl; exact rfl
      apply seq_nil
      refine lt_to (by repeat (first | exact sub_nil | apply sub_cons rfl)) (.refl _) (ih' (i + 1) _ (by omega) (by omega) fun j hj => ?_)
      rcases Nat.lt_or_ge j i with h | h
      · exact hJ j h
      · obtain rfl : j = i := by omega
        rw [errG_at h1]; exact h2
  · have h1 : i = l.length := by simp at h1; omega
    subst h1
    apply ct_exit
    apply exit_eq; exact rfl
    apply ct_seq
    apply ct_region
    apply seq_plain; exact do_assign rfl; exact rfl
    apply seq_nil
    apply ct_ret
    refine fin_flat hc rfl rfl ⟨?_, rfl⟩
    rw [restG_none hJ]; rfl

theorem checkPostings_c {H : AHeap} {q : Option Addr} {c : Nat} {l : List Po} (hs : SlAt H 3 po q l) (hlow : LowS q c l.length) (hn : l.length < 1000000000000) :
    Ret Tryz.prog 140 [.slice q l.length c] H (I (possE l)) H := by
  refine fn_start Tryz.func140 rfl rfl rfl fun hc => ?_
  apply ct_seq
  apply ct_region
  apply seq_plain; exact do_assign rfl; exact rfl
  apply seq_nil
  apply ct_seq
  apply ct_region
  apply seq_plain; exact do_move rfl; exact rfl
  apply seq_call (ht := rfl); exact examPo_c (most := 256) (err := fun _ x => posE x) (hs.ext (ext_Ext hc)) hlow hn fun i hi H' hE => pos1_c; exact rfl
  apply seq_plain; exact do_assign rfl; exact rfl
  apply seq_nil
  apply ct_ret
  exact fin_flat hc rfl rfl ⟨rfl, rfl⟩
theorem posE_8 {x : Po} (h : (!nameB x.debit || !nameB x.credit) = true) : posE x = 8 := by unfold posE; rw [nameE_two, h]; simp [firstL, whenL]
theorem posE_9 {x : Po} (h : (!nameB x.debit || !nameB x.credit) = false) (h2 : decide (x.debit = x.credit) = true) : posE x = 9 := by unfold posE; rw [nameE_two, h, h2]; simp [firstL, whenL]
theorem posE_3 {x : Po} (h : (!nameB x.debit || !nameB x.credit) = false) (h2 : decide (x.debit = x.credit) = false) : posE x = whenL (outL x.amt 1 999999999) 3 := by
  unfold posE
  rw [nameE_two, h, h2]
  cases outL x.amt 1 999999999 <;> simp [firstL, whenL]
set_option maxHeartbeats 4000000 in
theorem refPostings_c {H : AHeap} {q : Option Addr} {c : Nat} {l : List Po} (hs : SlAt H 3 po q l) (hn : l.length < 1000000000) :
    Ret Tryz.prog 81 [.slice q l.length c] H (I (possE l)) H := by
  refine fn_start Tryz.func81 rfl rfl rfl fun hc => ?_
  apply ct_seq
  apply ct_region
  apply seq_plain; exact do_assign rfl; exact rfl
  apply seq_nil
  apply ct_seq
  apply ct_seq
  apply ct_region
  apply seq_plain; exact do_move rfl; exact rfl
  apply seq_plain; exact do_lenS rfl rfl rfl; exact rfl
  apply seq_plain; exact do_binInt rfl rfl rfl trivial; exact rfl
  apply seq_nil
  refine ct_cond rfl (fun h0 => ?_) (fun h0 => ?_)
  · have h0 : l.length > 256 := by simp at h0; omega
    apply ct_seq
    apply ct_region
    apply seq_plain; exact do_assign rfl; exact rfl
    apply seq_nil
    apply ct_ret
    refine fin_flat hc rfl rfl ⟨?_, rfl⟩
    unfold possE
    rw [if_pos h0]; rfl
  have h0 : ¬ l.length > 256 := by simp at h0; omega
  apply ct_skip
  apply ct_seq
  apply ct_seq
  apply ct_region
  apply seq_plain; exact do_assign rfl; exact rfl
  apply seq_nil
  apply ct_block
  apply ct_loop
  refine lt_up (fun i => [(0, .slice q l.length c), (3, I i)]) (fun i => ∀ j, j < i → errG (fun _ x => posE x) l j = 0) l.length (fun i hi hJ ih => ?_) 0 (by omega) (by intros; omega) (by repeat (first | exact sub_nil | apply sub_cons rfl))
  apply ct_seq
  apply ct_seq
  apply ct_region
  apply seq_plain; exact do_move rfl; exact rfl
  apply seq_plain; exact do_move rfl; exact rfl
  apply seq_plain; exact do_lenS rfl rfl rfl; exact rfl
  apply seq_plain; exact do_binInt rfl rfl rfl trivial; exact rfl
  apply seq_nil
  refine ct_cond rfl (fun h1 => ?_) (fun h1 => ?_)
  · simp only [decide_eq_true_eq, Int.ofNat_lt] at h1
    obtain ⟨b, o, cs, z, s, ro, rfl, hg, hw⟩ := hs.out (by intro e; rw [e] at h1; simp at h1)
    have ee := errG_at (err := fun _ x => posE x) h1
    have bad : posE l[i] ≠ 0 → possE l = posE l[i] := fun hne => by
      unfold possE
      rw [if_neg h0, restG_at h1 hJ (by rw [ee]; exact hne), ee]
    obtain ⟨Z, hZ⟩ : ∃ Z : Bool, Z = (!nameB l[i].debit || !nameB l[i].credit) := ⟨_, rfl⟩
    apply ct_skip
    apply ct_seq
    apply ct_block
    apply ct_seq
    apply ct_seq
    apply ct_region
    apply seq_plain; exact do_move rfl; exact rfl
    apply seq_plain; exact do_move rfl; exact rfl
    apply seq_plain; exact do_indexAddrS rfl rfl rfl (by exact idx_nat (by omega)); exact rfl
    apply seq_plain; exact do_fieldAddr rfl rfl; exact rfl
    apply seq_plain; exact do_load rfl (by exact ext_get_old (by assumption) (by assumption)) rfl (by exact pt_sl1 (by assumption) (by omega) (Nat.le_of_ble_eq_true rfl) rfl); exact rfl
    apply seq_call (ht := rfl); exact refIsName_c; exact rfl
    apply seq_plain; exact do_unOp rfl rfl; exact rfl
    apply seq_plain; exact do_move rfl; exact rfl
    refine seq_J [(0, .slice (some ⟨b, o, none⟩) l.length c), (3, I i), (28, .bool Z)] (ds := []) (h := ext H H.fresh []) ?_ ?_
    · refine seq_gsplit rfl rfl (fun u => ?_) (fun u => ?_)
      · have u : (!nameB l[i].debit) = true := u
        have e : Z = true := by rw [hZ, u]; rfl
        rw [e]
        apply seq_passed (hd := rfl) (hl := rfl) (hb := rfl); exact rfl
        apply seq_passed (hd := rfl) (hl := rfl) (hb := rfl); exact rfl
        apply seq_passed (hd := rfl) (hl := rfl) (hb := rfl); exact rfl
        apply seq_passed (hd := rfl) (hl := rfl) (hb := rfl); exact rfl
        apply seq_passed (hd := rfl) (hl := rfl) (hb := rfl); exact rfl
        apply seq_passed (hd := rfl) (hl := rfl) (hb := rfl); exact rfl
        apply seq_passed (hd := rfl) (hl := rfl) (hb := rfl); exact rfl
        apply seq_plain; exact do_pick_t rfl rfl; exact rfl
        apply seq_nil
        exact jp_of (by repeat (first | exact sub_nil | apply sub_cons rfl))
      · have u : (!nameB l[i].debit) = false := u
        have e : Z = !nameB l[i].credit := by rw [hZ, u]; rfl
        rw [e]
        apply seq_guard (hd := rfl) (hl := rfl); exact do_move rfl; exact rfl
        apply seq_guard (hd := rfl) (hl := rfl); exact do_move rfl; exact rfl
        apply seq_guard (hd := rfl) (hl := rfl); exact do_indexAddrS rfl rfl rfl (by exact idx_nat (by omega)); exact rfl
        apply seq_guard (hd := rfl) (hl := rfl); exact do_fieldAddr rfl rfl; exact rfl
        apply seq_guard (hd := rfl) (hl := rfl); exact do_load rfl (by exact ext_get_old (by assumption) (by assumption)) rfl (by exact pt_sl1 (by assumption) (by omega) (Nat.le_of_ble_eq_true rfl) rfl); exact rfl
        apply seq_gcall (hg := rfl) (hl := rfl) (ht := rfl); exact refIsName_c; exact rfl
        apply seq_guard (hd := rfl) (hl := rfl); exact do_unOp rfl rfl; exact rfl
        apply seq_plain; exact do_pick_f rfl rfl; exact rfl
        apply seq_nil
        exact jp_of (by repeat (first | exact sub_nil | apply sub_cons rfl))
    refine ct_cond rfl (fun h2 => ?_) (fun h2 => ?_)
    · have er : posE l[i] = 8 := posE_8 (by rw [← hZ]; exact h2)
      apply ct_seq
      apply ct_region
      apply seq_plain; exact do_assign rfl; exact rfl
      apply seq_nil
      apply ct_ret
      refine fin_flat hc rfl rfl ⟨?_, rfl⟩
      rw [bad (by rw [er]; decide), er]; rfl
    rw [h2] at hZ
    apply ct_skip
    apply ct_seq
    apply ct_seq
    apply ct_draw (by assumption); decide +kernel
    apply sd_plain (hfree := rfl); intro _; exact do_move rfl; exact rfl
    apply sd_plain (hfree := rfl); intro _; exact do_move rfl; exact rfl
    apply sd_plain (hfree := rfl); intro _; exact do_indexAddrS rfl rfl rfl (by exact idx_nat (by omega)); exact rfl
    apply sd_plain (hfree := rfl); intro _; exact do_fieldAddr rfl rfl; exact rfl
    apply sd_look (hfree := rfl); exact do_load rfl (by exact ext_get_old (by assumption) (by assumption)) rfl (by exact pt_sl1 (by assumption) (by omega) (Nat.le_of_ble_eq_true rfl) rfl); exact rfl
    apply sd_plain (hfree := rfl); intro _; exact do_move rfl; exact rfl
    apply sd_plain (hfree := rfl); intro _; exact do_move rfl; exact rfl
    apply sd_plain (hfree := rfl); intro _; exact do_indexAddrS rfl rfl rfl (by exact idx_nat (by omega)); exact rfl
    apply sd_plain (hfree := rfl); intro _; exact do_fieldAddr rfl rfl; exact rfl
    apply sd_look (hfree := rfl); exact do_load rfl (by exact ext_get_old (by assumption) (by assumption)) rfl (by exact pt_sl1 (by assumption) (by omega) (Nat.le_of_ble_eq_true rfl) rfl); exact rfl
    apply sd_plain (hfree := rfl); intro _; exact do_binStr rfl rfl rfl; exact rfl
    apply sd_nil
    simp only [List.map_nil, List.append_nil]
    refine ct_cond rfl (fun h3 => ?_) (fun h3 => ?_)
    · have h3 : byteL l[i].debit.data.toList l[i].credit.data.toList = true := h3
      rw [bytes_eq] at h3
      have er : posE l[i] = 9 := posE_9 hZ.symm h3
      apply ct_seq
      apply ct_region
      apply seq_plain; exact do_assign rfl; exact rfl
      apply seq_nil
      apply ct_ret
      refine fin_flat hc rfl rfl ⟨?_, rfl⟩
      rw [bad (by rw [er]; decide), er]; rfl
    have h3 : byteL l[i].debit.data.toList l[i].credit.data.toList = false := h3
    rw [bytes_eq] at h3
    have er := posE_3 hZ.symm h3
    apply ct_skip
    apply ct_seq
    apply ct_region
    apply seq_plain; exact do_move rfl; exact rfl
    apply seq_plain; exact do_move rfl; exact rfl
    apply seq_plain; exact do_indexAddrS rfl rfl rfl (by exact idx_nat (by omega)); exact rfl
    apply seq_plain; exact do_fieldAddr rfl rfl; exact rfl
    apply seq_plain; exact do_load rfl (by exact ext_get_old (by assumption) (by assumption)) rfl (by exact pt_sl1 (by assumption) (by omega) (Nat.le_of_ble_eq_true rfl) rfl); exact rfl
    apply seq_call (ht := rfl); exact outside24; exact rfl
    apply seq_nil
    refine ct_cond rfl (fun h4 => ?_) (fun h4 => ?_)
    · have h4 : outL l[i].amt 1 999999999 = true := h4
      rw [h4] at er
      have er : posE l[i] = 3 := er
      apply ct_seq
      apply ct_region
      apply seq_plain; exact do_assign rfl; exact rfl
      apply seq_nil
      apply ct_ret
      refine fin_flat hc rfl rfl ⟨?_, rfl⟩
      rw [bad (by rw [er]; decide), er]; rfl
    have h4 : outL l[i].amt 1 999999999 = false := h4
    rw [h4] at er
    have er : posE l[i] = 0 := er
    apply ct_skip
    apply ct_region
    apply seq_plain; exact do_move rfl; exact rfl
    apply seq_plain; exact do_succ rfl (by omega); exact rfl
    apply seq_plain; exact do_assign rfl; exact rfl
    apply seq_nil
    refine lt_to (by repeat (first | exact sub_nil | apply sub_cons rfl)) (.refl _) (ih (i + 1) (by omega) (by omega) fun j hj => ?_)
    rcases Nat.lt_or_ge j i with h | h
    · exact hJ j h
    · obtain rfl : j = i := by omega
      rw [ee]; exact er
  have h1 : i = l.length := by simp at h1; omega
  subst h1
  apply ct_exit
  apply exit_eq; exact rfl
  apply ct_seq
  apply ct_region
  apply seq_plain; exact do_assign rfl; exact rfl
  apply seq_nil
  apply ct_ret
  refine fin_flat hc rfl rfl ⟨?_, rfl⟩
  unfold possE
  rw [if_neg h0, restG_none hJ]; rfl
def shortP9 (l : List Po) : Bool := ((l.take 257).all fun x => !longB x.debit x.credit) && decide ((l.length : Int) ≤ 259)
set_option maxHeartbeats 4000000 in
theorem shortPostings_c {H : AHeap} {q : Option Addr} {c : Nat} {l : List Po} (hs : SlAt H 3 po q l) (hn : l.length < 1000000000) :
    Ret Tryz.prog 80 [.slice q l.length c] H (.bool (shortP9 l)) H := by
  refine fn_start Tryz.func80 rfl rfl rfl fun hc => ?_
  apply ct_seq
  apply ct_region
  apply seq_plain; exact do_assign rfl; exact rfl
  apply seq_nil
  apply ct_seq
  apply ct_seq
  apply ct_region
  apply seq_plain; exact do_assign rfl; exact rfl
  apply seq_nil
  apply ct_block
  apply ct_loop
  refine lt_up (fun i => [(0, .slice q l.length c), (3, I i)]) (fun i => ∀ j (hj : j < l.length), j < i → longB l[j].debit l[j].credit = false) (min l.length 257) (fun i hi hJ ih => ?_) 0 (by omega) (by intros; omega) (by repeat (first | exact sub_nil | apply sub_cons rfl))
  apply ct_seq
  apply ct_seq
  apply ct_region
  apply seq_plain; exact do_move rfl; exact rfl
  apply seq_plain; exact do_move rfl; exact rfl
  apply seq_plain; exact do_lenS rfl rfl rfl; exact rfl
  apply seq_plain; exact do_binInt rfl rfl rfl trivial; exact rfl
  apply seq_plain; exact do_move rfl; exact rfl
  refine seq_J [(0, .slice q l.length c), (3, I i), (11, .bool (decide (i < l.length ∧ i ≤ 256)))] (ds := []) (h := ext H H.fresh []) ?_ ?_
  · refine seq_gsplit rfl rfl (fun u1 => ?_) (fun u1 => ?_)
    · have u1' : (i : Int) < l.length := of_decide_eq_true u1
      have e1 : decide (i < l.length ∧ i ≤ 256) = decide ((i : Int) ≤ 256) := by apply decide_eq_decide.2; omega
      rw [e1]
      apply seq_guard (hd := rfl) (hl := rfl); exact do_move rfl; exact rfl
      apply seq_guard (hd := rfl) (hl := rfl); exact do_binInt rfl rfl rfl trivial; exact rfl
      apply seq_plain; exact do_pick_t rfl rfl; exact rfl
      apply seq_nil
      exact jp_of (by repeat (first | exact sub_nil | apply sub_cons rfl))
    · have u1' : ¬ (i : Int) < l.length := of_decide_eq_false u1
      have e1 : decide (i < l.length ∧ i ≤ 256) = false := by apply decide_eq_false; omega
      rw [e1]
      apply seq_passed (hd := rfl) (hl := rfl) (hb := rfl); exact rfl
      apply seq_passed (hd := rfl) (hl := rfl) (hb := rfl); exact rfl
      apply seq_plain; exact do_pick_f rfl rfl; exact rfl
      apply seq_nil
      exact jp_of (by repeat (first | exact sub_nil | apply sub_cons rfl))
  refine ct_cond rfl (fun h1 => ?_) (fun h1 => ?_)
  · have h1 : i < l.length ∧ i ≤ 256 := of_decide_eq_true h1
    obtain ⟨h1, h1m⟩ := h1
    obtain ⟨b, o, cs, z, s, ro, rfl, hg, hw⟩ := hs.out (by intro e; rw [e] at h1; simp at h1)
    obtain ⟨Z, hZ⟩ : ∃ Z, Z = longB l[i].debit l[i].credit := ⟨_, rfl⟩
    apply ct_skip
    apply ct_seq
    apply ct_block
    apply ct_seq
    apply ct_region
    apply seq_plain; exact do_move rfl; exact rfl
    apply seq_plain; exact do_move rfl; exact rfl
    apply seq_plain; exact do_indexAddrS rfl rfl rfl (by exact idx_nat (by omega)); exact rfl
    apply seq_plain; exact do_fieldAddr rfl rfl; exact rfl
    apply seq_plain; exact do_load rfl (by exact ext_get_old (by assumption) (by assumption)) rfl (by exact pt_sl1 (by assumption) (by omega) (Nat.le_of_ble_eq_true rfl) rfl); exact rfl
    apply seq_plain; exact do_lenStr rfl rfl rfl; exact rfl
    apply seq_plain; exact do_binInt rfl rfl rfl trivial; exact rfl
    apply seq_plain; exact do_move rfl; exact rfl
    refine seq_J [(0, .slice (some ⟨b, o, none⟩) l.length c), (3, I i), (29, .bool Z)] (ds := []) (h := ext H H.fresh []) ?_ ?_
    · refine seq_gsplit rfl rfl (fun u1 => ?_) (fun u1 => ?_)
      · have u1 : decide ((l[i].debit.size : Int) > 40) = true := u1
        have e1 : Z = true := by rw [hZ]; unfold longB; rw [u1]; rfl
        rw [e1]
        apply seq_passed (hd := rfl) (hl := rfl) (hb := rfl); exact rfl
        apply seq_passed (hd := rfl) (hl := rfl) (hb := rfl); exact rfl
        apply seq_passed (hd := rfl) (hl := rfl) (hb := rfl); exact rfl
        apply seq_passed (hd := rfl) (hl := rfl) (hb := rfl); exact rfl
        apply seq_passed (hd := rfl) (hl := rfl) (hb := rfl); exact rfl
        apply seq_passed (hd := rfl) (hl := rfl) (hb := rfl); exact rfl
        apply seq_passed (hd := rfl) (hl := rfl) (hb := rfl); exact rfl
        apply seq_plain; exact do_pick_t rfl rfl; exact rfl
        apply seq_nil
        exact jp_of (by repeat (first | exact sub_nil | apply sub_cons rfl))
      · have u1 : decide ((l[i].debit.size : Int) > 40) = false := u1
        have e1 : Z = decide ((l[i].credit.size : Int) > 40) := by rw [hZ]; unfold longB; rw [u1]; rfl
        rw [e1]
        apply seq_guard (hd := rfl) (hl := rfl); exact do_move rfl; exact rfl
        apply seq_guard (hd := rfl) (hl := rfl); exact do_move rfl; exact rfl
        apply seq_guard (hd := rfl) (hl := rfl); exact do_indexAddrS rfl rfl rfl (by exact idx_nat (by omega)); exact rfl
        apply seq_guard (hd := rfl) (hl := rfl); exact do_fieldAddr rfl rfl; exact rfl
        apply seq_guard (hd := rfl) (hl := rfl); exact do_load rfl (by exact ext_get_old (by assumption) (by assumption)) rfl (by exact pt_sl1 (by assumption) (by omega) (Nat.le_of_ble_eq_true rfl) rfl); exact rfl
        apply seq_guard (hd := rfl) (hl := rfl); exact do_lenStr rfl rfl rfl; exact rfl
        apply seq_guard (hd := rfl) (hl := rfl); exact do_binInt rfl rfl rfl trivial; exact rfl
        apply seq_plain; exact do_pick_f rfl rfl; exact rfl
        apply seq_nil
        exact jp_of (by repeat (first | exact sub_nil | apply sub_cons rfl))
    refine ct_cond rfl (fun h2 => ?_) (fun h2 => ?_)
    · have h2 : Z = true := h2
      apply ct_seq
      apply ct_region
      apply seq_plain; exact do_assign rfl; exact rfl
      apply seq_nil
      apply ct_ret
      refine fin_flat hc rfl rfl ⟨?_, rfl⟩
      unfold shortP9
      rw [all_bad (p := fun x : Po => !longB x.debit x.credit) h1 (by omega : i < 257) (by show (!longB l[i].debit l[i].credit) = false; rw [← hZ, h2]; rfl)]; rfl
    have h2 : Z = false := h2
    apply ct_skip
    apply ct_region
    apply seq_plain; exact do_move rfl; exact rfl
    apply seq_plain; exact do_succ rfl (by omega); exact rfl
    apply seq_plain; exact do_assign rfl; exact rfl
    apply seq_nil
    refine lt_sub (by repeat (first | exact sub_nil | apply sub_cons rfl)) (ih (i + 1) (by omega) (by omega) fun j hj hji => ?_)
    rcases Nat.lt_or_ge j i with h | h
    · exact hJ j hj h
    · obtain rfl : j = i := by omega
      rw [← hZ]; exact h2
  have h1 : ¬ (i < l.length ∧ i ≤ 256) := of_decide_eq_false h1
  apply ct_exit
  apply exit_eq; exact rfl
  apply ct_seq
  apply ct_region
  apply seq_plain; exact do_move rfl; exact rfl
  apply seq_plain; exact do_lenS rfl rfl rfl; exact rfl
  apply seq_plain; exact do_binInt rfl rfl rfl trivial; exact rfl
  apply seq_plain; exact do_assign rfl; exact rfl
  apply seq_nil
  apply ct_ret
  refine fin_flat hc rfl rfl ⟨?_, rfl⟩
  unfold shortP9
  rw [all_good (p := fun x : Po => !longB x.debit x.credit) (n := 257) fun j hj hji => by show (!longB l[j].debit l[j].credit) = true; rw [hJ j hj (by omega)]; rfl]; rfl
end Go.Proofs.YtfegloadbajbhaaGreatDoor
