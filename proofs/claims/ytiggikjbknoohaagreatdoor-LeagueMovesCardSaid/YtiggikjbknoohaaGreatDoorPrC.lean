/- Contracts: the reference's check of divisions. -/
import Derived.Test.YtiggikjbknoohaaGreatDoorPrB
import Derived.Test.YtiggikjbknoohaaGreatDoorStB
noncomputable section
namespace Go.Proofs.YtiggikjbknoohaaGreatDoor
open Go Go.Den
set_option maxRecDepth 100000

structure SzW (H : AHeap) (q : Option Addr) (d : List Sz) : Prop where
  at_ : SlAt H 1 sz q d
  each : ∀ x ∈ d, WdG H 1 s1 x.p x.c x.l
theorem SzW.ext {H H' : AHeap} {q : Option Addr} {d : List Sz} (h : SzW H q d) (hE : Ext H H') : SzW H' q d := ⟨h.at_.ext hE, fun x hx => (h.each x hx).ext hE⟩
theorem SzW.to {H : AHeap} {q : Option Addr} {d : List Sz} (h : SzW H q d) : SzAt H q d := ⟨h.at_, fun x hx => (h.each x hx).slAt⟩
abbrev dl (d : List Sz) : List (List ByteArray) := d.map (·.l)

theorem divE_step {seen : List ByteArray} {d : List Sz} {i : Nat} (h : i < d.length) : divE seen ((dl d).drop i) = if decide ((d[i].l.length : Int) > 24) = true then 5 else if rowE seen d[i].l ≠ 0 then rowE seen d[i].l else divE (seen ++ d[i].l) ((dl d).drop (i + 1)) := by
  have hl : i < (dl d).length := by simpa using h
  rw [List.drop_eq_getElem_cons hl]
  simp only [divE, List.getElem_map]
theorem rowE_step {seen row : List ByteArray} {j : Nat} (h : j < row.length) : rowE seen (row.drop j) = if nameB row[j] = false then 8 else if memK seen row[j] = true then 9 else rowE (seen ++ [row[j]]) (row.drop (j + 1)) := by
  rw [List.drop_eq_getElem_cons h]
  simp only [rowE]

set_option maxHeartbeats 2000000 in
theorem refCheckDivisions_c {H : AHeap} {q : Option Addr} {c : Nat} {d : List Sz} (hd : SzW H q d) (hs : shortD d = true) :
    Ret Tryz.prog 31 [.slice q d.length c] H (I (divsE (dl d))) H := by
  have hel : (dl d).length = d.length := List.length_map _
  refine fn_start Tryz.func31 rfl rfl rfl fun hc => ?_
  apply ct_seq
  apply ct_region
  apply seq_plain; exact do_assign rfl; exact rfl
  apply seq_nil
  apply ct_seq
  apply ct_seq
  apply ct_region
  apply seq_plain; exact do_move rfl; exact rfl
  apply seq_plain; exact do_lenS rfl rfl rfl; exact rfl
  apply seq_plain; exact do_binInt rfl rfl rfl trivial; exact rfl
  apply seq_nil
  refine ct_cond rfl (fun h0 => ?_) (fun h0 => ?_)
  · have h0 : d.length = 0 := by simp at h0; rw [h0]; rfl
    apply ct_seq
    apply ct_region
    apply seq_plain; exact do_assign rfl; exact rfl
    apply seq_nil
    apply ct_ret
    refine fin_flat hc rfl rfl ⟨?_, rfl⟩
    unfold divsE
    rw [if_pos (by omega)]; rfl
  have h0 : d.length ≠ 0 := by simp at h0; exact fun e => h0 (List.length_eq_zero_iff.1 e)
  apply ct_skip
  apply ct_seq
  apply ct_seq
  apply ct_region
  apply seq_plain; exact do_move rfl; exact rfl
  apply seq_plain; exact do_lenS rfl rfl rfl; exact rfl
  apply seq_plain; exact do_binInt rfl rfl rfl trivial; exact rfl
  apply seq_nil
  refine ct_cond rfl (fun h1 => ?_) (fun h1 => ?_)
  · apply ct_seq
    apply ct_region
    apply seq_plain; exact do_assign rfl; exact rfl
    apply seq_nil
    apply ct_ret
    refine fin_flat hc rfl rfl ⟨?_, rfl⟩
    unfold divsE
    rw [if_neg (by omega), hel, if_pos h1]; rfl
  have e0 : divsE (dl d) = divE [] (dl d) := by
    unfold divsE
    rw [if_neg (by omega), hel, if_neg (by rw [h1]; simp)]
  have h1 : d.length ≤ 24 := by simp at h1; omega
  rw [e0]
  have hrow : ∀ i (h : i < d.length), d[i].l.length ≤ 27 := fun i h => by
    unfold shortD at hs
    simp only [Bool.and_eq_true, List.all_eq_true] at hs
    have := hs.1 d[i] (List.mem_take_iff_getElem.2 ⟨i, by omega, rfl⟩)
    unfold rowS at this
    simp only [Bool.and_eq_true, decide_eq_true_eq] at this
    exact this.1
  apply ct_skip
  apply ct_seq
  apply ct_region
  apply seq_plain; exact do_assign rfl; exact rfl
  apply seq_nil
  apply ct_seq
  apply ct_seq
  apply ct_region
  apply seq_plain; exact do_assign rfl; exact rfl
  apply seq_nil
  apply ct_block
  apply ct_loop
  refine lt_meas (α := Nat × List ByteArray × Value × List (Option ABlk)) (fun a => [(0, .slice q d.length c), (3, a.2.2.1), (4, I a.1)]) (fun a => ext H H.fresh a.2.2.2) (fun a => a.1 ≤ d.length ∧ Lst H a.2.2.2 1 s1 0 a.2.2.1 a.2.1 ∧ a.2.1.length ≤ a.1 * 24 ∧ divE [] (dl d) = divE a.2.1 ((dl d).drop a.1)) (fun a => d.length - a.1) (fun a ha ih => ?_) (0, [], .slice none 0 0, []) ⟨by omega, .nil, by simp, rfl⟩ (by repeat (first | exact sub_nil | apply sub_cons rfl)) (.refl _)
  obtain ⟨i, seen, v, L⟩ := a
  obtain ⟨hi, hv, hsl, hdv⟩ := ha
  simp only at hi hv hsl hdv ih ⊢
  have ih' := fun i' s' v' L' a1 a2 a3 a4 a5 => ih (i', s', v', L') a1 ⟨a2, a3, a4, a5⟩
  simp only at ih'
  clear ih
  apply ct_seq
  apply ct_seq
  apply ct_region
  apply seq_plain; exact do_move rfl; exact rfl
  apply seq_plain; exact do_move rfl; exact rfl
  apply seq_plain; exact do_lenS rfl rfl rfl; exact rfl
  apply seq_plain; exact do_binInt rfl rfl rfl trivial; exact rfl
  apply seq_nil
  refine ct_cond rfl (fun h2 => ?_) (fun h2 => ?_)
  · simp only [decide_eq_true_eq, Int.ofNat_lt] at h2
    obtain ⟨b, o, cs, z, s, ro, hq, hg, hw⟩ := hd.at_.out (by intro e; rw [e] at h2; simp at h2)
    have hx := (hd.each d[i] (List.getElem_mem h2)).slAt
    have hr27 := hrow i h2
    rw [divE_step h2] at hdv
    rw [hq] at ih' ⊢
    apply ct_skip
    apply ct_seq
    apply ct_block
    apply ct_seq
    apply ct_seq
    apply ct_region
    apply seq_plain; exact do_move rfl; exact rfl
    apply seq_plain; exact do_move rfl; exact rfl
    apply seq_plain; exact do_indexAddrS rfl rfl rfl (by exact idx_nat (by omega)); exact rfl
    apply seq_plain; exact do_load rfl (by exact ext_get_old (by assumption) (by assumption)) rfl (by exact sz_get (by assumption) (by omega)); exact rfl
    apply seq_plain; exact do_lenS rfl rfl rfl; exact rfl
    apply seq_plain; exact do_binInt rfl rfl rfl trivial; exact rfl
    apply seq_nil
    refine ct_cond rfl (fun h3 => ?_) (fun h3 => ?_)
    · rw [if_pos h3] at hdv
      apply ct_seq
      apply ct_region
      apply seq_plain; exact do_assign rfl; exact rfl
      apply seq_nil
      apply ct_ret
      refine fin_flat hc rfl rfl ⟨?_, rfl⟩
      rw [hdv]; rfl
    rw [if_neg (by rw [h3]; simp)] at hdv
    have h24 : d[i].l.length ≤ 24 := by simp at h3; omega
    apply ct_skip
    apply ct_seq
    apply ct_region
    apply seq_plain; exact do_assign rfl; exact rfl
    apply seq_nil
    apply ct_block
    apply ct_loop
    refine lt_meas (α := Nat × List ByteArray × Value × List (Option ABlk)) (fun a => [(0, .slice (some ⟨b, o, none⟩) d.length c), (3, a.2.2.1), (4, I i), (5, I a.1)]) (fun a => ext H H.fresh a.2.2.2) (fun a => a.1 ≤ d[i].l.length ∧ Lst H a.2.2.2 1 s1 0 a.2.2.1 a.2.1 ∧ a.2.1.length ≤ i * 24 + a.1 ∧ ∀ r, rowE a.2.1 (d[i].l.drop a.1) = r → divE [] (dl d) = if r ≠ 0 then r else divE (a.2.1 ++ d[i].l.drop a.1) ((dl d).drop (i + 1))) (fun a => d[i].l.length - a.1) (fun a ha ih => ?_) (0, seen, v, L) ⟨by omega, hv, by simpa using hsl, fun r hr => by subst hr; simpa using hdv⟩ (by repeat (first | exact sub_nil | apply sub_cons rfl)) (.refl _)
    clear hv hsl hdv
    obtain ⟨j, seen, v, L⟩ := a
    obtain ⟨hj, hv, hsl, hdv⟩ := ha
    simp only at hj hv hsl hdv ih ⊢
    have ih2 := fun i' s' v' L' a1 a2 a3 a4 a5 => ih (i', s', v', L') a1 ⟨a2, a3, a4, a5⟩
    simp only at ih2
    clear ih
    obtain ⟨pv, rfl, hvs, _⟩ := hv.slice (lo := H.fresh) (fun _ => rfl)
    apply ct_seq
    apply ct_seq
    apply ct_region
    apply seq_plain; exact do_move rfl; exact rfl
    apply seq_plain; exact do_move rfl; exact rfl
    apply seq_plain; exact do_move rfl; exact rfl
    apply seq_plain; exact do_indexAddrS rfl rfl rfl (by exact idx_nat (by omega)); exact rfl
    apply seq_plain; exact do_load rfl (by exact ext_get_old (by assumption) (by assumption)) rfl (by exact sz_get (by assumption) (by omega)); exact rfl
    apply seq_plain; exact do_lenS rfl rfl rfl; exact rfl
    apply seq_plain; exact do_binInt rfl rfl rfl trivial; exact rfl
    apply seq_nil
    refine ct_cond rfl (fun h4 => ?_) (fun h4 => ?_)
    · simp only [decide_eq_true_eq, Int.ofNat_lt] at h4
      obtain ⟨b2, o2, cs2, z2, s2, ro2, hp2, hg2, hw2⟩ := hx.out (by intro e; rw [e] at h4; simp at h4)
      have hst := rowE_step (seen := seen) h4
      apply ct_skip
      apply ct_seq
      apply ct_block
      apply ct_seq
      apply ct_seq
      apply ct_region
      apply seq_plain; exact do_move rfl; exact rfl
      apply seq_plain; exact do_move rfl; exact rfl
      apply seq_plain; exact do_indexAddrS rfl rfl rfl (by exact idx_nat (by omega)); exact rfl
      apply seq_plain; exact do_load rfl (by exact ext_get_old (by assumption) (by assumption)) rfl (by exact sz_get (by assumption) (by omega)); exact rfl
      apply seq_plain; exact do_move rfl; exact rfl
      rw [hp2]
      apply seq_plain; exact do_indexAddrS rfl rfl rfl (by exact idx_nat (by omega)); exact rfl
      apply seq_plain; exact do_load rfl (by exact ext_get_old (by assumption) (by assumption)) rfl (by exact pt_sl0 (by assumption) (by omega)); exact rfl
      apply seq_call (ht := rfl); exact refIsName_c; exact rfl
      apply seq_plain; exact do_unOp rfl rfl; exact rfl
      apply seq_nil
      cases hn : nameB d[i].l[j] with
      | false =>
        refine ct_cond_t rfl rfl ?_
        apply ct_seq
        apply ct_region
        apply seq_plain; exact do_assign rfl; exact rfl
        apply seq_nil
        apply ct_ret
        refine fin_flat hc rfl rfl ⟨?_, rfl⟩
        rw [hdv 8 (by rw [hst, if_pos hn])]; rfl
      | true =>
        rw [if_neg (by rw [hn]; simp)] at hst
        refine ct_cond_f rfl rfl ?_
        apply ct_skip
        apply ct_seq
        apply ct_seq
        apply ct_region
        apply seq_plain; exact do_move rfl; exact rfl
        apply seq_plain; exact do_move rfl; exact rfl
        apply seq_plain; exact do_move rfl; exact rfl
        apply seq_plain; exact do_indexAddrS rfl rfl rfl (by exact idx_nat (by omega)); exact rfl
        apply seq_plain; exact do_load rfl (by exact ext_get_old (by assumption) (by assumption)) rfl (by exact sz_get (by assumption) (by omega)); exact rfl
        apply seq_plain; exact do_move rfl; exact rfl
        rw [hp2]
        apply seq_plain; exact do_indexAddrS rfl rfl rfl (by exact idx_nat (by omega)); exact rfl
        apply seq_plain; exact do_load rfl (by exact ext_get_old (by assumption) (by assumption)) rfl (by exact pt_sl0 (by assumption) (by omega)); exact rfl
        apply seq_call (ht := rfl); exact hasWord_c (l := seen) hvs (by omega); exact rfl
        apply seq_nil
        cases hm : memK seen d[i].l[j] with
        | true =>
          refine ct_cond_t rfl rfl ?_
          apply ct_seq
          apply ct_region
          apply seq_plain; exact do_assign rfl; exact rfl
          apply seq_nil
          apply ct_ret
          refine fin_flat hc rfl rfl ⟨?_, rfl⟩
          rw [hdv 9 (by rw [hst, if_pos hm])]; rfl
        | false =>
          rw [if_neg (by rw [hm]; simp)] at hst
          refine ct_cond_f rfl rfl ?_
          apply ct_skip
          apply ct_region
          apply seq_plain; exact do_move rfl; exact rfl
          apply seq_plain; exact do_move rfl; exact rfl
          apply seq_plain; exact do_move rfl; exact rfl
          apply seq_plain; exact do_indexAddrS rfl rfl rfl (by exact idx_nat (by omega)); exact rfl
          apply seq_plain; exact do_load rfl (by exact ext_get_old (by assumption) (by assumption)) rfl (by exact sz_get (by assumption) (by omega)); exact rfl
          apply seq_plain; exact do_move rfl; exact rfl
          rw [hp2]
          apply seq_plain; exact do_indexAddrS rfl rfl rfl (by exact idx_nat (by omega)); exact rfl
          apply seq_plain; exact do_load rfl (by exact ext_get_old (by assumption) (by assumption)) rfl (by exact pt_sl0 (by assumption) (by omega)); exact rfl
          apply seq_newS; exact do_buildSlice rfl rfl rfl rfl rfl rfl rfl; exact rfl
          refine seq_grow (xs := [d[i].l[j]]) hc (hv.app _) (by omega) (fun _ => rfl) (fun _ => rfl) rfl rfl rfl rfl rfl rfl (ext_get_new List.getElem?_concat_length) rfl (by simp) ?_ (Nat.ne_of_beq_eq_false rfl) (Nat.ne_of_beq_eq_false rfl) rfl (fun v' L3 hv' hst3 hlen3 => ?_)
          · exact Nat.le_trans (Nat.mul_le_mul_right _ (by simp only [List.length_cons, List.length_nil]; omega : _ ≤ 30000)) (Nat.le_of_ble_eq_true rfl)
          apply seq_plain; exact do_assign rfl; exact rfl
          apply seq_nil
          apply ct_region
          apply seq_plain; exact do_move rfl; exact rfl
          apply seq_plain; exact do_succ rfl (by omega); exact rfl
          apply seq_plain; exact do_assign rfl; exact rfl
          apply seq_nil
          exact lt_sub (by repeat (first | exact sub_nil | apply sub_cons rfl)) (ih2 (j + 1) (seen ++ [d[i].l[j]]) v' L3 (by omega) (by omega) hv' (by simp; omega) (fun r hr => by rw [hdv r (hst.trans hr), List.append_assoc]; simp only [List.singleton_append]; rw [← List.drop_eq_getElem_cons h4]))
    · simp only [decide_eq_false_iff_not, Int.ofNat_lt] at h4
      have hjl : j = d[i].l.length := by omega
      apply ct_exit
      apply exit_eq; exact rfl
      apply ct_region
      apply seq_plain; exact do_move rfl; exact rfl
      apply seq_plain; exact do_succ rfl (by omega); exact rfl
      apply seq_plain; exact do_assign rfl; exact rfl
      apply seq_nil
      refine lt_sub (by repeat (first | exact sub_nil | apply sub_cons rfl)) (ih' (i + 1) seen _ L (by omega) (by omega) hv (by omega) ?_)
      have := hdv 0 (by rw [hjl, List.drop_length]; rfl)
      rw [this, hjl, List.drop_length, List.append_nil]; rfl
  · simp only [decide_eq_false_iff_not, Int.ofNat_lt] at h2
    apply ct_exit
    apply exit_eq; exact rfl
    apply ct_seq
    apply ct_region
    apply seq_plain; exact do_assign rfl; exact rfl
    apply seq_nil
    apply ct_ret
    refine fin_flat hc rfl rfl ⟨?_, rfl⟩
    rw [hdv, List.drop_eq_nil_iff.2 (by omega)]; rfl
end Go.Proofs.YtiggikjbknoohaaGreatDoor
