/- Contracts: the program's Promote. -/
import Derived.Test.YtiggikjbknoohaaGreatDoorPrF
noncomputable section
namespace Go.Proofs.YtiggikjbknoohaaGreatDoor
open Go Go.Den
set_option maxRecDepth 100000

def proE (d : List Sz) (k : Int) : Int := firstL [divsE (dl d), moveE (dl d) k]
theorem proE_bad {d : List Sz} {k : Int} (h : divsE (dl d) ≠ 0) : proE d k = divsE (dl d) := by
  unfold proE
  rw [firstL_cons, if_pos h]
theorem proE_ok {d : List Sz} {k : Int} (h : divsE (dl d) = 0) : proE d k = moveE (dl d) k := by
  unfold proE
  rw [firstL_cons, if_neg (fun g => g h), firstL_cons]
  by_cases h2 : moveE (dl d) k = 0
  · rw [if_neg (fun g => g h2), h2]; rfl
  · rw [if_pos h2]
theorem divs_first {d : List Sz} : divsE (dl d) = firstL [whenL ((d.length : Int) == 0) 12, whenL (decide ((d.length : Int) > 24)) 5, divE [] (dl d)] := by
  have hel : (dl d).length = d.length := List.length_map _
  unfold divsE
  rw [hel]
  by_cases h0 : d.length = 0
  · rw [if_pos h0, h0]; rfl
  · have e0 : ((d.length : Int) == 0) = false := by simp; exact fun e => h0 (by rw [e]; rfl)
    rw [if_neg h0, e0]
    by_cases h1 : decide ((d.length : Int) > 24) = true
    · rw [if_pos h1, h1]; rfl
    · have e1 : decide ((d.length : Int) > 24) = false := by simpa using h1
      rw [if_neg h1, e1]
      show _ = firstL [0, 0, divE [] (dl d)]
      rw [firstL_cons, if_neg (fun g => g rfl), firstL_cons, if_neg (fun g => g rfl), firstL_cons]
      by_cases h2 : divE [] (dl d) = 0
      · rw [if_neg (fun g => g h2), h2]; rfl
      · rw [if_pos h2]

set_option maxHeartbeats 16000000 in
theorem promote_c {H : AHeap} {q : Option Addr} {c : Nat} {d : List Sz} {k : Int} (hd : SzW H q d) (hs : shortD d = true) :
    CallT Tryz.prog 30 [.slice q d.length c, I k] H (fun v h' => (proE d k ≠ 0 ∧ v = .tuple ⟨[.slice none 0 0, I (proE d k)]⟩ ∧ h' = H) ∨
      (proE d k = 0 ∧ ∃ (n : Nat) (p : Option Addr) (cp : Nat) (out : List Sz), k = n ∧ v = .tuple ⟨[.slice p out.length cp, I 0]⟩ ∧ SzAt h' p out ∧ dl out = (List.range d.length).map (proL (dl d) n) ∧ Ext H h' ∧ Closed h' ∧ h'.low ≤ h'.fresh ∧ h'.low ≤ H.low)) := by
  have hel : (dl d).length = d.length := List.length_map _
  refine fn_start Tryz.func30 rfl rfl rfl fun hc => ?_
  apply ct_seq
  apply ct_region
  apply seq_newP; exact do_box rfl rfl rfl; exact rfl
  apply seq_plain; exact do_assign rfl; exact rfl
  apply seq_plain; exact do_assign rfl; exact rfl
  apply seq_nil
  apply ct_seq
  apply ct_seq
  apply ct_region
  apply seq_plain; exact do_move rfl; exact rfl
  apply seq_plain; exact do_lenS rfl rfl rfl; exact rfl
  apply seq_plain; exact do_binInt rfl rfl rfl trivial; exact rfl
  apply seq_call (ht := rfl); exact when85; exact rfl
  apply seq_plain; exact do_move rfl; exact rfl
  apply seq_plain; exact do_lenS rfl rfl rfl; exact rfl
  apply seq_plain; exact do_binInt rfl rfl rfl trivial; exact rfl
  apply seq_call (ht := rfl); exact when85; exact rfl
  apply seq_newS; exact do_buildSlice rfl rfl rfl rfl rfl rfl rfl; exact rfl
  apply seq_call (ht := rfl); exact first84 (l := [_, _]) (slAt_map (ext_get_new rfl)) (by simp); exact rfl
  apply seq_plain; exact do_assign rfl; exact rfl
  apply seq_nil
  apply ct_seq
  apply ct_region
  apply seq_plain; exact do_move rfl; exact rfl
  apply seq_plain; exact do_binInt rfl rfl rfl trivial; exact rfl
  apply seq_nil
  refine ct_cond rfl (fun h0 => ?_) (fun h0 => ?_)
  · have h0 : firstL [whenL ((d.length : Int) == 0) 12, whenL (decide ((d.length : Int) > 24)) 5] ≠ 0 := by simpa using h0
    have e : divsE (dl d) = firstL [whenL ((d.length : Int) == 0) 12, whenL (decide ((d.length : Int) > 24)) 5] := by
      rw [divs_first, firstL_cons, firstL_cons (a := whenL ((d.length : Int) == 0) 12)]
      by_cases h1 : whenL ((d.length : Int) == 0) 12 = 0
      · rw [firstL_cons, firstL_cons (a := whenL (decide ((d.length : Int) > 24)) 5)]
        by_cases h2 : whenL (decide ((d.length : Int) > 24)) 5 = 0
        · exfalso; apply h0
          rw [h1, h2]; rfl
        · simp only [if_pos h2]
      · simp only [if_pos h1]
    apply ct_seq
    apply ct_region
    apply seq_plain; exact do_move rfl; exact rfl
    apply seq_plain; exact do_assign rfl; exact rfl
    apply seq_plain; exact do_assign rfl; exact rfl
    apply seq_nil
    apply ct_ret
    refine fin_flat hc rfl rfl (.inl ⟨?_, ?_, rfl⟩)
    · rw [proE_bad (by rw [e]; exact h0), e]; exact h0
    · rw [proE_bad (by rw [e]; exact h0), e]; rfl
  have h0 : firstL [whenL ((d.length : Int) == 0) 12, whenL (decide ((d.length : Int) > 24)) 5] = 0 := by simpa using h0
  have hz := firstL_zero h0
  have z1 := whenL_zero (hz _ (List.mem_cons_self ..)) (by decide)
  have z2 := whenL_zero (hz (whenL (decide ((d.length : Int) > 24)) 5) (by simp)) (by decide)
  have n1 : 1 ≤ d.length := by simp at z1; exact Nat.pos_of_ne_zero fun e => z1 (List.length_eq_zero_iff.1 e)
  have n24 : d.length ≤ 24 := by simp at z2; omega
  have e0 : divsE (dl d) = divE [] (dl d) := by
    unfold divsE
    rw [if_neg (by omega), if_neg (by rw [hel]; simp; omega)]
  have hrow : ∀ i (h : i < d.length), d[i].l.length ≤ 27 := fun i h => by
    unfold shortD at hs
    simp only [Bool.and_eq_true, List.all_eq_true] at hs
    have := hs.1 d[i] (List.mem_take_iff_getElem.2 ⟨i, by omega, rfl⟩)
    unfold rowS at this
    simp only [Bool.and_eq_true, decide_eq_true_eq] at this
    exact this.1
  apply ct_skip
  apply ct_seq
  apply ct_region
  apply seq_newM; exact do_makeMap0; exact rfl
  apply seq_plain; exact do_assign rfl; exact rfl
  apply seq_nil
  apply ct_seq
  apply ct_seq
  apply ct_region
  apply seq_plain; exact do_move rfl; exact rfl
  apply seq_plain; exact do_lenS rfl rfl rfl; exact rfl
  apply seq_plain; exact do_move rfl; exact rfl
  apply seq_nil
  apply ct_block
  apply ct_loop
  obtain ⟨X, hX⟩ : ∃ X : ABlk, X = .cells [I (whenL ((d.length : Int) == 0) 12), I (whenL (decide ((d.length : Int) > 24)) 5)] 1 false false := ⟨_, rfl⟩
  refine lt_meas (α := Nat × List ByteArray × List (Option ABlk)) (fun a => [(0, .slice q d.length c), (3, .pointer (some ⟨nb H 0, 0, none⟩)), (7, .map (some (nb H 2))), (36, .slice q d.length c), (37, I d.length), (38, I a.1)]) (fun a => ext H H.fresh (some (.cells [I k] 0 false false) :: some X :: some (setM strV a.2.1) :: a.2.2)) (fun a => a.1 ≤ d.length ∧ a.2.1.length ≤ a.1 * 24 ∧ divE [] (dl d) = divE a.2.1 ((dl d).drop a.1)) (fun a => d.length - a.1) (fun a ha ih => ?_) (0, [], []) ⟨by omega, by simp, rfl⟩ (by repeat (first | exact sub_nil | apply sub_cons rfl)) (by rw [hX]; exact .refl _)
  obtain ⟨i, seen, R⟩ := a
  obtain ⟨hi, hsl, hdv⟩ := ha
  simp only at hi hsl hdv ih ⊢
  have ih' := fun i' s' R' a1 a2 a3 a4 => ih (i', s', R') a1 ⟨a2, a3, a4⟩
  simp only at ih'
  clear ih
  apply ct_seq
  apply ct_region
  apply seq_plain; exact do_binInt rfl rfl rfl trivial; exact rfl
  apply seq_nil
  apply ct_seq
  refine ct_cond rfl (fun h2 => ?_) (fun h2 => ?_)
  · simp only [decide_eq_true_eq, Int.ofNat_lt] at h2
    obtain ⟨b, o, cs, z, s, ro, hq, hg, hw⟩ := hd.at_.out (by intro e; rw [e] at h2; simp at h2)
    have hx := (hd.each d[i] (List.getElem_mem h2)).slAt
    have hr27 := hrow i h2
    rw [divE_step h2] at hdv
    rw [hq] at ih' ⊢
    apply ct_skip
    apply ct_seq
    apply ct_block
    apply ct_seq
    apply ct_region
    apply seq_plain; exact do_indexAddrS rfl rfl rfl (by exact idx_nat (by omega)); exact rfl
    apply seq_plain; exact do_load rfl (by exact ext_get_old (by assumption) (by assumption)) rfl (by exact sz_get (by assumption) (by omega)); exact rfl
    apply seq_plain; exact do_assign rfl; exact rfl
    apply seq_nil
    apply ct_seq
    apply ct_seq
    apply ct_region
    apply seq_plain; exact do_move rfl; exact rfl
    apply seq_plain; exact do_lenS rfl rfl rfl; exact rfl
    apply seq_plain; exact do_binInt rfl rfl rfl trivial; exact rfl
    apply seq_nil
    refine ct_cond rfl (fun h3 => ?_) (fun h3 => ?_)
    · rw [if_pos h3] at hdv
      have ep : proE d k = 5 := by rw [proE_bad (by rw [e0, hdv]; decide), e0, hdv]
      apply ct_seq
      apply ct_region
      apply seq_plain; exact do_assign rfl; exact rfl
      apply seq_plain; exact do_assign rfl; exact rfl
      apply seq_nil
      apply ct_ret
      refine fin_flat hc rfl rfl (.inl ⟨by rw [ep]; decide, by rw [ep]; rfl, rfl⟩)
    rw [if_neg (by rw [h3]; simp)] at hdv
    have h24 : d[i].l.length ≤ 24 := by simp at h3; omega
    apply ct_skip
    apply ct_seq
    apply ct_region
    apply seq_plain; exact do_move rfl; exact rfl
    apply seq_plain; exact do_lenS rfl rfl rfl; exact rfl
    apply seq_plain; exact do_move rfl; exact rfl
    apply seq_nil
    apply ct_block
    apply ct_loop
    refine lt_meas (α := Nat × List ByteArray × List (Option ABlk)) (fun a => [(0, .slice (some ⟨b, o, none⟩) d.length c), (3, .pointer (some ⟨nb H 0, 0, none⟩)), (7, .map (some (nb H 2))), (36, .slice (some ⟨b, o, none⟩) d.length c), (37, I d.length), (38, I i), (45, .slice d[i].p d[i].l.length d[i].c), (46, I d[i].l.length), (47, I a.1)]) (fun a => ext H H.fresh (some (.cells [I k] 0 false false) :: some X :: some (setM strV a.2.1) :: a.2.2)) (fun a => a.1 ≤ d[i].l.length ∧ a.2.1.length ≤ i * 24 + a.1 ∧ ∀ r, rowE a.2.1 (d[i].l.drop a.1) = r → divE [] (dl d) = if r ≠ 0 then r else divE (a.2.1 ++ d[i].l.drop a.1) ((dl d).drop (i + 1))) (fun a => d[i].l.length - a.1) (fun a ha ih => ?_) (0, seen, R) ⟨by omega, by simpa using hsl, fun r hr => by subst hr; simpa using hdv⟩ (by repeat (first | exact sub_nil | apply sub_cons rfl)) (.refl _)
    clear hsl hdv
    obtain ⟨j, seen, R⟩ := a
    obtain ⟨hj, hsl, hdv⟩ := ha
    simp only at hj hsl hdv ih ⊢
    have ih2 := fun i' s' R' a1 a2 a3 a4 => ih (i', s', R') a1 ⟨a2, a3, a4⟩
    simp only at ih2
    clear ih
    apply ct_seq
    apply ct_region
    apply seq_plain; exact do_binInt rfl rfl rfl trivial; exact rfl
    apply seq_nil
    apply ct_seq
    refine ct_cond rfl (fun h4 => ?_) (fun h4 => ?_)
    · simp only [decide_eq_true_eq, Int.ofNat_lt] at h4
      obtain ⟨b2, o2, cs2, z2, s2, ro2, hp2, hg2, hw2⟩ := hx.out (by intro e; rw [e] at h4; simp at h4)
      have hst := rowE_step (seen := seen) h4
      rw [hp2] at ih2 ⊢
      apply ct_skip
      apply ct_seq
      apply ct_block
      apply ct_seq
      apply ct_region
      apply seq_plain; exact do_indexAddrS rfl rfl rfl (by exact idx_nat (by omega)); exact rfl
      apply seq_plain; exact do_load rfl (by exact ext_get_old (by assumption) (by assumption)) rfl (by exact pt_sl0 (by assumption) (by omega)); exact rfl
      apply seq_plain; exact do_assign rfl; exact rfl
      apply seq_nil
      apply ct_seq
      apply ct_seq
      apply ct_draw (by assumption); decide +kernel
      apply sd_plain (hfree := rfl); intro _; exact do_move rfl; exact rfl
      apply sd_call (ht := rfl); exact isName_c; exact rfl
      apply sd_plain (hfree := rfl); intro _; exact do_unOp rfl rfl; exact rfl
      apply sd_call (ht := rfl); exact when85; exact rfl
      apply sd_plain (hfree := rfl); intro _; exact do_move rfl; exact rfl
      apply sd_plain (hfree := rfl); intro _; exact do_move rfl; exact rfl
      apply sd_look (hfree := rfl)
      exact do_setGet (f := strV) (a := d[i].l[j]) (ks := seen) rfl rfl (ext_get_new rfl) rfl zeroBool keyStr
      exact rfl
      apply sd_call (ht := rfl); exact when85; exact rfl
      apply sd_newS (hfree := rfl); exact do_buildSlice rfl rfl rfl rfl rfl rfl rfl; exact rfl
      apply sd_callM (ht := rfl) (hw := rfl); decide +kernel; exact first84 (l := [_, _]) (slAt_map (ext_get_new List.getElem?_concat_length)) (by simp); exact rfl
      apply sd_plain (hfree := rfl); intro _; exact do_assign rfl; exact rfl
      apply sd_nil
      apply ct_seq
      apply ct_region
      apply seq_plain; exact do_move rfl; exact rfl
      apply seq_plain; exact do_binInt rfl rfl rfl trivial; exact rfl
      apply seq_nil
      cases hn : nameB d[i].l[j] with
      | false =>
        have ep : proE d k = 8 := by
          have := hdv 8 (by rw [hst, if_pos hn])
          rw [if_pos (show (8 : Int) ≠ 0 by decide)] at this
          rw [proE_bad (by rw [e0, this]; decide), e0, this]
        refine ct_cond_t rfl rfl ?_
        apply ct_seq
        apply ct_region
        apply seq_plain; exact do_move rfl; exact rfl
        apply seq_plain; exact do_assign rfl; exact rfl
        apply seq_plain; exact do_assign rfl; exact rfl
        apply seq_nil
        apply ct_ret
        refine fin_flat hc rfl rfl (.inl ⟨by rw [ep]; decide, by rw [ep]; rfl, rfl⟩)
      | true =>
        rw [if_neg (by rw [hn]; simp)] at hst
        cases hm : memK seen d[i].l[j] with
        | true =>
          have ep : proE d k = 9 := by
            have := hdv 9 (by rw [hst, if_pos hm])
            rw [if_pos (show (9 : Int) ≠ 0 by decide)] at this
            rw [proE_bad (by rw [e0, this]; decide), e0, this]
          refine ct_cond_t rfl rfl ?_
          apply ct_seq
          apply ct_region
          apply seq_plain; exact do_move rfl; exact rfl
          apply seq_plain; exact do_assign rfl; exact rfl
          apply seq_plain; exact do_assign rfl; exact rfl
          apply seq_nil
          apply ct_ret
          refine fin_flat hc rfl rfl (.inl ⟨by rw [ep]; decide, by rw [ep]; rfl, rfl⟩)
        | false =>
          rw [if_neg (by rw [hm]; simp)] at hst
          have eK : addK seen d[i].l[j] = seen ++ [d[i].l[j]] := by
            unfold addK
            rw [if_neg (fun h => by rw [memK_iff.2 h] at hm; cases hm)]
          refine ct_cond_f rfl rfl ?_
          apply ct_skip
          apply ct_region
          apply seq_plain; exact do_move rfl; exact rfl
          apply seq_plain; exact do_move rfl; exact rfl
          apply seq_putC (hc := by assumption); rotate_left; exact do_setAdd (ks := seen) (a := d[i].l[j]) rfl rfl rfl (by exact ext_get_new rfl) rfl keyStr (nb_own _); rotate_left; exact Nat.le_of_ble_eq_true rfl
          rw [eK]
          apply ct_region
          apply seq_plain; exact do_succ rfl (by omega); exact rfl
          apply seq_plain; exact do_move rfl; exact rfl
          apply seq_nil
          have ih := fun R' => ih2 (j + 1) (seen ++ [d[i].l[j]]) R' (by omega) (by omega) (by simp; omega) (fun r hr => by rw [hdv r (hst.trans hr), List.append_assoc]; simp only [List.singleton_append]; rw [← List.drop_eq_getElem_cons h4])
          exact lt_to (by repeat (first | exact sub_nil | apply sub_cons rfl)) (.refl _) (ih _)
    · simp only [decide_eq_false_iff_not, Int.ofNat_lt] at h4
      have hjl : j = d[i].l.length := by omega
      apply ct_exit
      apply exit_eq; exact rfl
      apply ct_region
      apply seq_plain; exact do_succ rfl (by omega); exact rfl
      apply seq_plain; exact do_move rfl; exact rfl
      apply seq_nil
      refine lt_sub (by repeat (first | exact sub_nil | apply sub_cons rfl)) (ih' (i + 1) seen R (by omega) (by omega) (by omega) ?_)
      have := hdv 0 (by rw [hjl, List.drop_length]; rfl)
      rw [this, hjl, List.drop_length, List.append_nil]; rfl
  · simp only [decide_eq_false_iff_not, Int.ofNat_lt] at h2
    rw [List.drop_eq_nil_iff.2 (by omega)] at hdv
    have hdz : divsE (dl d) = 0 := by rw [e0, hdv]; rfl
    clear ih' hdv
    apply ct_exit
    apply exit_eq; exact rfl
    apply ct_seq
    apply ct_region
    apply seq_plain; exact do_move rfl; exact rfl
    apply seq_plain; exact do_makeFunc rfl rfl; exact rfl
    apply seq_call (ht := rfl); exact hasD_c (l := d) (p := fun x => decide ((x.l.length : Int) < twice k)) (hd.at_.ext (ext_Ext hc)) (by omega) (fun x _ H' hE => small_c (hE _ _ (ext_get_new rfl))); exact rfl
    apply seq_plain; exact do_assign rfl; exact rfl
    apply seq_nil
    apply ct_seq
    apply ct_seq
    apply ct_region
    apply seq_plain; exact do_load rfl (by exact ext_get_new rfl) rfl (by exact rfl); exact rfl
    apply seq_call (ht := rfl); exact within89; exact rfl
    apply seq_plain; exact do_move rfl; exact rfl
    apply seq_call (ht := rfl); exact when85; exact rfl
    apply seq_newS; exact do_buildSlice rfl rfl rfl rfl rfl rfl rfl; exact rfl
    apply seq_call (ht := rfl); exact first84 (l := [_, _]) (slAt_map (ext_get_new List.getElem?_concat_length)) (by simp); exact rfl
    rw [move_eq]
    apply seq_plain; exact do_assign rfl; exact rfl
    apply seq_nil
    apply ct_seq
    apply ct_region
    apply seq_plain; exact do_move rfl; exact rfl
    apply seq_plain; exact do_binInt rfl rfl rfl trivial; exact rfl
    apply seq_nil
    refine ct_cond rfl (fun h5 => ?_) (fun h5 => ?_)
    · have h5 : moveE (dl d) k ≠ 0 := by simpa using h5
      apply ct_seq
      apply ct_region
      apply seq_plain; exact do_move rfl; exact rfl
      apply seq_plain; exact do_assign rfl; exact rfl
      apply seq_plain; exact do_assign rfl; exact rfl
      apply seq_nil
      apply ct_ret
      refine fin_flat hc rfl rfl (.inl ⟨by rw [proE_ok hdz]; exact h5, by rw [proE_ok hdz]; rfl, rfl⟩)
    have h5 : moveE (dl d) k = 0 := by simpa using h5
    have hp0 : proE d k = 0 := by rw [proE_ok hdz]; exact h5
    obtain ⟨n, rfl, hgd⟩ := good_d hdz h5
    have hk24 := hgd.k24
    apply ct_skip
    apply ct_seq
    apply ct_region
    apply seq_plain; exact do_assign rfl; exact rfl
    apply seq_nil
    apply ct_seq
    apply ct_seq
    apply ct_region
    apply seq_plain; exact do_move rfl; exact rfl
    apply seq_plain; exact do_lenS rfl rfl rfl; exact rfl
    apply seq_plain; exact do_move rfl; exact rfl
    apply seq_nil
    apply ct_block
    apply ct_loop
    refine lt_meas (α := Nat × Value × List Sz × List (Option ABlk)) (fun a => [(0, .slice q d.length c), (3, .pointer (some ⟨nb H 0, 0, none⟩)), (15, a.2.1), (80, .slice q d.length c), (81, I d.length), (82, I a.1)]) (fun a => ext H H.fresh a.2.2.2) (fun a => a.1 ≤ d.length ∧ a.2.2.1.length = a.1 ∧ a.2.2.2[0]? = some (some (.cells [I n] 0 false false)) ∧ Lst H a.2.2.2 1 sz 1 a.2.1 a.2.2.1 ∧ (∀ x ∈ a.2.2.1, InS H a.2.2.2 x) ∧ dl a.2.2.1 = (List.range a.1).map (proL (dl d) n)) (fun a => d.length - a.1) (fun a ha ih => ?_) (0, .slice none 0 0, [], _) ⟨by omega, rfl, rfl, .nil, (by intro x hx; cases hx), rfl⟩ (by repeat (first | exact sub_nil | apply sub_cons rfl)) (.refl _)
    obtain ⟨i, v, outs, L⟩ := a
    obtain ⟨hi, hol, hbox, hv, hin, hmap⟩ := ha
    simp only at hi hol hbox hv hin hmap ih ⊢
    have ih' := fun i' v' o' L' a1 a2 a3 a4 a5 a6 a7 => ih (i', v', o', L') a1 ⟨a2, a3, a4, a5, a6, a7⟩
    simp only at ih'
    clear ih
    have hL1 : 0 < L.length := (List.getElem?_eq_some_iff.1 hbox).1
    apply ct_seq
    apply ct_region
    apply seq_plain; exact do_binInt rfl rfl rfl trivial; exact rfl
    apply seq_nil
    apply ct_seq
    refine ct_cond rfl (fun h1 => ?_) (fun h1 => ?_)
    · simp only [decide_eq_true_eq, Int.ofNat_lt] at h1
      obtain ⟨b, o, cs, z, s, ro, hq, hgb, hw⟩ := hd.at_.out (by intro e; rw [e] at h1; simp at h1)
      have w0 := hd.each _ (List.getElem_mem h1)
      obtain ⟨r24, r2n⟩ := hgd.row _ (List.getElem_mem h1)
      obtain ⟨fr, hfr⟩ : ∃ fr : Nat, fr = if 0 < i then n else 0 := ⟨_, rfl⟩
      obtain ⟨to, hto⟩ : ∃ to : Nat, to = d[i].l.length - if i + 1 < d.length then n else 0 := ⟨_, rfl⟩
      have hfn : fr ≤ n := by rw [hfr]; split <;> omega
      have htn : d[i].l.length - n ≤ to ∧ to ≤ d[i].l.length := by rw [hto]; split <;> omega
      rw [hq] at ih' ⊢
      apply ct_skip
      apply ct_seq
      apply ct_block
      apply ct_seq
      apply ct_region
      apply seq_plain; exact do_move rfl; exact rfl
      apply seq_plain; exact do_indexAddrS rfl rfl rfl (by exact idx_nat (by omega)); exact rfl
      apply seq_plain; exact do_load rfl (by exact ext_get_old (by assumption) (by assumption)) rfl (by exact sz_get (by assumption) (by omega)); exact rfl
      apply seq_plain; exact do_assign rfl; exact rfl
      apply seq_plain; exact do_assign rfl; exact rfl
      apply seq_nil
      apply ct_seq
      apply ct_region
      apply seq_plain; exact do_assign rfl; exact rfl
      apply seq_nil
      apply ct_seq
      apply ct_region
      apply seq_plain; exact do_move rfl; exact rfl
      apply seq_plain; exact do_lenS rfl rfl rfl; exact rfl
      apply seq_plain; exact do_assign rfl; exact rfl
      apply seq_plain; exact do_assign rfl; exact rfl
      apply seq_nil
      apply ct_seq
      apply ct_seq
      apply ct_region
      apply seq_plain; exact do_move rfl; exact rfl
      apply seq_plain; exact do_binInt rfl rfl rfl trivial; exact rfl
      apply seq_nil
      refine ct_JX (ds := []) (α := Value × List (Option ABlk)) (fun a => [(0, .slice (some ⟨b, o, none⟩) d.length c), (3, .pointer (some ⟨nb H 0, 0, none⟩)), (15, v), (16, I i), (17, .slice d[i].p d[i].l.length d[i].c), (80, .slice (some ⟨b, o, none⟩) d.length c), (81, I d.length), (82, I i), (18, a.1), (19, I fr), (20, I d[i].l.length)]) (fun a => ext H H.fresh a.2) (fun a => Lst H a.2 1 s1 L.length a.1 (part1 d n i) ∧ Stay L.length L a.2 ∧ L.length ≤ a.2.length) ?_ (fun a ha => ?_)
      · refine ct_cond rfl (fun h5 => ?_) (fun h5 => ?_)
        · have h5 : 0 < i := by simp at h5; omega
          have hi1 : i - 1 < d.length := by omega
          have w1 := hd.each _ (List.getElem_mem hi1)
          obtain ⟨p24, p2n⟩ := hgd.row _ (List.getElem_mem hi1)
          have e1 : fr = n := by rw [hfr, if_pos h5]
          rw [e1]
          have hW := fun (L' : List (Option ABlk)) => (w1.ext (ext_Ext (lo := H.fresh) (L := L') hc)).cut (P := Tryz.prog) (t := 96) rfl (fun _ => rfl) (b3_from (i := d[i - 1].l.length - n) (by omega) w1.cap) (by omega) (Nat.le_refl _)
          rw [List.take_length, ← part1_at h5 hi1] at hW
          have hpl : (part1 d n i).length ≤ 24 := by rw [part1_at h5 hi1, List.length_drop]; omega
          apply ct_seq
          apply ct_region
          apply seq_plain; exact do_move rfl; exact rfl
          apply seq_plain; exact do_move rfl; exact rfl
          apply seq_plain; exact do_predN rfl rfl (by omega) (by omega); exact rfl
          apply seq_plain; exact do_indexAddrS rfl rfl rfl (by exact idx_nat (by omega)); exact rfl
          apply seq_plain; exact do_load rfl (by exact ext_get_old (by assumption) (by assumption)) rfl (by exact sz_get (by assumption) (by omega)); exact rfl
          apply seq_plain; exact do_assign rfl; exact rfl
          apply seq_nil
          apply ct_draw (by assumption); decide +kernel
          apply sd_plain (hfree := rfl); intro _; exact do_move rfl; exact rfl
          apply sd_plain (hfree := rfl); intro _; exact do_move rfl; exact rfl
          apply sd_plain (hfree := rfl); intro _; exact do_move rfl; exact rfl
          apply sd_look (hfree := rfl); exact do_lenS rfl rfl rfl; exact rfl
          apply sd_look (hfree := rfl); exact do_load rfl (by exact ext_get_new (getApp (by assumption))) rfl (by exact rfl); exact rfl
          apply sd_plain (hfree := rfl); intro _; exact do_subN rfl rfl (by omega) (by omega); exact rfl
          simp only [List.map_nil, List.append_nil]
          apply sd_look (hfree := rfl)
          exact do_cut rfl rfl rfl (hW _).1
          exact rfl
          refine sd_appW0 (xs := part1 d n i) (m := 1) (f := s1) rfl (fun _ => rfl) (hW _).2 rfl rfl rfl rfl rfl rfl (Nat.le_trans (Nat.mul_le_mul_right _ (by omega : _ ≤ 30000)) (Nat.le_of_ble_eq_true rfl)) (Nat.ne_of_beq_eq_false rfl) (Nat.ne_of_beq_eq_false rfl) rfl (fun v' Y hv' => ?_)
          apply sd_look (hfree := rfl); exact do_load rfl (by exact ext_get_new (getApp (by assumption))) rfl (by exact rfl); exact rfl
          apply sd_plain (hfree := rfl); intro _; exact do_assign rfl; exact rfl
          apply sd_plain (hfree := rfl); intro _; exact do_assign rfl; exact rfl
          apply sd_nil
          exact jx_of (v', L ++ Y.map some) ⟨hv', Stay.app _, by simp⟩ (by repeat (first | exact sub_nil | apply sub_cons rfl)) (by simp)
        · have h5 : i = 0 := by simp at h5; omega
          have e1 : fr = 0 := by rw [hfr, if_neg (by omega)]
          rw [e1]
          apply ct_skip
          refine jx_of (.slice none 0 0, L) ⟨?_, Stay.refl _ _, Nat.le_refl _⟩ (by repeat (first | exact sub_nil | apply sub_cons rfl)) (by simp)
          have : part1 d n i = [] := by unfold part1; rw [if_neg (by omega)]
          rw [this]; exact .nil
      obtain ⟨v1, L1⟩ := a
      obtain ⟨hv1, hst1, hle1⟩ := ha
      simp only at hv1 hst1 hle1 ⊢
      have hbox1 := hst1.to hL1 hbox
      have hpl : (part1 d n i).length ≤ 24 := by
        by_cases h5 : 0 < i
        · obtain ⟨p24, p2n⟩ := hgd.row _ (List.getElem_mem (show i - 1 < d.length by omega))
          rw [part1_at h5 (by omega), List.length_drop]; omega
        · unfold part1; rw [if_neg h5]; simp
      apply ct_seq
      apply ct_seq
      apply ct_region
      apply seq_plain; exact do_move rfl; exact rfl
      apply seq_plain; exact do_move rfl; exact rfl
      apply seq_plain; exact do_lenS rfl rfl rfl; exact rfl
      apply seq_plain; exact do_subN rfl rfl (by omega) (by omega); exact rfl
      apply seq_plain; exact do_binInt rfl rfl rfl trivial; exact rfl
      apply seq_nil
      refine ct_J [(0, .slice (some ⟨b, o, none⟩) d.length c), (3, .pointer (some ⟨nb H 0, 0, none⟩)), (15, v), (16, I i), (17, .slice d[i].p d[i].l.length d[i].c), (80, .slice (some ⟨b, o, none⟩) d.length c), (81, I d.length), (82, I i), (18, v1), (19, I fr), (20, I to)] (ds := []) (h := ext H H.fresh L1) ?_ ?_
      · refine ct_cond rfl (fun h5 => ?_) (fun h5 => ?_)
        · have h5 : i + 1 < d.length := by simp at h5; omega
          have e1 : to = d[i].l.length - n := by rw [hto, if_pos h5]
          rw [e1]
          apply ct_region
          apply seq_plain; exact do_move rfl; exact rfl
          apply seq_plain; exact do_load rfl (by exact ext_get_new (by assumption)) rfl (by exact rfl); exact rfl
          apply seq_plain; exact do_subN rfl rfl (by omega) (by omega); exact rfl
          apply seq_plain; exact do_assign rfl; exact rfl
          apply seq_nil
          exact jp_of (by repeat (first | exact sub_nil | apply sub_cons rfl))
        · have h5 : ¬ i + 1 < d.length := by simp at h5; omega
          have e1 : to = d[i].l.length := by rw [hto, if_neg h5]; omega
          rw [e1]
          apply ct_skip
          exact jp_of (by repeat (first | exact sub_nil | apply sub_cons rfl))
      have hW := fun (L' : List (Option ABlk)) => (w0.ext (ext_Ext (lo := H.fresh) (L := L') hc)).cut (P := Tryz.prog) (t := 96) rfl (fun _ => rfl) (b3_both (i := fr) (j := to) (by omega) htn.2 w0.cap) (by omega) htn.2
      obtain ⟨mid, hmid⟩ : ∃ mid, mid = (d[i].l.take to).drop fr := ⟨_, rfl⟩
      rw [← hmid] at hW
      have hml : mid.length ≤ 24 := by rw [hmid, List.length_drop, List.length_take]; omega
      apply ct_seq
      apply ct_region
      apply seq_plain; exact do_move rfl; exact rfl
      apply seq_plain; exact do_move rfl; exact rfl
      apply seq_plain; exact do_move rfl; exact rfl
      apply seq_plain; exact do_move rfl; exact rfl
      apply seq_plain; exact do_cut rfl rfl rfl (hW _).1; exact rfl
      refine seq_appW (xs := mid) (lst := part1 d n i) hc hv1 hle1 (fun _ => rfl) (fun _ => rfl) (hW _).2 rfl rfl rfl rfl rfl rfl (Nat.le_trans (Nat.mul_le_mul_right _ (by omega : _ ≤ 30000)) (Nat.le_of_ble_eq_true rfl)) (Nat.ne_of_beq_eq_false rfl) (Nat.ne_of_beq_eq_false rfl) rfl (fun v2 L2 hv2 hst2 hle2 => ?_)
      have hst2 := hst1.trans hst2
      have hle2 : L.length ≤ L2.length := by omega
      have hbox2 := hst2.to hL1 hbox
      have hpro := pro_at (n := n) h1 hfr hto
      rw [← hmid] at hpro
      apply seq_plain; exact do_assign rfl; exact rfl
      apply seq_nil
      apply ct_seq
      apply ct_seq
      apply ct_region
      apply seq_plain; exact do_move rfl; exact rfl
      apply seq_plain; exact do_move rfl; exact rfl
      apply seq_plain; exact do_lenS rfl rfl rfl; exact rfl
      apply seq_plain; exact do_subN rfl rfl (by omega) (by omega); exact rfl
      apply seq_plain; exact do_binInt rfl rfl rfl trivial; exact rfl
      apply seq_nil
      refine ct_JX (ds := []) (α := Value × List (Option ABlk)) (fun a => [(0, .slice (some ⟨b, o, none⟩) d.length c), (3, .pointer (some ⟨nb H 0, 0, none⟩)), (15, v), (16, I i), (80, .slice (some ⟨b, o, none⟩) d.length c), (81, I d.length), (82, I i), (18, a.1)]) (fun a => ext H H.fresh a.2) (fun a => Lst H a.2 1 s1 L.length a.1 (proL (dl d) n i) ∧ Stay L.length L a.2 ∧ L.length ≤ a.2.length) ?_ (fun a ha => ?_)
      · refine ct_cond rfl (fun h5 => ?_) (fun h5 => ?_)
        · have h5 : i + 1 < d.length := by simp at h5; omega
          have w2 := hd.each _ (List.getElem_mem h5)
          obtain ⟨p24, p2n⟩ := hgd.row _ (List.getElem_mem h5)
          rw [if_pos h5, dl_get h5] at hpro
          have hW3 := fun (L' : List (Option ABlk)) => (w2.ext (ext_Ext (lo := H.fresh) (L := L') hc)).cut (P := Tryz.prog) (t := 96) rfl (fun _ => rfl) (b3_to (j := n) (by omega) w2.cap) (by omega) (by omega)
          rw [List.drop_zero] at hW3
          have h3l : (d[i + 1].l.take n).length ≤ 24 := by rw [List.length_take]; omega
          apply ct_draw (by assumption); decide +kernel
          apply sd_plain (hfree := rfl); intro _; exact do_move rfl; exact rfl
          apply sd_plain (hfree := rfl); intro _; exact do_move rfl; exact rfl
          apply sd_plain (hfree := rfl); intro _; exact do_move rfl; exact rfl
          apply sd_plain (hfree := rfl); intro _; exact do_succ rfl (by omega); exact rfl
          apply sd_plain (hfree := rfl); intro _; exact do_indexAddrS rfl rfl rfl (by exact idx_nat (by omega)); exact rfl
          apply sd_look (hfree := rfl); exact do_load rfl (by exact ext_get_old (by assumption) (by assumption)) rfl (by exact sz_get (by assumption) (by omega)); exact rfl
          apply sd_look (hfree := rfl); exact do_load rfl (by exact ext_get_new (getApp (by assumption))) rfl (by exact rfl); exact rfl
          try simp only [List.map_nil, List.append_nil]
          apply sd_look (hfree := rfl)
          exact do_cut rfl rfl rfl (hW3 _).1
          exact rfl
          refine sd_appW (xs := d[i + 1].l.take n) (lst := part1 d n i ++ mid) hc rfl (by decide +kernel) hv2 hle2 (fun _ => rfl) (fun _ => rfl) (hW3 _).2 rfl rfl rfl rfl rfl rfl (Nat.le_trans (Nat.mul_le_mul_right _ (by rw [List.length_append]; omega : _ ≤ 30000)) (Nat.le_of_ble_eq_true rfl)) (Nat.ne_of_beq_eq_false rfl) (Nat.ne_of_beq_eq_false rfl) rfl (fun v3 L3 hv3 hst3 hle3 => ?_)
          apply sd_plain (hfree := rfl); intro _; exact do_assign rfl; exact rfl
          apply sd_nil
          refine jx_of (v3, L3) ⟨?_, hst2.trans hst3, Nat.le_trans hle2 hle3⟩ (by repeat (first | exact sub_nil | apply sub_cons rfl)) (by simp)
          rw [hpro, ← List.append_assoc]; exact hv3
        · have h5 : ¬ i + 1 < d.length := by simp at h5; omega
          rw [if_neg h5, List.append_nil] at hpro
          apply ct_skip
          refine jx_of (v2, L2) ⟨?_, hst2, hle2⟩ (by repeat (first | exact sub_nil | apply sub_cons rfl)) (by simp)
          rw [hpro]; exact hv2
      clear hv1 hst1 hle1 hv2 hst2 hle2 hW hbox1 hbox2
      obtain ⟨v3, L3⟩ := a
      obtain ⟨hv3, hst3, hle3⟩ := ha
      simp only at hv3 hst3 hle3 ⊢
      have hbox3 := hst3.to hL1 hbox
      obtain ⟨x, rfl, hxl, hix⟩ := toInS hv3
      have hvo := hv.stayAll hst3
      apply ct_region
      apply seq_plain; exact do_move rfl; exact rfl
      apply seq_plain; exact do_move rfl; exact rfl
      apply seq_newS; exact do_buildSlice rfl rfl rfl rfl rfl rfl rfl; exact rfl
      refine seq_growK (xs := [x]) (lst := outs) hc (hvo.app _) (by rw [List.length_append]; omega) (fun _ => rfl) (fun _ => rfl) rfl rfl rfl rfl rfl rfl (ext_get_new List.getElem?_concat_length) rfl (by simp) ?_ (Nat.ne_of_beq_eq_false rfl) (Nat.ne_of_beq_eq_false rfl) rfl (fun v' L4 hv' hkeep hlen4 => ?_)
      · exact Nat.le_trans (Nat.mul_le_mul_right _ (by simp only [List.length_cons, List.length_nil]; omega : _ ≤ 30000)) (Nat.le_of_ble_eq_true rfl)
      apply seq_plain; exact do_assign rfl; exact rfl
      apply seq_nil
      apply ct_region
      apply seq_plain; exact do_succ rfl (by omega); exact rfl
      apply seq_plain; exact do_move rfl; exact rfl
      apply seq_nil
      refine lt_sub (by repeat (first | exact sub_nil | apply sub_cons rfl)) (ih' (i + 1) v' (outs ++ [x]) L4 (by omega) (by omega) (by simp; omega) (hkeep 0 _ (getApp hbox3) (fun _ e => by injection e with _ _ e3; cases e3)) hv' (fun y hy => ?_) (by show (outs ++ [x]).map (·.l) = _; rw [List.map_append, show outs.map (·.l) = _ from hmap, List.range_succ, List.map_append]; simp [hxl]))
      have hk4 : ∀ (j : Nat) wl, wl ≠ [] → L3[j]? = some (some (.cells (wl.flatMap s1) 1 true false)) → L4[j]? = some (some (.cells (wl.flatMap s1) 1 true false)) := fun j wl hne hj => hkeep j _ (getApp hj) (fun ho => words_ne hne ho)
      rcases List.mem_append.1 hy with hy | hy
      · exact ((hin y hy).keep fun j wl _ hj => hst3 j _ (List.getElem?_eq_some_iff.1 hj).1 hj).keep hk4
      · rw [List.mem_singleton.1 hy]; exact hix.keep hk4
    · simp only [decide_eq_false_iff_not, Int.ofNat_lt] at h1
      obtain rfl : i = d.length := by omega
      obtain ⟨p, rfl, hsl2, _⟩ := hv.slice (lo := H.fresh) (fun _ => rfl)
      apply ct_exit
      apply exit_eq; exact rfl
      apply ct_seq
      apply ct_region
      apply seq_plain; exact do_move rfl; exact rfl
      apply seq_plain; exact do_assign rfl; exact rfl
      apply seq_plain; exact do_assign rfl; exact rfl
      apply seq_nil
      apply ct_ret
      refine fin_id rfl (.inr ⟨hp0, n, p, outs.length, outs, rfl, rfl, ?_, hmap, ?_, ?_, ?_, ?_⟩)
      · exact SzAt.ext (H := ext H H.fresh L) ⟨hsl2, fun x hx => (hin x hx).slAt⟩ (fun b y h => h)
      · exact Ext.trans (ext_Ext hc (lo := H.fresh) (L := L)) (fun b y h => h)
      · exact ext_closed (lo := H.fresh) (L := L) hc
      · show min (min H.fresh H.fresh) H.low ≤ (ext H H.fresh L).fresh
        rw [ext_fresh]; have := nb_ge (H := H) L.length; omega
      · exact Nat.min_le_right _ _
end Go.Proofs.YtiggikjbknoohaaGreatDoor
