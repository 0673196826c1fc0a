/- Contracts: shares of equal weights, as the reference has them; a price that is not split; what is compared. -/
import Derived.Test.YtfegloadbajbhaaGreatDoorHbA
import Derived.Test.YtfegloadbajbhaaGreatDoorSxZ
noncomputable section
namespace Go.Proofs.YtfegloadbajbhaaGreatDoor
open Go Go.Den
set_option maxRecDepth 100000

theorem rep_snoc {α : Type} {x : α} {n : Nat} : List.replicate n x ++ [x] = List.replicate (n + 1) x := by rw [List.replicate_succ']
set_option maxHeartbeats 8000000 in
theorem refShares_c {H : AHeap} {q : Option Addr} {c n total : Nat} {O : List Int} (hs : SlAt H 1 i1 q O) (hO : O = List.replicate n 1) (h1 : 1 ≤ n) (h16 : n ≤ 16) (ht : total ≤ 999999999) :
    Ret Tryz.prog 57 [I total, .slice q O.length c] H (lstV H.fresh (sharesP total n)) (lstH H 1 i1 (sharesP total n)) := by
  have hOl : O.length = n := by rw [hO]; simp
  have hO1 : ∀ i (h : i < O.length), O[i] = 1 := fun i h => by simp only [hO, List.getElem_replicate]
  obtain ⟨w, hw⟩ : ∃ w, w = total / n := ⟨_, rfl⟩
  obtain ⟨r, hr⟩ : ∃ r, r = total % n := ⟨_, rfl⟩
  have hrp : r < n := by rw [hr]; exact Nat.mod_lt _ (by omega)
  have hwr : n * w + r = total := by rw [hw, hr]; exact Nat.div_add_mod total n
  have hwt : w ≤ total := by rw [hw]; exact Nat.div_le_self ..
  have ew1 : wrapI .i64 ((total : Int) * 1) = .int .i64 (total : Int) := by rw [Int.mul_one, wrapI, wrap_i64 (by omega)]
  refine fn_start Tryz.func57 rfl rfl rfl fun hc => ?_
  obtain ⟨b, o, cs, z, s, ro, rfl, hg, hw'⟩ := hs.out (by intro e; rw [e] at hOl; simp at hOl; omega)
  apply ct_seq
  apply ct_region
  apply seq_plain; exact do_assign rfl; exact rfl
  apply seq_nil
  apply ct_seq
  apply ct_region
  apply seq_plain; exact do_assign rfl; exact rfl
  apply seq_nil
  apply ct_seq
  apply ct_seq
  apply ct_region
  apply seq_plain; exact do_assign rfl; exact rfl
  apply seq_nil
  apply ct_block
  apply ct_loop
  refine lt_up (fun i => [(0, I total), (1, .slice (some ⟨b, o, none⟩) O.length c), (5, I i), (6, I i)]) (fun _ => True) n (fun i hi _ ih => ?_) 0 (by omega) trivial (by repeat (first | exact sub_nil | apply sub_cons rfl))
  apply ct_seq
  apply ct_seq
  apply ct_region
  apply seq_plain; exact do_move rfl; exact rfl
  apply seq_plain; exact do_move rfl; exact rfl
  apply seq_plain; exact do_lenS rfl rfl rfl; exact rfl
  apply seq_plain; exact do_binInt rfl rfl rfl trivial; exact rfl
  apply seq_nil
  refine ct_cond rfl (fun g1 => ?_) (fun g1 => ?_)
  · simp only [decide_eq_true_eq, Int.ofNat_lt] at g1
    have ho := hO1 i g1
    apply ct_skip
    apply ct_seq
    apply ct_block
    apply ct_region
    apply seq_plain; exact do_move rfl; exact rfl
    apply seq_plain; exact do_move rfl; exact rfl
    apply seq_plain; exact do_move rfl; exact rfl
    apply seq_plain; exact do_indexAddrS rfl rfl rfl (by exact idx_nat (by omega)); exact rfl
    apply seq_plain; exact do_load rfl (by exact ext_get_old (by assumption) (by assumption)) rfl (by exact pt_sl0 (by assumption) (by omega)); exact rfl
    apply seq_plain; exact do_add rfl rfl (by omega); exact rfl
    apply seq_plain; exact do_assign rfl; exact rfl
    apply seq_nil
    apply ct_region
    apply seq_plain; exact do_move rfl; exact rfl
    apply seq_plain; exact do_succ rfl (by omega); exact rfl
    apply seq_plain; exact do_assign rfl; exact rfl
    apply seq_nil
    rw [ho]
    exact lt_sub (by repeat (first | exact sub_nil | apply sub_cons rfl)) (ih (i + 1) (by omega) (by omega) trivial)
  have g1 : i = n := by simp only [decide_eq_false_iff_not] at g1; omega
  subst g1
  clear ih
  have hiw : ∀ k, k ≤ i → k * w ≤ i * w := fun k hk => Nat.mul_le_mul_right w hk
  obtain ⟨lf, hlf⟩ : ∃ lf : Nat → Nat, ∀ k, lf k = total - k * w := ⟨_, fun _ => rfl⟩
  have hl0 : lf 0 = total := by rw [hlf]; simp
  have hls : ∀ k, k < i → lf (k + 1) = lf k - w ∧ w ≤ lf k ∧ lf k ≤ total := fun k hk => by
    have := hiw (k + 1) (by omega)
    rw [Nat.succ_mul] at this
    rw [hlf, hlf, Nat.succ_mul]
    omega
  have hlp : lf i = r := by rw [hlf]; omega
  obtain ⟨oR, hoR⟩ : ∃ oR : Nat → List Int, ∀ k, oR k = List.replicate k (w : Int) := ⟨_, fun _ => rfl⟩
  obtain ⟨rR, hrR⟩ : ∃ rR : Nat → List Int, ∀ k, rR k = List.replicate k (r : Int) := ⟨_, fun _ => rfl⟩
  have oL : ∀ k, (oR k).length = k := fun k => by rw [hoR]; simp
  have rL : ∀ k, (rR k).length = k := fun k => by rw [hrR]; simp
  have oX : ∀ k, oR k ++ [(w : Int)] = oR (k + 1) := fun k => by rw [hoR, hoR]; exact rep_snoc
  have rX : ∀ k, rR k ++ [(r : Int)] = rR (k + 1) := fun k => by rw [hrR, hrR]; exact rep_snoc
  have oA : ∀ k j (h : j < (oR k).length), (oR k)[j] = (w : Int) := fun k j h => by simp only [hoR, List.getElem_replicate]
  apply ct_exit
  apply exit_eq; exact rfl
  apply ct_seq
  apply ct_region
  apply seq_plain; exact do_assign rfl; exact rfl
  apply seq_plain; exact do_assign rfl; exact rfl
  apply seq_nil
  apply ct_seq
  apply ct_region
  apply seq_plain; exact do_move rfl; exact rfl
  apply seq_plain; exact do_assign rfl; exact rfl
  apply seq_nil
  apply ct_seq
  apply ct_seq
  apply ct_region
  apply seq_plain; exact do_assign rfl; exact rfl
  apply seq_nil
  apply ct_block
  apply ct_loop
  refine lt_meas (α := Nat × Value × Value × Nat × Nat × List (Option ABlk)) (fun a => [(0, I total), (1, .slice (some ⟨b, o, none⟩) O.length c), (5, I i), (7, a.2.1), (8, a.2.2.1), (9, I (lf a.1)), (10, I a.1)]) (fun a => ext H H.fresh a.2.2.2.2.2)
    (fun a => a.1 ≤ i ∧ LstI H a.2.2.2.2.2 1 i1 a.2.2.2.1 a.2.1 (oR a.1) ∧ LstI H a.2.2.2.2.2 1 i1 a.2.2.2.2.1 a.2.2.1 (rR a.1) ∧ (0 < a.1 → a.2.2.2.1 ≠ a.2.2.2.2.1)) (fun a => i - a.1) (fun a ha ih => ?_) (0, .slice none 0 0, .slice none 0 0, 0, 0, []) ⟨by simp, by rw [hoR]; exact .nil, by rw [hrR]; exact .nil, by simp⟩ (by simp only [hl0]; repeat (first | exact sub_nil | apply sub_cons rfl)) (.refl _)
  obtain ⟨k, v1, v2, K1, K2, L⟩ := a
  obtain ⟨hk, hv1, hv2, hne⟩ := ha
  simp only at hk hv1 hv2 hne ih ⊢
  have ih' := fun i' w1 w2 J1 J2 L' a1 a2 a3 a4 a5 => ih (i', w1, w2, J1, J2, L') a1 ⟨a2, a3, a4, a5⟩
  simp only at ih'
  clear ih
  apply ct_seq
  apply ct_seq
  apply ct_region
  apply seq_plain; exact do_move rfl; exact rfl
  apply seq_plain; exact do_move rfl; exact rfl
  apply seq_plain; exact do_lenS rfl rfl rfl; exact rfl
  apply seq_plain; exact do_binInt rfl rfl rfl trivial; exact rfl
  apply seq_nil
  refine ct_cond rfl (fun g1 => ?_) (fun g1 => ?_)
  · have g1 : k < i := by simp only [decide_eq_true_eq, Int.ofNat_lt] at g1; omega
    have ho := hO1 k (by omega)
    obtain ⟨q1, q2, q3⟩ := hls k g1
    have oe : ∀ a, a ≠ 0 → oR a ≠ [] := fun a ha e => by have := oL a; rw [e] at this; simp at this; omega
    have re : ∀ a, a ≠ 0 → rR a ≠ [] := fun a ha e => by have := rL a; rw [e] at this; simp at this; omega
    have k0 : ∀ a, oR a ≠ [] → 0 < a := fun a ha => by
      rcases Nat.eq_zero_or_pos a with h | h
      · subst h; exact absurd (List.length_eq_zero_iff.1 (oL 0)) ha
      · exact h
    have k0' : ∀ a, rR a ≠ [] → 0 < a := fun a ha => by
      rcases Nat.eq_zero_or_pos a with h | h
      · subst h; exact absurd (List.length_eq_zero_iff.1 (rL 0)) ha
      · exact h
    apply ct_skip
    apply ct_seq
    apply ct_block
    apply ct_seq
    apply ct_region
    apply seq_plain; exact do_move rfl; exact rfl
    apply seq_plain; exact do_move rfl; exact rfl
    apply seq_plain; exact do_move rfl; exact rfl
    apply seq_plain; exact do_move rfl; exact rfl
    apply seq_plain; exact do_indexAddrS rfl rfl rfl (by exact idx_nat (by omega)); exact rfl
    apply seq_plain; exact do_load rfl (by exact ext_get_old (by assumption) (by assumption)) rfl (by exact pt_sl0 (by assumption) (by omega)); exact rfl
    apply seq_plain; exact do_binInt rfl rfl rfl trivial; exact rfl
    apply seq_plain; exact do_move rfl; exact rfl
    rw [ho, ew1]
    apply seq_plain; exact do_quo rfl rfl (by omega) (by omega); exact rfl
    apply seq_newS; exact do_buildSlice rfl rfl rfl rfl rfl rfl rfl; exact rfl
    rw [← hw]
    skip
    refine seq_growI (xs := [(w : Int)]) hc (hv1.keeps (.app _)) (fun _ => rfl) (fun _ => rfl) rfl rfl rfl rfl rfl rfl (ext_get_new List.getElem?_concat_length) rfl (by simp) ?_ (Nat.ne_of_beq_eq_false rfl) (Nat.ne_of_beq_eq_false rfl) rfl (fun w1 L1 hw1 hst1 hlen1 => ?_)
    · rw [oL]
      exact Nat.le_trans (Nat.mul_le_mul_right _ (by simp only [List.length_cons, List.length_nil]; omega : _ ≤ 3000)) (Nat.le_of_ble_eq_true rfl)
    rw [oX] at hw1
    have hv2' : LstI H L1 1 i1 K2 v2 (rR k) := (hv2.keeps (.app _)).keep fun hn => hst1 K2 (by have := hv2.lt hn; simp; omega) fun _ => (hne (k0' _ hn)).symm
    have hK2 : rR k ≠ [] → K2 < L.length := fun hn => hv2.lt hn
    obtain ⟨J1, hJL, hw1⟩ : ∃ J1, J1 = L.length + 1 ∧ LstI H L1 1 i1 J1 w1 (oR (k + 1)) := ⟨_, by simp, hw1⟩
    have hlen1 : L1.length = L.length + 2 := by rw [hlen1]; simp
    clear hst1
    apply seq_plain; exact do_assign rfl; exact rfl
    apply seq_nil
    apply ct_seq
    apply ct_region
    apply seq_plain; exact do_move rfl; exact rfl
    apply seq_plain; exact do_move rfl; exact rfl
    apply seq_plain; exact do_move rfl; exact rfl
    apply seq_plain; exact do_move rfl; exact rfl
    apply seq_plain; exact do_indexAddrS rfl rfl rfl (by exact idx_nat (by omega)); exact rfl
    apply seq_plain; exact do_load rfl (by exact ext_get_old (by assumption) (by assumption)) rfl (by exact pt_sl0 (by assumption) (by omega)); exact rfl
    apply seq_plain; exact do_binInt rfl rfl rfl trivial; exact rfl
    apply seq_plain; exact do_move rfl; exact rfl
    rw [ho, ew1]
    apply seq_plain; exact do_remN rfl rfl (by omega); exact rfl
    apply seq_newS; exact do_buildSlice rfl rfl rfl rfl rfl rfl rfl; exact rfl
    rw [← hr]
    skip
    refine seq_growI (xs := [(r : Int)]) hc (hv2'.keeps (.app _)) (fun _ => rfl) (fun _ => rfl) rfl rfl rfl rfl rfl rfl (ext_get_new List.getElem?_concat_length) rfl (by simp) ?_ (Nat.ne_of_beq_eq_false rfl) (Nat.ne_of_beq_eq_false rfl) rfl (fun w2 L2 hw2 hst2 hlen2 => ?_)
    · rw [rL]
      exact Nat.le_trans (Nat.mul_le_mul_right _ (by simp only [List.length_cons, List.length_nil]; omega : _ ≤ 3000)) (Nat.le_of_ble_eq_true rfl)
    rw [rX] at hw2
    have hw1' : LstI H L2 1 i1 J1 w1 (oR (k + 1)) := (hw1.keeps (.app _)).keep fun hn => hst2 J1 (by simp; omega) fun hn2 => by have := hK2 hn2; omega
    obtain ⟨J2, hJ2L, hw2⟩ : ∃ J2, J2 = L1.length + 1 ∧ LstI H L2 1 i1 J2 w2 (rR (k + 1)) := ⟨_, by simp, hw2⟩
    clear hst2
    obtain ⟨rfl, hg1⟩ := hw1'.at_ (oe _ (by omega))
    rw [flat_i1_map] at hg1
    have oLk := oL (k + 1)
    have oAk := oA (k + 1) k (by omega)
    rw [oL]
    apply seq_plain; exact do_assign rfl; exact rfl
    apply seq_nil
    apply ct_region
    apply seq_plain; exact do_move rfl; exact rfl
    apply seq_plain; exact do_move rfl; exact rfl
    apply seq_plain; exact do_move rfl; exact rfl
    apply seq_plain; exact do_indexAddrS rfl rfl rfl (by exact idx_nat (by omega)); exact rfl
    apply seq_plain; exact do_load rfl (by exact ext_get_new (by assumption)) rfl (by exact pt_map (by omega)); exact rfl
    apply seq_plain; exact do_sub rfl rfl (by omega); exact rfl
    apply seq_plain; exact do_assign rfl; exact rfl
    apply seq_nil
    apply ct_region
    apply seq_plain; exact do_move rfl; exact rfl
    apply seq_plain; exact do_succ rfl (by omega); exact rfl
    apply seq_plain; exact do_assign rfl; exact rfl
    apply seq_nil
    rw [oAk]
    skip
    have q4 : ((lf (k + 1) : Nat) : Int) = (lf k : Int) - (w : Int) := by omega
    rw [← q4]
    refine lt_to (by repeat (first | exact sub_nil | apply sub_cons rfl)) (.refl _) (ih' (k + 1) _ w2 J1 J2 L2 (by omega) (by omega) ?_ hw2 (by omega))
    rw [oL] at hw1'
    exact hw1'
  have g1 : k = i := by simp only [decide_eq_false_iff_not] at g1; omega
  subst g1
  clear ih'
  rw [hlp]
  have oe : oR k ≠ [] := fun e => by have := oL k; rw [e] at this; simp at this; omega
  have re : rR k ≠ [] := fun e => by have := rL k; rw [e] at this; simp at this; omega
  obtain ⟨rfl, hg1⟩ := hv1.at_ oe
  obtain ⟨rfl, hg2⟩ := hv2.at_ re
  have hne := hne (by omega)
  have l1 := hv1.lt oe
  have l2 := hv2.lt re
  rw [flat_i1_map] at hg1 hg2
  rw [oL, rL]
  clear hv1 hv2
  obtain ⟨oT, hoT⟩ : ∃ oT : Nat → List Int, ∀ i, oT i = stepS k i (fun _ => (w : Int) + 1) (fun _ => (w : Int)) := ⟨_, fun _ => rfl⟩
  obtain ⟨rT, hrT⟩ : ∃ rT : Nat → List Int, ∀ i, rT i = stepS k i (fun _ => (-1 : Int)) (fun _ => (r : Int)) := ⟨_, fun _ => rfl⟩
  have tL : ∀ i, (oT i).length = k := fun i => by rw [hoT]; exact stepS_len
  have uL : ∀ i, (rT i).length = k := fun i => by rw [hrT]; exact stepS_len
  have t0 : oR k = oT 0 := by
    refine List.ext_getElem (by rw [oL, tL]) fun j h1 h2 => ?_
    rw [oA]
    simp only [hoT]
    rw [stepS_hi (Nat.zero_le _) (by rw [stepS_len, ← oL k]; exact h1)]
  have u0 : rR k = rT 0 := by
    refine List.ext_getElem (by rw [rL, uL]) fun j h1 h2 => ?_
    simp only [hrR, hrT, List.getElem_replicate]
    rw [stepS_hi (Nat.zero_le _) (by rw [stepS_len, ← rL k]; exact h1)]
  have tX : ∀ i, (oT i).set i ((w : Int) + 1) = oT (i + 1) := fun i => by rw [hoT, hoT]; exact stepS_set _ rfl
  have uX : ∀ i, (rT i).set i (-1) = rT (i + 1) := fun i => by rw [hrT, hrT]; exact stepS_set _ rfl
  have tA : ∀ i (h : i < (oT i).length), (oT i)[i] = (w : Int) := fun i h => by simp only [hoT]; exact stepS_hi (Nat.le_refl _) (by rw [stepS_len]; rw [tL] at h; exact h)
  have uA : ∀ i j (h : j < (rT i).length), (rT i)[j] = if j < i then -1 else (r : Int) := fun i j h => by simp only [hrT, stepS, List.getElem_map, List.getElem_range]
  have tR : oT r = sharesP total k := by
    refine List.ext_getElem (by rw [tL, sharesP_len]) fun j h1 h2 => ?_
    rw [tL] at h1
    simp only [hoT, stepS, sharesP, List.getElem_map, List.getElem_range, shareP, ← hw, ← hr]
    split <;> simp
  rw [t0] at hg1
  rw [u0] at hg2
  apply ct_exit
  apply exit_eq; exact rfl
  apply ct_seq
  apply ct_block
  apply ct_loop
  have e9 : (r : Int) = ((r - 0 : Nat) : Int) := by simp
  rw [e9]
  refine lt_meas (α := Nat × List (Option ABlk)) (fun a => [(1, .slice (some ⟨b, o, none⟩) O.length c), (7, .slice (some ⟨nb H K1, 0, none⟩) k k), (8, .slice (some ⟨nb H K2, 0, none⟩) k k), (9, I ((r - a.1 : Nat) : Int))]) (fun a => ext H H.fresh a.2)
    (fun a => a.1 ≤ r ∧ K1 < a.2.length ∧ K2 < a.2.length ∧ a.2[K1]? = some (some (.cells ((oT a.1).map I) 1 true false)) ∧ a.2[K2]? = some (some (.cells ((rT a.1).map I) 1 true false))) (fun a => r - a.1) (fun a ha ih => ?_) (0, L) ⟨by simp, l1, l2, hg1, hg2⟩ (by repeat (first | exact sub_nil | apply sub_cons rfl)) (.refl _)
  clear hg1 hg2 l1 l2
  obtain ⟨j, L⟩ := a
  obtain ⟨hj, l1, l2, f1, f2⟩ := ha
  simp only at hj l1 l2 f1 f2 ih ⊢
  have ih' := fun i' L' a1 a2 a3 a4 a5 a6 => ih (i', L') a1 ⟨a2, a3, a4, a5, a6⟩
  simp only at ih'
  clear ih
  apply ct_seq
  apply ct_seq
  apply ct_region
  apply seq_plain; exact do_move rfl; exact rfl
  apply seq_plain; exact do_binInt rfl rfl rfl trivial; exact rfl
  apply seq_nil
  refine ct_cond rfl (fun g1 => ?_) (fun g1 => ?_)
  · have g1 : j < r := by simp only [decide_eq_true_eq] at g1; omega
    obtain ⟨bst, hbst⟩ : ∃ bst : Nat → Nat, ∀ i, bst i = if i ≤ j then 0 else j := ⟨_, fun _ => rfl⟩
    have b1 : bst 1 = 0 := by rw [hbst]; split <;> omega
    have bk : bst k = j := by rw [hbst, if_neg (by omega)]
    have bl : ∀ i, bst i < k := fun i => by rw [hbst]; split <;> omega
    have uLj := uL j
    have tLj := tL j
    apply ct_skip
    apply ct_seq
    apply ct_block
    apply ct_seq
    apply ct_region
    apply seq_plain; exact do_assign rfl; exact rfl
    apply seq_nil
    apply ct_seq
    apply ct_seq
    apply ct_region
    apply seq_plain; exact do_assign rfl; exact rfl
    apply seq_nil
    apply ct_block
    apply ct_loop
    refine lt_up (fun i => [(1, .slice (some ⟨b, o, none⟩) O.length c), (7, .slice (some ⟨nb H K1, 0, none⟩) k k), (8, .slice (some ⟨nb H K2, 0, none⟩) k k), (9, I ((r - j : Nat) : Int)), (11, I (bst i)), (12, I i)]) (fun i => 1 ≤ i) k (fun i hi hi1 ih => ?_) 1 (by omega) (by omega) (by rw [b1]; repeat (first | exact sub_nil | apply sub_cons rfl))
    apply ct_seq
    apply ct_seq
    apply ct_region
    apply seq_plain; exact do_move rfl; exact rfl
    apply seq_plain; exact do_move rfl; exact rfl
    apply seq_plain; exact do_lenS rfl rfl rfl; exact rfl
    apply seq_plain; exact do_binInt rfl rfl rfl trivial; exact rfl
    apply seq_nil
    refine ct_cond rfl (fun g2 => ?_) (fun g2 => ?_)
    · have g2 : i < k := by simp only [decide_eq_true_eq, Int.ofNat_lt] at g2; omega
      have bli := bl i
      have e1 : decide ((rT j)[i]'(by omega) > (rT j)[bst i]'(by omega)) = decide (i = j) := by
        rw [uA, uA]
        by_cases q1 : i < j
        · have hb : bst i = 0 := by rw [hbst, if_pos (by omega)]
          have q2 : decide (i = j) = false := decide_eq_false (by omega)
          rw [hb, if_pos q1, if_pos (by omega), q2]; rfl
        · by_cases q2 : i = j
          · have hb : bst i = 0 := by rw [hbst, if_pos (by omega)]
            have q3 : decide (i = j) = true := decide_eq_true q2
            rw [hb, if_neg q1, if_pos (by omega), q3]
            exact decide_eq_true (by omega)
          · have hb : bst i = j := by rw [hbst, if_neg (by omega)]
            have q3 : decide (i = j) = false := decide_eq_false q2
            rw [hb, if_neg q1, if_neg (by omega), q3]
            exact decide_eq_false (by omega)
      apply ct_skip
      apply ct_seq
      apply ct_block
      apply ct_seq
      apply ct_draw (by assumption); decide +kernel
      apply sd_plain (hfree := rfl); intro _; exact do_move rfl; exact rfl
      apply sd_plain (hfree := rfl); intro _; exact do_move rfl; exact rfl
      apply sd_plain (hfree := rfl); intro _; exact do_indexAddrS rfl rfl rfl (by exact idx_nat (by omega)); exact rfl
      apply sd_look (hfree := rfl); exact do_load rfl (by exact ext_get_new (getApp (by assumption))) rfl (by exact pt_map (by omega)); exact rfl
      apply sd_plain (hfree := rfl); intro _; exact do_move rfl; exact rfl
      apply sd_plain (hfree := rfl); intro _; exact do_move rfl; exact rfl
      apply sd_plain (hfree := rfl); intro _; exact do_indexAddrS rfl rfl rfl (by exact idx_nat (by omega)); exact rfl
      apply sd_look (hfree := rfl); exact do_load rfl (by exact ext_get_new (getApp (by assumption))) rfl (by exact pt_map (by omega)); exact rfl
      apply sd_plain (hfree := rfl); intro _; exact do_binInt rfl rfl rfl trivial; exact rfl
      apply sd_nil
      rw [e1]
      simp only [List.map_nil, List.append_nil]
      refine ct_JE [(1, .slice (some ⟨b, o, none⟩) O.length c), (7, .slice (some ⟨nb H K1, 0, none⟩) k k), (8, .slice (some ⟨nb H K2, 0, none⟩) k k), (9, I ((r - j : Nat) : Int)), (11, I (bst (i + 1))), (12, I i)] (ds := []) (h := ext H H.fresh L) ?_ ?_
      · refine ct_cond rfl (fun g3 => ?_) (fun g3 => ?_)
        · have g3 : i = j := of_decide_eq_true g3
          have e2 : bst (i + 1) = i := by rw [hbst, if_neg (by omega), g3]
          rw [e2]
          apply ct_region
          apply seq_plain; exact do_move rfl; exact rfl
          apply seq_plain; exact do_assign rfl; exact rfl
          apply seq_nil
          exact jp_of (by repeat (first | exact sub_nil | apply sub_cons rfl))
        · have g3 : i ≠ j := of_decide_eq_false g3
          have e2 : bst (i + 1) = bst i := by
            rw [hbst, hbst]
            by_cases q1 : i < j
            · rw [if_pos (by omega), if_pos (by omega)]
            · rw [if_neg (by omega), if_neg (by omega)]
          rw [e2]
          apply ct_skip
          exact jp_of (by repeat (first | exact sub_nil | apply sub_cons rfl))
      apply ct_region
      apply seq_plain; exact do_move rfl; exact rfl
      apply seq_plain; exact do_succ rfl (by omega); exact rfl
      apply seq_plain; exact do_assign rfl; exact rfl
      apply seq_nil
      exact lt_sub (by repeat (first | exact sub_nil | apply sub_cons rfl)) (ih (i + 1) (by omega) (by omega) (by omega))
    have g2 : i = k := by simp only [decide_eq_false_iff_not] at g2; omega
    subst g2
    rw [bk]
    clear ih
    have tAj := tA j (by omega)
    apply ct_exit
    apply exit_eq; exact rfl
    apply ct_seq
    apply ct_region
    apply seq_plain; exact do_move rfl; exact rfl
    apply seq_plain; exact do_move rfl; exact rfl
    apply seq_plain; exact do_indexAddrS rfl rfl rfl (by exact idx_nat (by omega)); exact rfl
    apply seq_plain; exact do_load rfl (by exact ext_get_new (by assumption)) rfl (by exact pt_map (by omega)); exact rfl
    apply seq_plain; exact do_add rfl rfl (by omega); exact rfl
    apply seq_plain; exact do_indexAddrS rfl rfl rfl (by exact idx_nat (by omega)); exact rfl
    rw [tAj]
    skip
    refine seq_putQC (k := K1) hc l1 (do_store rfl rfl (ext_get_new f1) rfl (stl_map (by omega) rfl rfl) (nb_own _)) (fun L1 m1 o1 k1 => ?_)
    rw [tX] at k1
    have g4 := (o1 K2 (by omega)).trans f2
    clear o1
    apply ct_region
    apply seq_plain; exact do_move rfl; exact rfl
    apply seq_plain; exact do_move rfl; exact rfl
    apply seq_plain; exact do_indexAddrS rfl rfl rfl (by exact idx_nat (by omega)); exact rfl
    refine seq_putQC (k := K2) hc (by omega) (do_store rfl rfl (ext_get_new g4) rfl (stl_map (by omega) rfl rfl) (nb_own _)) (fun L2 m2 o2 k2 => ?_)
    rw [uX] at k2
    have k1' := (o2 K1 (by omega)).trans k1
    clear o2
    apply ct_region
    apply seq_plain; exact do_move rfl; exact rfl
    apply seq_plain; exact do_predN rfl rfl (by omega) (by omega); exact rfl
    apply seq_plain; exact do_assign rfl; exact rfl
    apply seq_nil
    rw [show r - j - 1 = r - (j + 1) by omega]
    exact lt_to (by repeat (first | exact sub_nil | apply sub_cons rfl)) (.refl _) (ih' (j + 1) L2 (by omega) (by omega) (by omega) (by omega) k1' k2)
  have g1 : j = r := by simp only [decide_eq_false_iff_not] at g1; omega
  subst g1
  rw [tR] at f1
  apply ct_exit
  apply exit_eq; exact rfl
  apply ct_seq
  apply ct_region
  apply seq_plain; exact do_move rfl; exact rfl
  apply seq_plain; exact do_assign rfl; exact rfl
  apply seq_nil
  apply ct_ret
  have hS : (sharesP total k).length = k := sharesP_len
  have hl : Lst H L 1 i1 0 (.slice (some ⟨nb H K1, 0, none⟩) k k) (sharesP total k) := ⟨.inr ⟨fun e => by rw [e] at hS; simp at hS; omega, K1, Nat.zero_le _, by rw [hS], by rw [flat_i1_map]; exact f1⟩⟩
  exact fin_lst hc hl rfl (fun _ => rfl) ⟨rfl, rfl⟩
end Go.Proofs.YtfegloadbajbhaaGreatDoor
