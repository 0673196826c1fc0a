/- Contracts: spans, prices and shares, as the reference has them. -/
import Derived.Test.YtfegloadbajbhaaGreatDoorHaF
noncomputable section
namespace Go.Proofs.YtfegloadbajbhaaGreatDoor
open Go Go.Den
set_option maxRecDepth 100000

theorem rateAt_no : ∀ {l : List Ra} {i j : Nat}, (∀ k (h : k < l.length), k < i → ¬ (j : Int) < l[k].to) → rateAt (l.map toRt) j = rateAt ((l.drop i).map toRt) j
  | l, 0, j, _ => rfl
  | [], i + 1, j, _ => rfl
  | x :: r, i + 1, j, h => by
    have h0 := h 0 (by simp) (by omega)
    simp only [List.getElem_cons_zero] at h0
    simp only [List.map_cons, rateAt, List.drop_succ_cons]
    rw [if_neg (by simp only [toRt]; omega)]
    exact rateAt_no fun k hk hi => by
      have := h (k + 1) (by simpa using hk) (by omega)
      simpa using this
theorem rateAt_is {l : List Ra} {i j : Nat} (h : ∀ k (h : k < l.length), k < i → ¬ (j : Int) < l[k].to) (hi : i < l.length) (hj : (j : Int) < l[i].to) : rateAt (l.map toRt) j = l[i].price := by
  rw [rateAt_no h, List.drop_eq_getElem_cons hi]
  simp only [List.map_cons, rateAt]
  rw [if_pos (by simp only [toRt]; omega)]; rfl
theorem rateAt_end {l : List Ra} {j : Nat} (h : ∀ k (h : k < l.length), k < l.length → ¬ (j : Int) < l[k].to) : rateAt (l.map toRt) j = 0 := by
  rw [rateAt_no (i := l.length) h, List.drop_length]; rfl
theorem rate_c {H : AHeap} {q : Option Addr} {c : Nat} {l : List Ra} {j : Nat} (hs : SlAt H 3 ra q l) (hn : l.length < 1000000000) :
    Ret Tryz.prog 126 [.slice q l.length c, I j] H (I (rateAt (l.map toRt) j)) H := by
  refine fn_start Tryz.func126 rfl rfl rfl fun hc => ?_
  apply ct_seq
  apply ct_region
  apply seq_plain; exact do_assign rfl; exact rfl
  apply seq_nil
  apply ct_seq
  apply ct_seq
  apply ct_region
  apply seq_plain; exact do_assign rfl; exact rfl
  apply seq_nil
  apply ct_block
  apply ct_loop
  refine lt_up (fun i => [(0, .slice q l.length c), (1, I j), (5, I i)]) (fun i => ∀ k (h : k < l.length), k < i → ¬ (j : Int) < l[k].to) l.length (fun i hi hJ ih => ?_) 0 (by omega) (by intros; omega) (by repeat (first | exact sub_nil | apply sub_cons rfl))
  apply ct_seq
  apply ct_seq
  apply ct_region
  apply seq_plain; exact do_move rfl; exact rfl
  apply seq_plain; exact do_move rfl; exact rfl
  apply seq_plain; exact do_lenS rfl rfl rfl; exact rfl
  apply seq_plain; exact do_binInt rfl rfl rfl trivial; exact rfl
  apply seq_nil
  refine ct_cond rfl (fun h1 => ?_) (fun h1 => ?_)
  · simp only [decide_eq_true_eq, Int.ofNat_lt] at h1
    obtain ⟨b, o, cs, z, s, ro, rfl, hg, hw⟩ := hs.out (by intro e; rw [e] at h1; simp at h1)
    apply ct_skip
    apply ct_seq
    apply ct_block
    apply ct_seq
    apply ct_region
    apply seq_plain; exact do_move rfl; exact rfl
    apply seq_plain; exact do_move rfl; exact rfl
    apply seq_plain; exact do_move rfl; exact rfl
    apply seq_plain; exact do_indexAddrS rfl rfl rfl (by exact idx_nat (by omega)); exact rfl
    apply seq_plain; exact do_fieldAddr rfl rfl; exact rfl
    apply seq_plain; exact do_load rfl (by exact ext_get_old (by assumption) (by assumption)) rfl (by exact pt_sl1 (by assumption) (by omega) (Nat.le_of_ble_eq_true rfl) rfl); exact rfl
    apply seq_plain; exact do_binInt rfl rfl rfl trivial; exact rfl
    apply seq_nil
    refine ct_cond rfl (fun h2 => ?_) (fun h2 => ?_)
    · have h2 : (j : Int) < l[i].to := by simpa using h2
      apply ct_seq
      apply ct_region
      apply seq_plain; exact do_move rfl; exact rfl
      apply seq_plain; exact do_move rfl; exact rfl
      apply seq_plain; exact do_indexAddrS rfl rfl rfl (by exact idx_nat (by omega)); exact rfl
      apply seq_plain; exact do_fieldAddr rfl rfl; exact rfl
      apply seq_plain; exact do_load rfl (by exact ext_get_old (by assumption) (by assumption)) rfl (by exact pt_sl1 (by assumption) (by omega) (Nat.le_of_ble_eq_true rfl) rfl); exact rfl
      apply seq_plain; exact do_assign rfl; exact rfl
      apply seq_nil
      apply ct_ret
      refine fin_flat hc rfl rfl ⟨?_, rfl⟩
      rw [rateAt_is hJ h1 h2]; rfl
    · have h2 : ¬ (j : Int) < l[i].to := by simpa using h2
      apply ct_skip
      apply ct_region
      apply seq_plain; exact do_move rfl; exact rfl
      apply seq_plain; exact do_succ rfl (by omega); exact rfl
      apply seq_plain; exact do_assign rfl; exact rfl
      apply seq_nil
      refine lt_sub (by repeat (first | exact sub_nil | apply sub_cons rfl)) (ih (i + 1) (by omega) (by omega) fun k hk hki => ?_)
      by_cases e : k = i
      · subst e; exact h2
      · exact hJ k hk (by omega)
  · have h1 : i = l.length := by simp at h1; omega
    subst h1
    apply ct_exit
    apply exit_eq; exact rfl
    apply ct_seq
    apply ct_region
    apply seq_plain; exact do_assign rfl; exact rfl
    apply seq_nil
    apply ct_ret
    refine fin_flat hc rfl rfl ⟨?_, rfl⟩
    rw [rateAt_end hJ]; rfl
theorem sumF_z {c : Nat → Int} {n : Nat} : sumF c 0 (n + 1) = sumF c 0 n + c n := by simp [sumF]
set_option maxHeartbeats 4000000 in
theorem refPrice_c {H : AHeap} {q : Option Addr} {c a b : Nat} {l : List Ra} (hs : SlAt H 3 ra q l) (hr : RatesOk l) (hab : a ≤ b) (hb : b ≤ 100000) :
    Ret Tryz.prog 56 [.slice q l.length c, I a, I b] H (I (priceP l a b)) H := by
  obtain ⟨R, hR⟩ : ∃ R, R = rateAt (l.map toRt) := ⟨_, rfl⟩
  have hlen := hr.len
  have hbd : ∀ j, 0 ≤ R j ∧ R j ≤ 100000 := fun j => by rw [hR]; exact rateAt_bd (raFrom_mem (by omega) hr.frm) j
  have hsb : ∀ n : Nat, 0 ≤ sumF R 0 n ∧ sumF R 0 n ≤ 100000 * (n : Int) := fun n => sumF_bd hbd 0 n
  have hsb2 : ∀ n : Nat, 0 ≤ sumF (fun i => R ((a + i) % 96)) 0 n ∧ sumF (fun i => R ((a + i) % 96)) 0 n ≤ 100000 * (n : Int) := fun n => sumF_bd (fun j => hbd _) 0 n
  have hup : upTo (l.map toRt) 96 = sumF R 0 96 := by
    unfold upTo
    exact sumF_congr fun i hi => by rw [hR, Nat.zero_add, Nat.mod_eq_of_lt hi]
  have hP : priceP l a b = ((b - a) / 96 : Nat) * sumF R 0 96 + sumF (fun i => R ((a + i) % 96)) 0 ((b - a) % 96) := by
    unfold priceP
    rw [untilP_up hr, untilP_up hr, price_eq hab, hup, hR]
  have hD : sumF R 0 96 * 1 = sumF R 0 96 := Int.mul_one _
  have eD : (b : Int) - (a : Int) = ((b - a : Nat) : Int) := by omega
  obtain ⟨k1, hk1⟩ : ∃ k1, k1 = (b - a) / 96 := ⟨_, rfl⟩
  obtain ⟨k2, hk2⟩ : ∃ k2, k2 = (b - a) % 96 := ⟨_, rfl⟩
  have hk1b : k1 ≤ 1042 := by omega
  have hk2b : k2 < 96 := by omega
  rw [← hk1, ← hk2] at hP
  have d96 := hsb 96
  have m1 := mulB (a := (k1 : Int)) (b := sumF R 0 96) (A := 1042) (B := 9600000) (by omega) (by omega)
  have m2 : -9223372036854775808 ≤ (k1 : Int) * sumF R 0 96 ∧ (k1 : Int) * sumF R 0 96 ≤ 9223372036854775807 := by omega
  refine fn_start Tryz.func56 rfl rfl rfl fun hc => ?_
  have cR : ∀ (j : Nat), Ret Tryz.prog 126 [.slice q l.length c, I j] (ext H H.fresh []) (I (R j)) (ext H H.fresh []) := fun j => by
    rw [hR]
    exact rate_c (hs.ext (ext_Ext hc)) (by omega)
  apply ct_seq
  apply ct_region
  apply seq_plain; exact do_assign rfl; exact rfl
  apply seq_nil
  apply ct_seq
  apply ct_region
  apply seq_plain; exact do_assign rfl; exact rfl
  apply seq_nil
  apply ct_seq
  apply ct_seq
  apply ct_region
  apply seq_plain; exact do_assign rfl; exact rfl
  apply seq_nil
  apply ct_block
  apply ct_loop
  refine lt_up (fun i => [(0, .slice q l.length c), (1, I a), (2, I b), (7, I (sumF R 0 i)), (8, I i)]) (fun _ => True) 96 (fun i hi _ ih => ?_) 0 (by omega) trivial (by repeat (first | exact sub_nil | apply sub_cons rfl))
  apply ct_seq
  apply ct_seq
  apply ct_region
  apply seq_plain; exact do_move rfl; exact rfl
  apply seq_plain; exact do_binInt rfl rfl rfl trivial; exact rfl
  apply seq_nil
  refine ct_cond rfl (fun h1 => ?_) (fun h1 => ?_)
  · have h1 : i < 96 := by simp at h1; omega
    have s1 := hsb i
    have s2 := hbd i
    apply ct_skip
    apply ct_seq
    apply ct_block
    apply ct_region
    apply seq_plain; exact do_move rfl; exact rfl
    apply seq_plain; exact do_move rfl; exact rfl
    apply seq_plain; exact do_move rfl; exact rfl
    apply seq_call (ht := rfl); exact cR i; exact rfl
    apply seq_plain; exact do_add rfl rfl (by omega); exact rfl
    apply seq_plain; exact do_assign rfl; exact rfl
    apply seq_nil
    apply ct_region
    apply seq_plain; exact do_move rfl; exact rfl
    apply seq_plain; exact do_succ rfl (by omega); exact rfl
    apply seq_plain; exact do_assign rfl; exact rfl
    apply seq_nil
    refine lt_sub ?_ (ih (i + 1) (by omega) (by omega) trivial)
    rw [sumF_z]
    (repeat (first | exact sub_nil | apply sub_cons rfl))
  have h1 : i = 96 := by simp at h1; omega
  subst h1
  clear ih
  apply ct_exit
  apply exit_eq; exact rfl
  apply ct_seq
  apply ct_region
  apply seq_plain; exact do_move rfl; exact rfl
  apply seq_plain; exact do_move rfl; exact rfl
  apply seq_plain; exact do_subN rfl rfl (by omega) (by omega); exact rfl
  apply seq_plain; exact do_quo rfl rfl (by omega) (by decide); exact rfl
  apply seq_plain; exact do_move rfl; exact rfl
  apply seq_plain; exact do_binInt rfl rfl rfl trivial; exact rfl
  apply seq_plain; exact do_assign rfl; exact rfl
  apply seq_nil
  apply ct_seq
  apply ct_seq
  apply ct_region
  apply seq_plain; exact do_assign rfl; exact rfl
  apply seq_nil
  apply ct_block
  apply ct_loop
  have ew : wrapI .i64 ((k1 : Int) * sumF R 0 96) = .int .i64 ((k1 : Int) * sumF R 0 96) := by rw [wrapI, wrap_i64 m2]
  rw [← hk1, ew]
  refine lt_up (fun i => [(0, .slice q l.length c), (1, I a), (2, I b), (9, I ((k1 : Int) * sumF R 0 96 + sumF (fun i => R ((a + i) % 96)) 0 i)), (10, I i)]) (fun _ => True) k2 (fun i hi _ ih => ?_) 0 (by omega) trivial (by simp only [sumF, Int.add_zero]; repeat (first | exact sub_nil | apply sub_cons rfl))
  apply ct_seq
  apply ct_seq
  apply ct_region
  apply seq_plain; exact do_move rfl; exact rfl
  apply seq_plain; exact do_move rfl; exact rfl
  apply seq_plain; exact do_move rfl; exact rfl
  apply seq_plain; exact do_subN rfl rfl (by omega) (by omega); exact rfl
  apply seq_plain; exact do_remN rfl rfl (by decide); exact rfl
  apply seq_plain; exact do_binInt rfl rfl rfl trivial; exact rfl
  apply seq_nil
  rw [← hk2]
  refine ct_cond rfl (fun h1 => ?_) (fun h1 => ?_)
  · have h1 : i < k2 := by simp at h1; omega
    have s1 := hsb2 i
    have s2 := hbd ((a + i) % 96)
    have e2 : (a : Int) + (i : Int) = ((a + i : Nat) : Int) := by omega
    apply ct_skip
    apply ct_seq
    apply ct_block
    apply ct_region
    apply seq_plain; exact do_move rfl; exact rfl
    apply seq_plain; exact do_move rfl; exact rfl
    apply seq_plain; exact do_move rfl; exact rfl
    apply seq_plain; exact do_move rfl; exact rfl
    apply seq_plain; exact do_add rfl rfl (by omega); exact rfl
    apply seq_plain; exact do_remN rfl rfl (by decide); exact rfl
    rw [e2]
    skip
    apply seq_call (ht := rfl); exact cR ((a + i) % 96); exact rfl
    apply seq_plain; exact do_add rfl rfl (by omega); exact rfl
    apply seq_plain; exact do_assign rfl; exact rfl
    apply seq_nil
    apply ct_region
    apply seq_plain; exact do_move rfl; exact rfl
    apply seq_plain; exact do_succ rfl (by omega); exact rfl
    apply seq_plain; exact do_assign rfl; exact rfl
    apply seq_nil
    refine lt_sub ?_ (ih (i + 1) (by omega) (by omega) trivial)
    rw [sumF_z (c := fun i => R ((a + i) % 96)) (n := i), ← Int.add_assoc]
    (repeat (first | exact sub_nil | apply sub_cons rfl))
  have h1 : i = k2 := by simp at h1; omega
  subst h1
  apply ct_exit
  apply exit_eq; exact rfl
  apply ct_seq
  apply ct_region
  apply seq_plain; exact do_move rfl; exact rfl
  apply seq_plain; exact do_assign rfl; exact rfl
  apply seq_nil
  apply ct_ret
  rw [← hP]
  exact fin_flat hc rfl rfl ⟨rfl, rfl⟩
end Go.Proofs.YtfegloadbajbhaaGreatDoor
