/- Contracts: what is wrong with a race; the most of a team. -/
import Derived.Test.YtiggikjbknoohaaGreatDoorElA
noncomputable section
namespace Go.Proofs.YtiggikjbknoohaaGreatDoor
open Go Go.Den
set_option maxRecDepth 10000

def pairsL (n : Int) (l : List (Int × Int)) : Int := firstL (l.map fun p => pairL n p.1 p.2)
theorem pairsL_at {n : Int} {l : List (Int × Int)} {i : Nat} (hi : i < l.length) (h : ∀ j (hj : j < l.length), j < i → pairL n l[j].1 l[j].2 = 0) (hne : pairL n l[i].1 l[i].2 ≠ 0) : pairsL n l = pairL n l[i].1 l[i].2 := by
  unfold pairsL
  rw [firstL_at (i := i) (by simpa using hi) (fun j hj hji => by simpa using h j (by simpa using hj) hji) (by simpa using hne)]; simp
theorem pairsL_none {n : Int} {l : List (Int × Int)} (h : ∀ j (hj : j < l.length), pairL n l[j].1 l[j].2 = 0) : pairsL n l = 0 := by
  unfold pairsL
  exact firstL_none fun j hj => by simpa using h j (by simpa using hj)
theorem pairL_who {n a b : Int} (h : [a, b].any (unknownL n) = true) : pairL n a b = 10 := by simp [pairL, firstL, whenL, h]
theorem pairL_own {n a b : Int} (h : [a, b].any (unknownL n) = false) (h2 : (a == b) = true) : pairL n a b = 9 := by simp [pairL, firstL, whenL, h, h2]
theorem pairL_ok {n a b : Int} (h : [a, b].any (unknownL n) = false) (h2 : (a == b) = false) : pairL n a b = 0 := by simp [pairL, firstL, whenL, h, h2]

theorem checkPairs_c {H : AHeap} {n : Int} {q : Option Addr} {c : Nat} {l : List (Int × Int)} (hs : SlAt H 2 p2 q l) (hn : l.length < 1000000000000) :
    Ret Tryz.prog 108 [I n, .slice q l.length c] H (I (pairsL n l)) H := by
  refine fn_start Tryz.func108 rfl rfl rfl fun hc => ?_
  apply ct_seq
  apply ct_region
  apply seq_plain; exact do_assign rfl; exact rfl
  apply seq_nil
  apply ct_seq
  apply ct_seq
  apply ct_region
  apply seq_plain; exact do_move rfl; exact rfl
  apply seq_plain; exact do_lenS rfl rfl rfl; exact rfl
  apply seq_plain; exact do_move rfl; exact rfl
  apply seq_nil
  apply ct_block
  apply ct_loop
  refine lt_upB hc (fun i => [(0, I n), (8, .slice q l.length c), (9, I l.length), (10, I i)]) (fun i => ∀ j (hj : j < l.length), j < i → pairL n l[j].1 l[j].2 = 0) l.length (fun i h lo hc' hE0 hi hJ ih => ?_) 0 (by omega) (by intros; omega) (by repeat (first | exact sub_nil | apply sub_cons rfl))
  have hE := (ext_Ext hc).trans hE0
  clear hE0
  apply ct_seq
  apply ct_region
  apply seq_plain; exact do_binInt rfl rfl rfl trivial; exact rfl
  apply seq_nil
  apply ct_seq
  refine ct_cond rfl (fun h1 => ?_) (fun h1 => ?_)
  · simp only [decide_eq_true_eq, Int.ofNat_lt] at h1
    obtain ⟨b, o, cs, z, s, ro, rfl, hg, hw⟩ := hs.out (by intro e; rw [e] at h1; simp at h1)
    have hg := hE _ _ hg
    apply ct_skip
    apply ct_seq
    apply ct_block
    apply ct_seq
    apply ct_region
    apply seq_plain; exact do_indexAddrS rfl rfl rfl (by exact idx_nat (by omega)); exact rfl
    apply seq_plain; exact do_load rfl (by exact ext_get_old (by assumption) (by assumption)) rfl (by exact pt_sl (by assumption) (by omega)); exact rfl
    apply seq_newP; exact do_alloc rfl rfl; exact rfl
    apply seq_putC (hc := by assumption); rotate_left; exact do_store rfl rfl (by exact ext_get_new rfl) rfl rfl (nb_own _); rotate_left; exact Nat.le_of_ble_eq_true rfl
    apply ct_seq
    apply ct_region
    apply seq_plain; exact do_load rfl (by exact ext_get_new rfl) rfl (by exact rfl); exact rfl
    apply seq_plain; exact do_move rfl; exact rfl
    apply seq_call (ht := rfl); exact check162; exact rfl
    apply seq_plain; exact do_assign rfl; exact rfl
    apply seq_nil
    apply ct_seq
    apply ct_region
    apply seq_plain; exact do_move rfl; exact rfl
    apply seq_plain; exact do_binInt rfl rfl rfl trivial; exact rfl
    apply seq_nil
    refine ct_cond rfl (fun d1 => ?_) (fun d1 => ?_)
    · have d1 : (pairL n l[i].1 l[i].2 != 0) = true := d1
      apply ct_seq
      apply ct_region
      apply seq_plain; exact do_move rfl; exact rfl
      apply seq_plain; exact do_assign rfl; exact rfl
      apply seq_nil
      apply ct_ret
      refine fin_flatB hc hc' hE rfl rfl ⟨?_, rfl⟩
      rw [pairsL_at h1 hJ (by simpa using d1)]; rfl
    · have d1 : (pairL n l[i].1 l[i].2 != 0) = false := d1
      apply ct_skip
      apply ct_region
      apply seq_plain; exact do_succ rfl (by omega); exact rfl
      apply seq_plain; exact do_move rfl; exact rfl
      apply seq_nil
      refine lt_sub ?_ (ih (i + 1) _ _ _ hc' (.refl _) (by omega) (by omega) fun j hj hji => ?_)
      · (repeat (first | exact sub_nil | apply sub_cons rfl))
      · rcases Nat.lt_or_ge j i with h | h
        · exact hJ j hj h
        · have : j = i := by omega
          subst this; simpa using d1
  · simp only [decide_eq_false_iff_not, Int.ofNat_lt] at h1
    apply ct_exit
    apply exit_eq; exact rfl
    apply ct_seq
    apply ct_region
    apply seq_plain; exact do_assign rfl; exact rfl
    apply seq_nil
    apply ct_ret
    refine fin_flatB hc hc' hE rfl rfl ⟨?_, rfl⟩
    rw [pairsL_none fun j hj => hJ j hj (by omega)]; rfl

theorem unknown_first {n a b : Int} (h : outL a 0 (n - 1) = true) : [a, b].any (unknownL n) = true := by
  simp [outL] at h
  simp [unknownL]; omega
theorem unknown_second {n a b : Int} (h : outL a 0 (n - 1) = false) : [a, b].any (unknownL n) = outL b 0 (n - 1) := by
  simp [outL] at h
  rw [Bool.eq_iff_iff]
  simp [unknownL, outL]; omega

theorem refPairs_c {H : AHeap} {n : Int} {q : Option Addr} {c : Nat} {l : List (Int × Int)} (hs : SlAt H 2 p2 q l) (hn : l.length < 1000000000000) (hb : -1000000000000 ≤ n ∧ n ≤ 1000000000000) :
    Ret Tryz.prog 105 [I n, .slice q l.length c] H (I (pairsL n l)) H := by
  refine fn_start Tryz.func105 rfl rfl rfl fun hc => ?_
  apply ct_seq
  apply ct_region
  apply seq_plain; exact do_assign rfl; exact rfl
  apply seq_nil
  apply ct_seq
  apply ct_seq
  apply ct_region
  apply seq_plain; exact do_assign rfl; exact rfl
  apply seq_nil
  apply ct_block
  apply ct_loop
  refine lt_up (fun i => [(0, I n), (1, .slice q l.length c), (5, I i)]) (fun i => ∀ j (hj : j < l.length), j < i → pairL n l[j].1 l[j].2 = 0) l.length (fun i hi hJ ih => ?_) 0 (by omega) (by intros; omega) (by repeat (first | exact sub_nil | apply sub_cons rfl))
  apply ct_seq
  apply ct_seq
  apply ct_region
  apply seq_plain; exact do_move rfl; exact rfl
  apply seq_plain; exact do_move rfl; exact rfl
  apply seq_plain; exact do_lenS rfl rfl rfl; exact rfl
  apply seq_plain; exact do_binInt rfl rfl rfl trivial; exact rfl
  apply seq_nil
  refine ct_cond rfl (fun h1 => ?_) (fun h1 => ?_)
  · simp only [decide_eq_true_eq, Int.ofNat_lt] at h1
    obtain ⟨b, o, cs, z, s, ro, rfl, hg, hw⟩ := hs.out (by intro e; rw [e] at h1; simp at h1)
    apply ct_skip
    apply ct_seq
    apply ct_block
    apply ct_seq
    apply ct_seq
    apply ct_region
    apply seq_plain; exact do_move rfl; exact rfl
    apply seq_plain; exact do_move rfl; exact rfl
    apply seq_plain; exact do_indexAddrS rfl rfl rfl (by exact idx_nat (by omega)); exact rfl
    apply seq_plain; exact do_indexAddrA rfl rfl rfl (by exact rfl); exact rfl
    apply seq_plain; exact do_load rfl (by exact ext_get_old (by assumption) (by assumption)) rfl (by exact pt_sl1 (by assumption) (by omega) (Nat.le_of_ble_eq_true rfl) rfl); exact rfl
    apply seq_plain; exact do_move rfl; exact rfl
    apply seq_plain; exact do_sub rfl rfl (by omega); exact rfl
    apply seq_call (ht := rfl); exact outside24; exact rfl
    apply seq_plain; exact do_move rfl; exact rfl
    refine seq_J [(0, I n), (1, .slice (some ⟨b, o, none⟩) l.length c), (5, I i), (29, .bool ([l[i].1, l[i].2].any (unknownL n)))] (ds := []) (h := ext H H.fresh []) ?_ ?_
    · refine seq_gsplit rfl rfl (fun u1 => ?_) (fun u1 => ?_)
      · rw [unknown_first u1]
        apply seq_passed (hd := rfl) (hl := rfl) (hb := rfl); exact rfl
        apply seq_passed (hd := rfl) (hl := rfl) (hb := rfl); exact rfl
        apply seq_passed (hd := rfl) (hl := rfl) (hb := rfl); exact rfl
        apply seq_passed (hd := rfl) (hl := rfl) (hb := rfl); exact rfl
        apply seq_passed (hd := rfl) (hl := rfl) (hb := rfl); exact rfl
        apply seq_passed (hd := rfl) (hl := rfl) (hb := rfl); exact rfl
        apply seq_passed (hd := rfl) (hl := rfl) (hb := rfl); exact rfl
        apply seq_passed (hd := rfl) (hl := rfl) (hb := rfl); exact rfl
        apply seq_plain; exact do_pick_t rfl rfl; exact rfl
        apply seq_nil
        exact jp_of (by repeat (first | exact sub_nil | apply sub_cons rfl))
      · rw [unknown_second u1]
        apply seq_guard (hd := rfl) (hl := rfl); exact do_move rfl; exact rfl
        apply seq_guard (hd := rfl) (hl := rfl); exact do_move rfl; exact rfl
        apply seq_guard (hd := rfl) (hl := rfl); exact do_indexAddrS rfl rfl rfl (by exact idx_nat (by omega)); exact rfl
        apply seq_guard (hd := rfl) (hl := rfl); exact do_indexAddrA rfl rfl rfl (by exact rfl); exact rfl
        apply seq_guard (hd := rfl) (hl := rfl); exact do_load rfl (by exact ext_get_old (by assumption) (by assumption)) rfl (by exact pt_sl1 (by assumption) (by omega) (Nat.le_of_ble_eq_true rfl) rfl); exact rfl
        apply seq_guard (hd := rfl) (hl := rfl); exact do_move rfl; exact rfl
        apply seq_guard (hd := rfl) (hl := rfl); exact do_sub rfl rfl (by omega); exact rfl
        apply seq_gcall (hg := rfl) (hl := rfl) (ht := rfl); exact outside24; exact rfl
        apply seq_plain; exact do_pick_f rfl rfl; exact rfl
        apply seq_nil
        exact jp_of (by repeat (first | exact sub_nil | apply sub_cons rfl))
    skip
    refine ct_cond rfl (fun d1 => ?_) (fun d1 => ?_)
    · apply ct_seq
      apply ct_region
      apply seq_plain; exact do_assign rfl; exact rfl
      apply seq_nil
      apply ct_ret
      refine fin_flat hc rfl rfl ⟨?_, rfl⟩
      have e := pairL_who d1
      rw [pairsL_at h1 hJ (by rw [e]; decide), e]; rfl
    · apply ct_skip
      apply ct_seq
      apply ct_draw (by assumption); decide +kernel
      apply sd_plain (hfree := rfl); intro _; exact do_move rfl; exact rfl
      apply sd_plain (hfree := rfl); intro _; exact do_move rfl; exact rfl
      apply sd_plain (hfree := rfl); intro _; exact do_indexAddrS rfl rfl rfl (by exact idx_nat (by omega)); exact rfl
      apply sd_plain (hfree := rfl); intro _; exact do_indexAddrA rfl rfl rfl (by exact rfl); exact rfl
      apply sd_look (hfree := rfl); exact do_load rfl (by exact ext_get_old (by assumption) (by assumption)) rfl (by exact pt_sl1 (by assumption) (by omega) (Nat.le_of_ble_eq_true rfl) rfl); exact rfl
      apply sd_plain (hfree := rfl); intro _; exact do_move rfl; exact rfl
      apply sd_plain (hfree := rfl); intro _; exact do_move rfl; exact rfl
      apply sd_plain (hfree := rfl); intro _; exact do_indexAddrS rfl rfl rfl (by exact idx_nat (by omega)); exact rfl
      apply sd_plain (hfree := rfl); intro _; exact do_indexAddrA rfl rfl rfl (by exact rfl); exact rfl
      apply sd_look (hfree := rfl); exact do_load rfl (by exact ext_get_old (by assumption) (by assumption)) rfl (by exact pt_sl1 (by assumption) (by omega) (Nat.le_of_ble_eq_true rfl) rfl); exact rfl
      apply sd_plain (hfree := rfl); intro _; exact do_binInt rfl rfl rfl trivial; exact rfl
      apply sd_nil
      refine ct_cond rfl (fun d2 => ?_) (fun d2 => ?_)
      · apply ct_seq
        apply ct_region
        apply seq_plain; exact do_assign rfl; exact rfl
        apply seq_nil
        apply ct_ret
        refine fin_flat hc rfl rfl ⟨?_, rfl⟩
        have e := pairL_own d1 d2
        rw [pairsL_at h1 hJ (by rw [e]; decide), e]; rfl
      · apply ct_skip
        apply ct_region
        apply seq_plain; exact do_move rfl; exact rfl
        apply seq_plain; exact do_succ rfl (by omega); exact rfl
        apply seq_plain; exact do_assign rfl; exact rfl
        apply seq_nil
        refine lt_sub ?_ (ih (i + 1) (by omega) (by omega) fun j hj hji => ?_)
        · (repeat (first | exact sub_nil | apply sub_cons rfl))
        · rcases Nat.lt_or_ge j i with h | h
          · exact hJ j hj h
          · have : j = i := by omega
            subst this; exact pairL_ok d1 d2
  · simp only [decide_eq_false_iff_not, Int.ofNat_lt] at h1
    apply ct_exit
    apply exit_eq; exact rfl
    apply ct_seq
    apply ct_region
    apply seq_plain; exact do_assign rfl; exact rfl
    apply seq_nil
    apply ct_ret
    refine fin_flat hc rfl rfl ⟨?_, rfl⟩
    rw [pairsL_none fun j hj => hJ j hj (by omega)]; rfl

theorem whenL_zero {b : Bool} {e : Int} (h : whenL b e = 0) (he : e ≠ 0) : b = false := by
  cases b
  · rfl
  · exact absurd h he
theorem pairL_zero {n a b : Int} (h : pairL n a b = 0) : (0 ≤ a ∧ a < n) ∧ (0 ≤ b ∧ b < n) ∧ a ≠ b := by
  have q := firstL_zero h
  have q1 := whenL_zero (q _ (List.mem_cons_self ..)) (by decide)
  have q2 := whenL_zero (q _ (List.mem_cons_of_mem _ (List.mem_cons_self ..))) (by decide)
  simp [unknownL] at q1
  simp at q2
  exact ⟨by omega, by omega, q2⟩
end Go.Proofs.YtiggikjbknoohaaGreatDoor
