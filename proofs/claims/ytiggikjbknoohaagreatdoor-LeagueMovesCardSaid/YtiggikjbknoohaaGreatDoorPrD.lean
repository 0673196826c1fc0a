/- Contracts: the reference's moves, divisions that are the same. -/
import Derived.Test.YtiggikjbknoohaaGreatDoorPrC
noncomputable section
namespace Go.Proofs.YtiggikjbknoohaaGreatDoor
open Go Go.Den
set_option maxRecDepth 100000

theorem firstL_cons {a : Int} {l : List Int} : firstL (a :: l) = if a ≠ 0 then a else firstL l := by
  unfold firstL
  by_cases h : a = 0
  · subst h; simp
  · simp [h]
theorem divE_zero : ∀ {l : List (List ByteArray)} {seen : List ByteArray}, divE seen l = 0 → ∀ x ∈ l, x.length ≤ 24
  | [], _, _, x, hx => by cases hx
  | a :: r, seen, h, x, hx => by
    unfold divE at h
    by_cases h1 : decide ((a.length : Int) > 24) = true
    · rw [if_pos h1] at h; cases h
    · rw [if_neg h1] at h
      by_cases h2 : rowE seen a = 0
      · rw [if_neg (by simp [h2])] at h
        rcases List.mem_cons.1 hx with rfl | hx
        · simp at h1; omega
        · exact divE_zero h x hx
      · rw [if_pos h2] at h; exact absurd h h2

/-- divisions, and a number of teams that may move -/
structure GoodD (d : List Sz) (k : Nat) : Prop where
  n1 : 1 ≤ d.length
  n24 : d.length ≤ 24
  row : ∀ x ∈ d, x.l.length ≤ 24 ∧ 2 * k ≤ x.l.length
  k24 : k ≤ 24
theorem divs_good {d : List Sz} (h : divsE (dl d) = 0) : 1 ≤ d.length ∧ d.length ≤ 24 ∧ ∀ x ∈ d, x.l.length ≤ 24 := by
  have hel : (dl d).length = d.length := List.length_map _
  unfold divsE at h
  by_cases h0 : (dl d).length = 0
  · rw [if_pos h0] at h; cases h
  · rw [if_neg h0] at h
    by_cases h1 : decide (((dl d).length : Int) > 24) = true
    · rw [if_pos h1] at h; cases h
    · rw [if_neg h1] at h
      simp at h1
      refine ⟨by omega, by omega, fun x hx => divE_zero h _ (List.mem_map.2 ⟨x, hx, rfl⟩)⟩
theorem good_d {d : List Sz} {k : Int} (h : divsE (dl d) = 0) (hk : moveE (dl d) k = 0) : ∃ n : Nat, k = n ∧ GoodD d n := by
  obtain ⟨a, b, c⟩ := divs_good h
  have t := firstL_zero hk
  have t1 := outL_f (whenL_zero (t _ (List.mem_cons_self ..)) (by decide))
  have t2 := whenL_zero (t (whenL ((dl d).any fun l => decide ((l.length : Int) < 2 * k)) 2) (by simp)) (by decide)
  obtain ⟨n, rfl⟩ := Int.eq_ofNat_of_zero_le t1.1
  refine ⟨n, rfl, a, b, fun x hx => ⟨c x hx, ?_⟩, by omega⟩
  rw [List.any_eq_false] at t2
  have := t2 x.l (List.mem_map.2 ⟨x, hx, rfl⟩)
  simp at this
  omega

theorem refCheckMove_c {H : AHeap} {q : Option Addr} {c : Nat} {d : List Sz} {k : Int} (hd : SzW H q d) (hn : d.length ≤ 27) :
    Ret Tryz.prog 32 [.slice q d.length c, I k] H (I (moveE (dl d) k)) H := by
  refine fn_start Tryz.func32 rfl rfl rfl fun hc => ?_
  apply ct_seq
  apply ct_region
  apply seq_plain; exact do_assign rfl; exact rfl
  apply seq_nil
  apply ct_seq
  apply ct_seq
  apply ct_region
  apply seq_plain; exact do_move rfl; exact rfl
  apply seq_call (ht := rfl); exact outside24; exact rfl
  apply seq_nil
  refine ct_cond rfl (fun h0 => ?_) (fun h0 => ?_)
  · have h0 : outL k 0 24 = true := h0
    apply ct_seq
    apply ct_region
    apply seq_plain; exact do_assign rfl; exact rfl
    apply seq_nil
    apply ct_ret
    refine fin_flat hc rfl rfl ⟨?_, rfl⟩
    unfold moveE
    rw [firstL_cons, h0]; rfl
  have h0 : outL k 0 24 = false := h0
  have hk := outL_f h0
  have hk2 : -9223372036854775808 ≤ 2 * k ∧ 2 * k ≤ 9223372036854775807 := by omega
  have e0 : moveE (dl d) k = whenL ((dl d).any fun l => decide ((l.length : Int) < 2 * k)) 2 := by
    unfold moveE
    rw [firstL_cons, h0, if_neg (by simp [whenL]), firstL_cons]
    by_cases h : whenL ((dl d).any fun l => decide ((l.length : Int) < 2 * k)) 2 = 0
    · rw [if_neg (fun g => g h), h]; rfl
    · rw [if_pos h]
  rw [e0]
  apply ct_skip
  apply ct_seq
  apply ct_seq
  apply ct_region
  apply seq_plain; exact do_assign rfl; exact rfl
  apply seq_nil
  apply ct_block
  apply ct_loop
  refine lt_up (fun i => [(0, .slice q d.length c), (1, I k), (5, I i)]) (fun i => ∀ j (hj : j < d.length), j < i → ¬ (d[j].l.length : Int) < 2 * k) d.length (fun i hi hJ ih => ?_) 0 (by omega) (by intros; omega) (by repeat (first | exact sub_nil | apply sub_cons rfl))
  apply ct_seq
  apply ct_seq
  apply ct_region
  apply seq_plain; exact do_move rfl; exact rfl
  apply seq_plain; exact do_move rfl; exact rfl
  apply seq_plain; exact do_lenS rfl rfl rfl; exact rfl
  apply seq_plain; exact do_binInt rfl rfl rfl trivial; exact rfl
  apply seq_nil
  refine ct_cond rfl (fun h1 => ?_) (fun h1 => ?_)
  · simp only [decide_eq_true_eq, Int.ofNat_lt] at h1
    obtain ⟨b, o, cs, z, s, ro, rfl, hg, hw⟩ := hd.at_.out (by intro e; rw [e] at h1; simp at h1)
    apply ct_skip
    apply ct_seq
    apply ct_block
    apply ct_seq
    apply ct_region
    apply seq_plain; exact do_move rfl; exact rfl
    apply seq_plain; exact do_move rfl; exact rfl
    apply seq_plain; exact do_indexAddrS rfl rfl rfl (by exact idx_nat (by omega)); exact rfl
    apply seq_plain; exact do_load rfl (by exact ext_get_old (by assumption) (by assumption)) rfl (by exact sz_get (by assumption) (by omega)); exact rfl
    apply seq_plain; exact do_lenS rfl rfl rfl; exact rfl
    apply seq_plain; exact do_move rfl; exact rfl
    apply seq_plain; exact do_mul rfl rfl (by assumption); exact rfl
    apply seq_plain; exact do_binInt rfl rfl rfl trivial; exact rfl
    apply seq_nil
    refine ct_cond rfl (fun h2 => ?_) (fun h2 => ?_)
    · apply ct_seq
      apply ct_region
      apply seq_plain; exact do_assign rfl; exact rfl
      apply seq_nil
      apply ct_ret
      refine fin_flat hc rfl rfl ⟨?_, rfl⟩
      have : ((dl d).any fun l => decide ((l.length : Int) < 2 * k)) = true := by
        rw [List.any_eq_true]
        exact ⟨d[i].l, List.mem_map.2 ⟨d[i], List.getElem_mem h1, rfl⟩, h2⟩
      rw [this]; rfl
    · have h2 := of_decide_eq_false h2
      apply ct_skip
      apply ct_region
      apply seq_plain; exact do_move rfl; exact rfl
      apply seq_plain; exact do_succ rfl (by omega); exact rfl
      apply seq_plain; exact do_assign rfl; exact rfl
      apply seq_nil
      refine lt_sub (by repeat (first | exact sub_nil | apply sub_cons rfl)) (ih (i + 1) (by omega) (by omega) fun j hj hji => ?_)
      rcases Nat.lt_or_ge j i with h | h
      · exact hJ j hj h
      · have : j = i := by omega
        subst this; exact h2
  · simp only [decide_eq_false_iff_not, Int.ofNat_lt] at h1
    apply ct_exit
    apply exit_eq; exact rfl
    apply ct_seq
    apply ct_region
    apply seq_plain; exact do_assign rfl; exact rfl
    apply seq_nil
    apply ct_ret
    refine fin_flat hc rfl rfl ⟨?_, rfl⟩
    have : ((dl d).any fun l => decide ((l.length : Int) < 2 * k)) = false := by
      rw [List.any_eq_false]
      intro x hx
      obtain ⟨y, hy, rfl⟩ := List.mem_map.1 hx
      obtain ⟨j, hj, rfl⟩ := List.mem_iff_getElem.1 hy
      have := hJ j hj (by omega)
      simpa using this
    rw [this]; rfl

theorem sameDivisions_c {H : AHeap} {p q : Option Addr} {c c' : Nat} {d e : List Sz} (hd : SzAt H p d) (he : SzAt H q e) (hn : d.length ≤ 27) (hr : ∀ x ∈ d, x.l.length ≤ 1000) :
    Ret Tryz.prog 33 [.slice p d.length c, .slice q e.length c'] H (.bool (decide (dl d = dl e))) H := by
  refine fn_start Tryz.func33 rfl rfl rfl fun hc => ?_
  apply ct_seq
  apply ct_region
  apply seq_plain; exact do_assign rfl; exact rfl
  apply seq_nil
  apply ct_seq
  apply ct_seq
  apply ct_region
  apply seq_plain; exact do_move rfl; exact rfl
  apply seq_plain; exact do_lenS rfl rfl rfl; exact rfl
  apply seq_plain; exact do_move rfl; exact rfl
  apply seq_plain; exact do_lenS rfl rfl rfl; exact rfl
  apply seq_plain; exact do_binInt rfl rfl rfl trivial; exact rfl
  apply seq_nil
  refine ct_cond rfl (fun h0 => ?_) (fun h0 => ?_)
  · have h0 : d.length ≠ e.length := by simp at h0; omega
    apply ct_seq
    apply ct_region
    apply seq_plain; exact do_assign rfl; exact rfl
    apply seq_nil
    apply ct_ret
    refine fin_flat hc rfl rfl ⟨?_, rfl⟩
    rw [decide_eq_false (fun h => h0 (by have := congrArg List.length h; simpa using this))]; rfl
  · have h0 : d.length = e.length := by simp at h0; omega
    apply ct_skip
    apply ct_seq
    apply ct_seq
    apply ct_region
    apply seq_plain; exact do_assign rfl; exact rfl
    apply seq_nil
    apply ct_block
    apply ct_loop
    refine lt_up (fun i => [(0, .slice p d.length c), (1, .slice q e.length c'), (5, I i)]) (fun i => ∀ j (hj : j < d.length) (hj' : j < e.length), j < i → d[j].l = e[j].l) d.length (fun i hi hJ ih => ?_) 0 (by omega) (by intros; omega) (by repeat (first | exact sub_nil | apply sub_cons rfl))
    apply ct_seq
    apply ct_seq
    apply ct_region
    apply seq_plain; exact do_move rfl; exact rfl
    apply seq_plain; exact do_move rfl; exact rfl
    apply seq_plain; exact do_lenS rfl rfl rfl; exact rfl
    apply seq_plain; exact do_binInt rfl rfl rfl trivial; exact rfl
    apply seq_nil
    refine ct_cond rfl (fun h1 => ?_) (fun h1 => ?_)
    · simp only [decide_eq_true_eq, Int.ofNat_lt] at h1
      have h1' : i < e.length := by omega
      obtain ⟨b, o, cs, z, s, ro, rfl, hg, hw⟩ := hd.at_.out (by intro e; rw [e] at h1; simp at h1)
      obtain ⟨b', o', cs', z', s', ro', rfl, hg', hw'⟩ := he.at_.out (fun h => by have h5 := congrArg List.length h; simp only [List.length_nil] at h5; omega)
      have hx := hd.each _ (List.getElem_mem h1)
      have hy := he.each _ (List.getElem_mem h1')
      have hlen := hr _ (List.getElem_mem h1)
      apply ct_skip
      apply ct_seq
      apply ct_block
      apply ct_seq
      apply ct_draw (by assumption); decide +kernel
      apply sd_plain (hfree := rfl); intro _; exact do_move rfl; exact rfl
      apply sd_plain (hfree := rfl); intro _; exact do_move rfl; exact rfl
      apply sd_plain (hfree := rfl); intro _; exact do_indexAddrS rfl rfl rfl (by exact idx_nat (by omega)); exact rfl
      apply sd_look (hfree := rfl); exact do_load rfl (by exact ext_get_old (by assumption) (by assumption)) rfl (by exact sz_get (by assumption) (by omega)); exact rfl
      apply sd_plain (hfree := rfl); intro _; exact do_move rfl; exact rfl
      apply sd_plain (hfree := rfl); intro _; exact do_move rfl; exact rfl
      apply sd_plain (hfree := rfl); intro _; exact do_indexAddrS rfl rfl rfl (by exact idx_nat (by omega)); exact rfl
      apply sd_look (hfree := rfl); exact do_load rfl (by exact ext_get_old (by assumption) (by assumption)) rfl (by exact sz_get (by assumption) (by omega)); exact rfl
      apply sd_call (ht := rfl); exact sameWords_c (l := d[i].l) (m := e[i].l) (hx.ext (ext_Ext hc)) (hy.ext (ext_Ext hc)) (by omega); exact rfl
      apply sd_plain (hfree := rfl); intro _; exact do_unOp rfl rfl; exact rfl
      apply sd_nil
      refine ct_cond rfl (fun h2 => ?_) (fun h2 => ?_)
      · have h2 : d[i].l ≠ e[i].l := by simpa using h2
        apply ct_seq
        apply ct_region
        apply seq_plain; exact do_assign rfl; exact rfl
        apply seq_nil
        apply ct_ret
        refine fin_flat hc rfl rfl ⟨?_, rfl⟩
        rw [decide_eq_false (fun h => h2 (by
          have := congrArg (fun l => l[i]?) h
          simpa [h1, h1'] using this))]; rfl
      · have h2 : d[i].l = e[i].l := by simpa using h2
        apply ct_skip
        apply ct_region
        apply seq_plain; exact do_move rfl; exact rfl
        apply seq_plain; exact do_succ rfl (by omega); exact rfl
        apply seq_plain; exact do_assign rfl; exact rfl
        apply seq_nil
        refine lt_sub ?_ (ih (i + 1) (by omega) (by omega) fun j hj hj' hji => ?_)
        · (repeat (first | exact sub_nil | apply sub_cons rfl))
        · rcases Nat.lt_or_ge j i with h | h
          · exact hJ j hj hj' h
          · have : j = i := by omega
            subst this; exact h2
    · simp only [decide_eq_false_iff_not, Int.ofNat_lt] at h1
      apply ct_exit
      apply exit_eq; exact rfl
      apply ct_seq
      apply ct_region
      apply seq_plain; exact do_assign rfl; exact rfl
      apply seq_nil
      apply ct_ret
      refine fin_flat hc rfl rfl ⟨?_, rfl⟩
      rw [decide_eq_true (List.ext_getElem (by simpa using h0) fun j hj hj' => by
        rw [List.getElem_map, List.getElem_map]
        exact hJ j (by simpa using hj) (by simpa using hj') (by simp at hj; omega))]; rfl
end Go.Proofs.YtiggikjbknoohaaGreatDoor
