/- Contracts: drawn orders. -/
import Derived.Test.YtfegloadbajbhaaGreatDoorMeA
noncomputable section
namespace Go.Proofs.YtfegloadbajbhaaGreatDoor
open Go Go.Den
set_option maxRecDepth 100000
def drwE (key n : Int) : Int := whenL (((decide (key < 1) || decide (key > 2147483646)) || decide (n < 0)) || decide (n > 256)) 3
theorem checkDraw_c {H : AHeap} {key n : Int} : Ret Tryz.prog 77 [I key, I n] H (I (drwE key n)) H := by
  refine fn_start Tryz.func77 rfl rfl rfl fun hc => ?_
  apply ct_seq
  apply ct_region
  apply seq_plain; exact do_assign rfl; exact rfl
  apply seq_nil
  apply ct_seq
  apply ct_seq
  apply ct_region
  apply seq_plain; exact do_move rfl; exact rfl
  apply seq_plain; exact do_binInt rfl rfl rfl trivial; exact rfl
  apply seq_plain; exact do_move rfl; exact rfl
  obtain ⟨T, hT⟩ : ∃ T, T = (((decide (key < 1) || decide (key > 2147483646)) || decide (n < 0)) || decide (n > 256)) := ⟨_, rfl⟩
  have hE : drwE key n = whenL T 3 := by rw [hT]; rfl
  rw [hE]
  refine seq_J [(18, .bool T)] (ds := []) (h := ext H H.fresh []) ?_ ?_
  · refine seq_gsplit rfl rfl (fun u => ?_) (fun u => ?_)
    · have u : decide (key < 1) = true := u
      have e : T = true := by rw [hT, u]; rfl
      rw [e]
      apply seq_passed (hd := rfl) (hl := rfl) (hb := rfl); exact rfl
      apply seq_passed (hd := rfl) (hl := rfl) (hb := rfl); exact rfl
      apply seq_plain; exact do_pick_t rfl rfl; exact rfl
      apply seq_plain; exact do_move rfl; exact rfl
      apply seq_passed (hd := rfl) (hl := rfl) (hb := rfl); exact rfl
      apply seq_passed (hd := rfl) (hl := rfl) (hb := rfl); exact rfl
      apply seq_plain; exact do_pick_t rfl rfl; exact rfl
      apply seq_plain; exact do_move rfl; exact rfl
      apply seq_passed (hd := rfl) (hl := rfl) (hb := rfl); exact rfl
      apply seq_passed (hd := rfl) (hl := rfl) (hb := rfl); exact rfl
      apply seq_plain; exact do_pick_t rfl rfl; exact rfl
      apply seq_nil
      exact jp_of (by repeat (first | exact sub_nil | apply sub_cons rfl))
    have u : decide (key < 1) = false := u
    apply seq_guard (hd := rfl) (hl := rfl); exact do_move rfl; exact rfl
    apply seq_guard (hd := rfl) (hl := rfl); exact do_binInt rfl rfl rfl trivial; exact rfl
    apply seq_plain; exact do_pick_f rfl rfl; exact rfl
    apply seq_plain; exact do_move rfl; exact rfl
    refine seq_gsplit rfl rfl (fun u2 => ?_) (fun u2 => ?_)
    · have u2 : decide (key > 2147483646) = true := u2
      have e : T = true := by rw [hT, u, u2]; rfl
      rw [e]
      apply seq_passed (hd := rfl) (hl := rfl) (hb := rfl); exact rfl
      apply seq_passed (hd := rfl) (hl := rfl) (hb := rfl); exact rfl
      apply seq_plain; exact do_pick_t rfl rfl; exact rfl
      apply seq_plain; exact do_move rfl; exact rfl
      apply seq_passed (hd := rfl) (hl := rfl) (hb := rfl); exact rfl
      apply seq_passed (hd := rfl) (hl := rfl) (hb := rfl); exact rfl
      apply seq_plain; exact do_pick_t rfl rfl; exact rfl
      apply seq_nil
      exact jp_of (by repeat (first | exact sub_nil | apply sub_cons rfl))
    have u2 : decide (key > 2147483646) = false := u2
    apply seq_guard (hd := rfl) (hl := rfl); exact do_move rfl; exact rfl
    apply seq_guard (hd := rfl) (hl := rfl); exact do_binInt rfl rfl rfl trivial; exact rfl
    apply seq_plain; exact do_pick_f rfl rfl; exact rfl
    apply seq_plain; exact do_move rfl; exact rfl
    refine seq_gsplit rfl rfl (fun u3 => ?_) (fun u3 => ?_)
    · have u3 : decide (n < 0) = true := u3
      have e : T = true := by rw [hT, u, u2, u3]; rfl
      rw [e]
      apply seq_passed (hd := rfl) (hl := rfl) (hb := rfl); exact rfl
      apply seq_passed (hd := rfl) (hl := rfl) (hb := rfl); exact rfl
      apply seq_plain; exact do_pick_t rfl rfl; exact rfl
      apply seq_nil
      exact jp_of (by repeat (first | exact sub_nil | apply sub_cons rfl))
    have u3 : decide (n < 0) = false := u3
    have e : T = decide (n > 256) := by rw [hT, u, u2, u3]; rfl
    rw [e]
    apply seq_guard (hd := rfl) (hl := rfl); exact do_move rfl; exact rfl
    apply seq_guard (hd := rfl) (hl := rfl); exact do_binInt rfl rfl rfl trivial; exact rfl
    apply seq_plain; exact do_pick_f rfl rfl; exact rfl
    apply seq_nil
    exact jp_of (by repeat (first | exact sub_nil | apply sub_cons rfl))
  refine ct_cond rfl (fun u => ?_) (fun u => ?_)
  · have u : T = true := u
    rw [u]
    apply ct_seq
    apply ct_region
    apply seq_plain; exact do_assign rfl; exact rfl
    apply seq_nil
    apply ct_ret
    exact fin_flat hc rfl rfl ⟨rfl, rfl⟩
  · have u : T = false := u
    rw [u]
    apply ct_skip
    apply ct_seq
    apply ct_region
    apply seq_plain; exact do_assign rfl; exact rfl
    apply seq_nil
    apply ct_ret
    exact fin_flat hc rfl rfl ⟨rfl, rfl⟩
/-- elements change places, from the last one on -/
def drawG : Nat → Nat → List Int → List Int
  | 0, _, L => L
  | i + 1, x, L => drawG i (16807 * x % 2147483647) (swapA L (i + 1) (16807 * x % 2147483647 % (i + 2)))
def drawL (key n : Nat) : List Int := drawG (n - 1) key (natZ (List.range n))
theorem swap_perm {L : List Int} {i j : Nat} (hi : i < L.length) (hj : j < L.length) : (swapA L i j).Perm L := by
  rw [swapA_eq hi hj]
  exact List.set_set_perm hi hj
theorem drawG_perm {i : Nat} : ∀ {x : Nat} {L : List Int}, i < L.length → (drawG i x L).Perm L := by
  induction i with
  | zero => intro x L _; exact .refl _
  | succ i ih =>
    intro x L h
    have hk : 16807 * x % 2147483647 % (i + 2) < i + 2 := Nat.mod_lt _ (by omega)
    have e : drawG (i + 1) x L = drawG i (16807 * x % 2147483647) (swapA L (i + 1) (16807 * x % 2147483647 % (i + 2))) := rfl
    rw [e]
    exact (ih (by rw [swapA_len]; omega)).trans (swap_perm h (by omega))
theorem drawL_perm {key n : Nat} : (drawL key n).Perm (natZ (List.range n)) := by
  unfold drawL
  cases n with
  | zero => exact .refl _
  | succ n => exact drawG_perm (by rw [natZ_len, List.length_range]; omega)
theorem natZ_range_succ {i : Nat} : natZ (List.range (i + 1)) = natZ (List.range i) ++ [(i : Int)] := by
  unfold natZ
  rw [List.range_succ, List.map_append]; rfl
set_option maxHeartbeats 8000000 in
theorem Draw_c {H : AHeap} {key n : Nat} (hk : key ≤ 2147483646) (hn : n ≤ 256) : Ret Tryz.prog 78 [I key, I n] H (lstV H.fresh (drawL key n)) (lstH H 1 i1 (drawL key n)) := by
  refine fn_start Tryz.func78 rfl rfl rfl fun hc => ?_
  apply ct_seq
  apply ct_region
  apply seq_plain; exact do_assign rfl; exact rfl
  apply seq_nil
  apply ct_seq
  apply ct_region
  apply seq_plain; exact do_assign rfl; exact rfl
  apply seq_nil
  apply ct_seq
  apply ct_seq
  apply ct_region
  apply seq_plain; exact do_assign rfl; exact rfl
  apply seq_nil
  apply ct_block
  apply ct_loop
  refine lt_meas (α := Nat × Value × Nat × List (Option ABlk)) (fun a => [(0, I key), (1, I n), (5, a.2.1), (6, I a.1)]) (fun a => ext H H.fresh a.2.2.2) (fun a => a.1 ≤ n ∧ LstI H a.2.2.2 1 i1 a.2.2.1 a.2.1 (natZ (List.range a.1))) (fun a => n - a.1) (fun a ha ih => ?_) (0, .slice none 0 0, 0, []) ⟨Nat.zero_le _, .nil⟩ (by repeat (first | exact sub_nil | apply sub_cons rfl)) (.refl _)
  obtain ⟨i, v, K, L⟩ := a
  obtain ⟨hi, hv⟩ := ha
  simp only at hi hv ih ⊢
  have ih' := fun i' v' K' L' a1 a2 a3 => ih (i', v', K', L') a1 ⟨a2, a3⟩
  simp only at ih'
  clear ih
  have hil : (natZ (List.range i)).length = i := by rw [natZ_len, List.length_range]
  apply ct_seq
  apply ct_seq
  apply ct_region
  apply seq_plain; exact do_move rfl; exact rfl
  apply seq_plain; exact do_move rfl; exact rfl
  apply seq_plain; exact do_binInt rfl rfl rfl trivial; exact rfl
  apply seq_nil
  refine ct_cond rfl (fun h1 => ?_) (fun h1 => ?_)
  · have h1 : i < n := by
      have h1 : decide ((i : Int) < (n : Int)) = true := h1
      simp only [decide_eq_true_eq] at h1; omega
    apply ct_skip
    apply ct_seq
    apply ct_block
    apply ct_region
    apply seq_plain; exact do_move rfl; exact rfl
    apply seq_plain; exact do_move rfl; exact rfl
    apply seq_newS; exact do_buildSlice rfl rfl rfl rfl rfl rfl rfl; exact rfl
    refine seq_growI (xs := [(i : Int)]) hc (hv.keeps (.app _)) (fun _ => rfl) (fun _ => rfl) rfl rfl rfl rfl rfl rfl (ext_get_new List.getElem?_concat_length) rfl (by simp) ?_ (Nat.ne_of_beq_eq_false rfl) (Nat.ne_of_beq_eq_false rfl) rfl (fun v' L3 hv' hst3 hlen3 => ?_)
    · exact Nat.le_trans (Nat.mul_le_mul_right _ (by rw [hil]; simp only [List.length_cons, List.length_nil]; omega : _ ≤ 3000000000)) (Nat.le_of_ble_eq_true rfl)
    rw [← natZ_range_succ] at hv'
    apply seq_plain; exact do_assign rfl; exact rfl
    apply seq_nil
    apply ct_region
    apply seq_plain; exact do_move rfl; exact rfl
    apply seq_plain; exact do_succ rfl (by omega); exact rfl
    apply seq_plain; exact do_assign rfl; exact rfl
    apply seq_nil
    exact lt_to (by repeat (first | exact sub_nil | apply sub_cons rfl)) (.refl _) (ih' (i + 1) v' _ L3 (by omega) (by omega) hv')
  have h1 : i = n := by
    have h1 : decide ((i : Int) < (n : Int)) = false := h1
    simp only [decide_eq_false_iff_not] at h1; omega
  subst h1
  clear ih' hi
  by_cases h0 : i = 0
  · subst h0
    have hv0 : v = .slice none 0 0 := by
      rcases hv.out with ⟨_, e⟩ | ⟨h, _⟩
      · exact e
      · exact absurd rfl h
    subst hv0
    apply ct_exit
    apply exit_eq; exact rfl
    apply ct_seq
    apply ct_seq
    apply ct_region
    apply seq_plain; exact do_move rfl; exact rfl
    apply seq_plain; exact do_sub rfl rfl (by omega); exact rfl
    apply seq_plain; exact do_assign rfl; exact rfl
    apply seq_nil
    apply ct_block
    apply ct_loop
    apply lt_step
    apply ct_seq
    apply ct_seq
    apply ct_region
    apply seq_plain; exact do_move rfl; exact rfl
    apply seq_plain; exact do_binInt rfl rfl rfl trivial; exact rfl
    apply seq_nil
    refine ct_cond_f rfl rfl ?_
    apply ct_exit
    apply exit_eq; exact rfl
    apply ct_seq
    apply ct_region
    apply seq_plain; exact do_move rfl; exact rfl
    apply seq_plain; exact do_assign rfl; exact rfl
    apply seq_nil
    apply ct_ret
    exact fin_flat hc rfl rfl ⟨rfl, rfl⟩
  obtain ⟨rfl, hL⟩ := hv.at_ (fun e => h0 (by rw [← hil, e]; rfl))
  rw [hil, flat_i1_map] at *
  apply ct_exit
  apply exit_eq; exact rfl
  apply ct_seq
  apply ct_seq
  apply ct_region
  apply seq_plain; exact do_move rfl; exact rfl
  apply seq_plain; exact do_predN rfl rfl (by omega) (by omega); exact rfl
  apply seq_plain; exact do_assign rfl; exact rfl
  apply seq_nil
  apply ct_block
  apply ct_loop
  have hL0 : L[K]? = some (some (.cells ((natZ (List.range i)).map I) 1 true false)) := hL
  clear hL
  clear hv
  refine lt_meas (α := Nat × Nat × List Int × List (Option ABlk)) (fun a => [(0, I a.2.1), (5, .slice (some ⟨nb H K, 0, none⟩) i i), (7, I a.1)]) (fun a => ext H H.fresh a.2.2.2) (fun a => a.1 < i ∧ a.2.1 ≤ 2147483646 ∧ a.2.2.1.length = i ∧ drawG a.1 a.2.1 a.2.2.1 = drawL key i ∧ a.2.2.2[K]? = some (some (.cells (a.2.2.1.map I) 1 true false))) (fun a => a.1) (fun a ha ih => ?_) (i - 1, key, natZ (List.range i), L) ⟨by simp only; omega, hk, (natZ_len.trans List.length_range), rfl, hL0⟩ (by repeat (first | exact sub_nil | apply sub_cons rfl)) (.refl _)
  clear hL0
  clear hil
  obtain ⟨j, x, O, M⟩ := a
  obtain ⟨hj, hx, hO, hd, hM⟩ := ha
  simp only at hj hx hO hd hM ih ⊢
  have ih' := fun j' x' O' M' a1 a2 a3 a4 a5 a6 => ih (j', x', O', M') a1 ⟨a2, a3, a4, a5, a6⟩
  simp only at ih'
  clear ih
  apply ct_seq
  apply ct_seq
  apply ct_region
  apply seq_plain; exact do_move rfl; exact rfl
  apply seq_plain; exact do_binInt rfl rfl rfl trivial; exact rfl
  apply seq_nil
  refine ct_cond rfl (fun h2 => ?_) (fun h2 => ?_)
  · have h2 : 1 ≤ j := by
      have h2 : decide ((j : Int) ≥ 1) = true := h2
      simp only [decide_eq_true_eq] at h2; omega
    obtain ⟨k, rfl⟩ : ∃ k, j = k + 1 := ⟨j - 1, by omega⟩
    obtain ⟨y, hyE⟩ : ∃ y : Nat, y = 16807 * x % 2147483647 := ⟨_, rfl⟩
    obtain ⟨z, hzE⟩ : ∃ z : Nat, z = y % (k + 1 + 1) := ⟨_, rfl⟩
    have hy : y < 2147483647 := by rw [hyE]; exact Nat.mod_lt _ (by decide)
    have hz : z < k + 1 + 1 := by rw [hzE]; exact Nat.mod_lt _ (by omega)
    have hz1 : z < O.length := by omega
    have hk1 : k + 1 < O.length := by omega
    have hw0 : (IntKind.i64.wrap (16807 * (x : Int))).tmod 2147483647 = (y : Int) := by
      have e : (16807 * (x : Int)) = ((16807 * x : Nat) : Int) := by omega
      rw [e, wrap_i64 (by omega), hyE]; exact rfl
    have hw1 : (y : Int).tmod ((k + 1 + 1 : Nat) : Int) = (z : Int) := by rw [hzE]; exact rfl
    have hd1 : drawG (k + 1) x O = drawG k y (swapA O (k + 1) z) := by rw [hzE, hyE]; rfl
    rw [hd1] at hd
    clear hd1
    apply ct_skip
    apply ct_seq
    apply ct_block
    apply ct_seq
    apply ct_region
    apply seq_plain; exact do_move rfl; exact rfl
    apply seq_plain; exact do_binInt rfl rfl rfl trivial; exact rfl
    apply seq_plain; exact do_rem rfl rfl (by decide); exact rfl
    apply seq_plain; exact do_assign rfl; exact rfl
    apply seq_nil
    apply ct_seq
    apply ct_region
    apply seq_plain; exact do_move rfl; exact rfl
    apply seq_plain; exact do_move rfl; exact rfl
    apply seq_plain; exact do_succ rfl (by omega); exact rfl
    apply seq_plain; exact do_binInt rfl rfl rfl trivial; exact rfl
    apply seq_plain; exact do_assign rfl; exact rfl
    apply seq_nil
    apply ct_draw (by assumption); decide +kernel
    apply sd_plain (hfree := rfl); intro _; exact do_move rfl; exact rfl
    apply sd_plain (hfree := rfl); intro _; exact do_move rfl; exact rfl
    apply sd_plain (hfree := rfl); intro _; exact do_move rfl; exact rfl
    apply sd_plain (hfree := rfl); intro _; exact do_move rfl; exact rfl
    apply sd_plain (hfree := rfl); intro _; exact do_move rfl; exact rfl
    apply sd_plain (hfree := rfl); intro _; exact do_move rfl; exact rfl
    rw [hw0, hw1]
    clear hw0
    clear hw1
    clear hzE
    clear hyE
    apply sd_plain (hfree := rfl); intro _; exact do_indexAddrS rfl rfl rfl (by exact idx_nat (by omega)); exact rfl
    apply sd_look (hfree := rfl); exact do_load rfl (by exact ext_get_new (getApp (by assumption))) rfl (by exact pt_map (by omega)); exact rfl
    apply sd_plain (hfree := rfl); intro _; exact do_move rfl; exact rfl
    apply sd_plain (hfree := rfl); intro _; exact do_move rfl; exact rfl
    apply sd_plain (hfree := rfl); intro _; exact do_indexAddrS rfl rfl rfl (by exact idx_nat (by omega)); exact rfl
    apply sd_look (hfree := rfl); exact do_load rfl (by exact ext_get_new (getApp (by assumption))) rfl (by exact pt_map (by omega)); exact rfl
    apply sd_plain (hfree := rfl); intro _; exact do_indexAddrS rfl rfl rfl (by exact idx_nat (by omega)); exact rfl
    refine sd_putQ (k := K) rfl (by decide +kernel) hc (List.getElem?_eq_some_iff.1 hM).1 (do_store rfl rfl (ext_get_new hM) rfl (stl_map (g := I) (v := O[z]) hk1 rfl rfl) (nb_own _)) (fun M2 hl2 ho2 hk2 => ?_)
    apply sd_plain (hfree := rfl); intro _; exact do_indexAddrS rfl rfl rfl (by exact idx_nat (by omega)); exact rfl
    refine sd_putQ (k := K) rfl (by decide +kernel) hc (List.getElem?_eq_some_iff.1 hk2).1 (do_store rfl rfl (ext_get_new hk2) rfl (stl_map (g := I) (v := O[k + 1]) (by rw [List.length_set]; exact hz1) rfl rfl) (nb_own _)) (fun M3 hl3 ho3 hk3 => ?_)
    rw [← swapA_eq hk1 hz1] at hk3
    apply sd_nil
    apply ct_region
    apply seq_plain; exact do_move rfl; exact rfl
    apply seq_plain; exact do_pred rfl (by omega); exact rfl
    apply seq_plain; exact do_assign rfl; exact rfl
    apply seq_nil
    simp only [List.map_nil, List.append_nil]
    refine lt_to (l' := [(0, I y), (5, .slice (some ⟨nb H K, 0, none⟩) i i), (7, I k)]) (by repeat (first | exact sub_nil | apply sub_cons rfl)) (.refl _) ?_
    exact ih' k y (swapA O (k + 1) z) M3 (by omega) (by omega) (by omega) (by rw [swapA_len]; exact hO) hd hk3
  have h2 : j = 0 := by
    have h2 : decide ((j : Int) ≥ 1) = false := h2
    simp only [decide_eq_false_iff_not] at h2; omega
  subst h2
  apply ct_exit
  apply exit_eq; exact rfl
  apply ct_seq
  apply ct_region
  apply seq_plain; exact do_move rfl; exact rfl
  apply seq_plain; exact do_assign rfl; exact rfl
  apply seq_nil
  apply ct_ret
  have hd : O = drawL key i := hd
  refine fin_lst (k0 := 0) (m := 1) (f := i1) (lst := drawL key i) hc ?_ rfl (fun _ => rfl) ⟨rfl, rfl⟩
  rw [← hd]
  refine ⟨.inr ⟨fun e => ?_, K, Nat.zero_le _, ?_, ?_⟩⟩
  · rw [e] at hO; exact h0 hO.symm
  · rw [hO]
  · rw [flat_i1_map]; exact hM
end Go.Proofs.YtfegloadbajbhaaGreatDoor
