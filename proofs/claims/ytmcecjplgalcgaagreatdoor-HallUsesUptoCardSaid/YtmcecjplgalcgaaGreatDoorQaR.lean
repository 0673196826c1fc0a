/- The reference's numbers: two digits divide themselves once. -/
import Derived.Test.YtmcecjplgalcgaaGreatDoorQaT
import Derived.Test.YtmcecjplgalcgaaGreatDoorAsC
noncomputable section
namespace Go.Proofs.YtmcecjplgalcgaaGreatDoor
open Go Go.Den
set_option maxRecDepth 100000
theorem dig_tmod {v : Int} (h0 : 0 ≤ v) (h1 : v < 1000000000) : (1 * v + 0).tmod 1000000000 = v := by
 rw [Int.one_mul, Int.add_zero, Int.tmod_eq_emod_of_nonneg h0]; exact Int.emod_eq_of_lt h0 h1
theorem dig_tdiv {v : Int} (h0 : 0 ≤ v) (h1 : v < 1000000000) : (1 * v + 0).tdiv 1000000000 = 0 := by
 rw [Int.one_mul, Int.add_zero, Int.tdiv_eq_ediv_of_nonneg h0]; exact Int.ediv_eq_zero_of_lt h0 h1
theorem muC_two {y0 y1 f : Int} (h0 : 0 ≤ y0) (h1 : y0 < 1000000000) (h2 : 1 ≤ y1) (hf : 1 ≤ f) (hb : (y1 + 1) * f ≤ 1000000000) :
  ∃ v0 v1, muC [y0, y1] f 2 = [v0, v1, 0] ∧ 0 ≤ v0 ∧ v0 < 1000000000 ∧ 1 ≤ v1 ∧ v1 < 1000000000 ∧ trimN [v0, v1, 0] = 2 := by
 have hb2 : y1 * f + f ≤ 1000000000 := by rw [Int.add_mul, Int.one_mul] at hb; exact hb
 have hy : f ≤ y1 * f := by
  have := Int.mul_le_mul_of_nonneg_right h2 (show 0 ≤ f by omega)
  omega
 have hp0 : 0 ≤ y0 * f := Int.mul_nonneg h0 (by omega)
 have hp1 : y0 * f ≤ 999999999 * f := Int.mul_le_mul_of_nonneg_right (by omega) (by omega)
 have e : muC [y0, y1] f 2 = [y0 * f % 1000000000, (y0 * f / 1000000000 + y1 * f) % 1000000000, (y0 * f / 1000000000 + y1 * f) / 1000000000] := by simp [muC]
 have a1 : (y0 * f / 1000000000 + y1 * f) % 1000000000 = y0 * f / 1000000000 + y1 * f := Int.emod_eq_of_lt (by omega) (by omega)
 have a2 : (y0 * f / 1000000000 + y1 * f) / 1000000000 = 0 := Int.ediv_eq_zero_of_lt (by omega) (by omega)
 rw [a1, a2] at e
 refine ⟨_, _, e, by omega, by omega, by omega, by omega, ?_⟩
 unfold trimN
 simp only [List.length_cons, List.length_nil, trimAt, List.getElem?_cons_succ, List.getElem?_cons_zero, Option.some.injEq, if_true]
 rw [if_neg (by omega)]
set_option maxHeartbeats 8000000 in
theorem divSame2 {y0 y1 : Int} (h0 : 0 ≤ y0) (h1 : y0 < 1000000000) (h2 : 1 ≤ y1) (h3 : y1 < 1000000000) : DivSame [y0, y1] := by
 intro H p q c e hp hq
 refine fn_start Tryz.func105 rfl rfl rfl fun hc => ?_
 have hdg : DigL [y0, y1] := ⟨fun z hz => by
  simp only [List.mem_cons, List.not_mem_nil, or_false] at hz
  rcases hz with rfl | rfl <;> omega⟩
 have cc := fun lo L => compareDigits_c (H := ext H lo L) (c := c) (e := e) (hp.ext (ext_Ext hc)) (hq.ext (ext_Ext hc)) (by simp) (by simp)
 rw [cmpW_self] at cc
 obtain ⟨f, hf⟩ : ∃ f, f = (1000000000 : Int) / (y1 + 1) := ⟨_, rfl⟩
 have hfb : (y1 + 1) * f ≤ 1000000000 := by rw [hf]; exact Int.mul_ediv_self_le (by omega)
 have hf1 : 1 ≤ f := by rw [hf]; exact (Int.le_ediv_iff_mul_le (by omega)).2 (by omega)
 have hf2 : f < 1000000000 := by
  rw [hf]
  refine Int.ediv_lt_of_lt_mul (by omega) (by omega)
 have hft : (1000000000 : Int).tdiv (y1 + 1) = f := by rw [hf]; exact Int.tdiv_eq_ediv_of_nonneg (by omega)
 obtain ⟨b2, o2, cs2, z2, s2, ro2, rfl, hg2, hw2⟩ := hq.out (by simp)
 have hV : pt false 1 cs2 (o2 + 1 * 1) = some (I y1) := pt_sl0 (n := 1) (g := I) (i := 1) hw2 (by simp)
 apply ct_seq
 apply ct_region
 iterate 2 (apply seq_plain; exact do_assign rfl; exact rfl)
 apply seq_nil
 iterate 2 (apply ct_seq)
 apply ct_region
 iterate 2 (apply seq_plain; exact do_move rfl; exact rfl)
 apply seq_call (ht := rfl); exact cc _ _; exact rfl
 apply seq_plain; exact do_binInt rfl rfl rfl trivial; exact rfl
 apply seq_nil
 refine ct_cond_f rfl rfl ?_
 apply ct_skip
 iterate 2 (apply ct_seq)
 apply ct_region
 apply seq_plain; exact do_move rfl; exact rfl
 apply seq_plain; exact do_lenS rfl rfl rfl; exact rfl
 apply seq_plain; exact do_binInt rfl rfl rfl trivial; exact rfl
 apply seq_nil
 refine ct_cond_f rfl rfl ?_
 apply ct_skip
 apply ct_seq
 apply ct_region
 iterate 2 (apply seq_plain; exact do_move rfl; exact rfl)
 apply seq_plain; exact do_lenS rfl rfl rfl; exact rfl
 apply seq_plain; exact do_binInt rfl rfl rfl trivial; exact rfl
 apply seq_plain; exact do_indexAddrS rfl rfl rfl (by exact rfl); exact rfl
 apply seq_plain; exact do_load rfl (by exact ext_get_old (by assumption) (by assumption)) rfl (by exact (by assumption)); exact rfl
 apply seq_plain; exact do_add rfl rfl (by omega); exact rfl
 apply seq_plain; exact do_quoI rfl rfl (by omega) (by omega) (by omega); exact rfl
 rw [hft]
 obtain ⟨v0, v1, ev, w1, w2, w3, w4, w5⟩ := muC_two h0 h1 h2 hf1 hfb
 have cm := fun lo (L : List (Option ABlk)) (pp : Option Addr) (k : Nat) (hpp : SlAt H 1 i1 pp [y0, y1]) (h : L[0]? = some (some (.cells [I f] 1 false false))) => mulOne_c (H := ext H lo L) (p := pp) (q := some ⟨nb H 0, 0, none⟩) (c := k) (e := 1) (x := [y0, y1]) (d := f) (hpp.ext (ext_Ext hc)) (slAt_map (g := I) (l := [f]) (ext_get_new h)) (by simp) hdg (by omega) hf2
 rw [show ([y0, y1] : List Int).length = 2 from rfl, ev, w5] at cm
 simp only [ext_fresh, ext_add] at cm
 apply seq_newS; exact do_buildSlice rfl rfl rfl rfl rfl rfl rfl; exact rfl
 apply seq_plain; exact do_assign rfl; exact rfl
 apply seq_nil
 apply ct_seq
 apply ct_region
 iterate 2 (apply seq_plain; exact do_move rfl; exact rfl)
 apply seq_call (ht := rfl); exact cm _ _ _ _ hq rfl; exact rfl
 apply seq_plain; exact do_assign rfl; exact rfl
 apply seq_nil
 apply ct_seq
 apply ct_region
 apply seq_plain; exact do_move rfl; exact rfl
 apply seq_plain; exact do_lenS rfl rfl rfl; exact rfl
 apply seq_plain; exact do_assign rfl; exact rfl
 apply seq_nil
 apply ct_seq
 apply ct_region
 apply seq_newS; exact do_buildSlice rfl rfl rfl rfl rfl rfl rfl; exact rfl
 iterate 2 (apply seq_plain; exact do_move rfl; exact rfl)
 apply seq_call (ht := rfl); exact cm _ _ _ _ hp rfl; exact rfl
 skip
 refine seq_growX (f := i1) (m := 1) (lst := []) (xs := [v0, v1]) (k0 := 2) hc ⟨_, rfl⟩ (fun _ => rfl) (fun _ => rfl) rfl rfl rfl rfl rfl rfl (ext_get_new rfl) rfl (by simp) (Nat.le_of_ble_eq_true rfl) (Nat.ne_of_beq_eq_false rfl) (Nat.ne_of_beq_eq_false rfl) rfl (fun L3 hv3 ho3 hl3 => ?_)
 obtain ⟨s3, g4⟩ := hv3.out
 have g0 : L3[0]? = some (some (.cells [I f] 1 false false)) := (ho3 0 (Nat.le_of_ble_eq_true rfl) (by decide)).trans rfl
 have g1 : L3[1]? = some (some (.cells [I v0, I v1, I 0] 1 false false)) := (ho3 1 (Nat.le_of_ble_eq_true rfl) (by decide)).trans rfl
 have l3 : L3.length = 5 := hl3
 apply seq_plain; exact do_assign rfl; exact rfl
 apply seq_nil
 apply ct_seq
 apply ct_block
 apply ct_loop
 refine lt_to (l' := [(0, .slice p 2 c), (8, .slice (some ⟨nb H 0, 0, none⟩) 1 1), (9, .slice (some ⟨nb H 1, 0, none⟩) 2 3), (10, I 2), (11, .slice (some ⟨nb H 4, 0, none⟩) 2 2)]) (by repeat (first | exact sub_nil | apply sub_cons rfl)) (.refl _) ?_
 have g4 : L3[4]? = some (some (.cells [I v0, I v1] 1 s3 false)) := g4
 clear hv3 ho3 hl3 cm cc hg2 hw2 hV
 apply lt_step
 iterate 2 (apply ct_seq)
 apply ct_region
 apply seq_plain; exact do_move rfl; exact rfl
 apply seq_plain; exact do_lenS rfl rfl rfl; exact rfl
 apply seq_plain; exact do_move rfl; exact rfl
 apply seq_plain; exact do_lenS rfl rfl rfl; exact rfl
 apply seq_plain; exact do_succ rfl (by omega); exact rfl
 apply seq_plain; exact do_binInt rfl rfl rfl trivial; exact rfl
 apply seq_nil
 refine ct_cond_t rfl rfl ?_
 apply ct_skip
 apply ct_block
 apply ct_region
 apply seq_plain; exact do_move rfl; exact rfl
 apply seq_newS; exact do_buildSlice rfl rfl rfl rfl rfl rfl rfl; exact rfl
 refine seq_growX (f := i1) (m := 1) (lst := [v0, v1]) (xs := [(0 : Int)]) (k0 := 4) hc ⟨_, getApp g4⟩ (fun _ => rfl) (fun _ => rfl) rfl rfl rfl rfl rfl rfl (ext_get_new List.getElem?_concat_length) rfl (by simp) (Nat.le_of_ble_eq_true rfl) (Nat.ne_of_beq_eq_false rfl) (Nat.ne_of_beq_eq_false rfl) rfl (fun L4 hv4 ho4 hl4 => ?_)
 obtain ⟨s4, g6⟩ := hv4.out
 have e6 : ∀ x : Option ABlk, (L3 ++ [x]).length = 6 := fun x => by simp [l3]
 rw [e6] at g6 hl4
 have j0 : L4[0]? = some (some (.cells [I f] 1 false false)) := (ho4 0 (by rw [e6]; omega) (by decide)).trans (getApp g0)
 have j1 : L4[1]? = some (some (.cells [I v0, I v1, I 0] 1 false false)) := (ho4 1 (by rw [e6]; omega) (by decide)).trans (getApp g1)
 have j6 : L4[6]? = some (some (.cells [I v0, I v1, I 0] 1 s4 false)) := g6
 have l4 : L4.length = 7 := hl4
 rw [e6]
 apply seq_plain; exact do_assign rfl; exact rfl
 apply seq_nil
 refine lt_to (l' := [(0, .slice p 2 c), (8, .slice (some ⟨nb H 0, 0, none⟩) 1 1), (9, .slice (some ⟨nb H 1, 0, none⟩) 2 3), (10, I 2), (11, .slice (some ⟨nb H 6, 0, none⟩) 3 3)]) (by repeat (first | exact sub_nil | apply sub_cons rfl)) (.refl _) ?_
 clear hv4 ho4 g6 hl4 g0 g1 g4 l3
 have cg := fun lo (M : List (Option ABlk)) (x6 : M[6]? = some (some (.cells [I v0, I v1, I 0] 1 s4 false))) (x1 : M[1]? = some (some (.cells [I v0, I v1, I 0] 1 false false))) => guess2_c (H := ext H lo M) (pu := some ⟨nb H 6, 0, none⟩) (pv := some ⟨nb H 1, 0, none⟩) (c := 3) (e := 3) (slAt_map (g := I) (l := [v0, v1, 0]) (ext_get_new x6)) ((slAt_map (g := I) (l := [v0, v1, 0]) (ext_get_new x1)).take 2) w1 w2 w3 w4
 apply lt_step
 iterate 2 (apply ct_seq)
 apply ct_region
 apply seq_plain; exact do_move rfl; exact rfl
 apply seq_plain; exact do_lenS rfl rfl rfl; exact rfl
 apply seq_plain; exact do_move rfl; exact rfl
 apply seq_plain; exact do_lenS rfl rfl rfl; exact rfl
 apply seq_plain; exact do_succ rfl (by omega); exact rfl
 apply seq_plain; exact do_binInt rfl rfl rfl trivial; exact rfl
 apply seq_nil
 refine ct_cond_f rfl rfl ?_
 apply ct_exit
 apply exit_eq; exact rfl
 apply ct_seq
 apply ct_region
 apply seq_plain; exact do_move rfl; exact rfl
 apply seq_plain; exact do_lenS rfl rfl rfl; exact rfl
 apply seq_plain; exact do_move rfl; exact rfl
 apply seq_plain; exact do_sub rfl rfl (by omega); exact rfl
 apply seq_newS; exact mkInts (n := 1) rfl (by omega) rfl rfl rfl rfl; exact rfl
 apply seq_plain; exact do_assign rfl; exact rfl
 apply seq_nil
 iterate 2 (apply ct_seq)
 apply ct_region
 apply seq_plain; exact do_move rfl; exact rfl
 apply seq_plain; exact do_lenS rfl rfl rfl; exact rfl
 apply seq_plain; exact do_move rfl; exact rfl
 apply seq_plain; exact do_sub rfl rfl (by omega); exact rfl
 apply seq_plain; exact do_predB rfl (by omega); exact rfl
 apply seq_plain; exact do_assign rfl; exact rfl
 apply seq_nil
 apply ct_block
 apply ct_loop
 apply lt_step
 iterate 2 (apply ct_seq)
 apply ct_region
 apply seq_plain; exact do_move rfl; exact rfl
 apply seq_plain; exact do_binInt rfl rfl rfl trivial; exact rfl
 apply seq_nil
 refine ct_cond_t rfl rfl ?_
 apply ct_skip
 apply ct_seq
 apply ct_block
 apply ct_seq
 apply ct_region
 iterate 3 (apply seq_plain; exact do_move rfl; exact rfl)
 apply seq_call (ht := rfl); exact cg _ _ (getApp j6) (getApp j1); exact rfl
 apply seq_plain; exact do_assign rfl; exact rfl
 apply seq_nil
 apply ct_seq
 apply ct_region
 apply seq_plain; exact do_assign rfl; exact rfl
 apply seq_nil
 iterate 2 (apply ct_seq)
 apply ct_region
 apply seq_plain; exact do_assign rfl; exact rfl
 apply seq_nil
 apply ct_block
 apply ct_loop
 obtain ⟨L5, hL5⟩ : ∃ L5 : List (Option ABlk), L5 = L4 ++ [some (.cells [I 0] 1 false false)] := ⟨_, rfl⟩
 have k0 : L5[0]? = some (some (.cells [I f] 1 false false)) := by rw [hL5]; exact getApp j0
 have k1 : L5[1]? = some (some (.cells [I v0, I v1, I 0] 1 false false)) := by rw [hL5]; exact getApp j1
 have k6 : L5[6]? = some (some (.cells [I v0, I v1, I 0] 1 s4 false)) := by rw [hL5]; exact getApp j6
 have k7 : L5[7]? = some (some (.cells [I 0] 1 false false)) := by rw [hL5, ← l4]; exact List.getElem?_concat_length
 have l5 : L5.length = 8 := by rw [hL5, List.length_append, l4]; rfl
 refine lt_to (l' := [(8, .slice (some ⟨nb H 0, 0, none⟩) 1 1), (9, .slice (some ⟨nb H 1, 0, none⟩) 2 3), (10, I 2), (11, .slice (some ⟨nb H 6, 0, none⟩) 3 3), (12, .slice (some ⟨nb H 7, 0, none⟩) 1 1), (13, I 0), (14, I 1), (15, I 0), (16, I 0)]) (h' := ext H H.fresh L5) (by rw [l4]; repeat (first | exact sub_nil | apply sub_cons rfl)) (by rw [hL5]; exact .refl _) ?_
 clear hL5 j0 j1 j6 l4 cg
 have m10 : -9223372036854775808 ≤ 1 * v0 ∧ 1 * v0 ≤ 9223372036854775807 := by omega
 have m11 : -9223372036854775808 ≤ 1 * v1 ∧ 1 * v1 ≤ 9223372036854775807 := by omega
 apply lt_step
 iterate 2 (apply ct_seq)
 apply ct_region
 iterate 2 (apply seq_plain; exact do_move rfl; exact rfl)
 apply seq_plain; exact do_binInt rfl rfl rfl trivial; exact rfl
 apply seq_nil
 refine ct_cond_t rfl rfl ?_
 apply ct_skip
 apply ct_seq
 apply ct_block
 apply ct_seq
 apply ct_region
 iterate 3 (apply seq_plain; exact do_move rfl; exact rfl)
 apply seq_plain; exact do_indexAddrS rfl rfl rfl (by exact rfl); exact rfl
 apply seq_plain; exact do_load rfl (by exact ext_get_new (by assumption)) rfl (by exact rfl); exact rfl
 apply seq_plain; exact do_mul rfl rfl (by assumption); exact rfl
 apply seq_plain; exact do_move rfl; exact rfl
 apply seq_plain; exact do_add rfl rfl (by omega); exact rfl
 apply seq_plain; exact do_assign rfl; exact rfl
 apply seq_nil
 apply ct_seq
 apply ct_region
 iterate 3 (apply seq_plain; exact do_move rfl; exact rfl)
 apply seq_plain; exact do_add rfl rfl (by omega); exact rfl
 apply seq_plain; exact do_indexAddrS rfl rfl rfl (by exact rfl); exact rfl
 apply seq_plain; exact do_load rfl (by exact ext_get_new (by assumption)) rfl (by exact rfl); exact rfl
 apply seq_plain; exact do_move rfl; exact rfl
 apply seq_plain; exact do_rem rfl rfl (by omega); exact rfl
 apply seq_plain; exact do_binInt rfl rfl rfl trivial; exact rfl
 apply seq_plain; exact do_assign rfl; exact rfl
 apply seq_nil
 apply ct_seq
 apply ct_region
 apply seq_plain; exact do_move rfl; exact rfl
 apply seq_plain; exact do_binInt rfl rfl rfl trivial; exact rfl
 apply seq_plain; exact do_assign rfl; exact rfl
 apply seq_nil
 iterate 2 (apply ct_seq)
 apply ct_region
 apply seq_plain; exact do_move rfl; exact rfl
 apply seq_plain; exact do_binInt rfl rfl rfl trivial; exact rfl
 apply seq_nil
 rw [dig_tmod w1 w2, dig_tdiv w1 w2, Int.sub_self]
 refine ct_cond_f rfl rfl ?_
 apply ct_skip
 apply ct_region
 iterate 3 (apply seq_plain; exact do_move rfl; exact rfl)
 apply seq_plain; exact do_add rfl rfl (by omega); exact rfl
 apply seq_plain; exact do_move rfl; exact rfl
 apply seq_plain; exact do_indexAddrS rfl rfl rfl (by exact rfl); exact rfl
 refine seq_putQC (k := 6) hc (by omega) (do_store rfl rfl (ext_get_new k6) rfl (stl_map (g := I) (l := [v0, v1, 0]) (j := 0) (v := 0) (by simp) rfl rfl) (nb_own _)) (fun L6 m6 p6 q6 => ?_)
 have k0 := (p6 0 (by decide)).trans k0
 have k1 := (p6 1 (by decide)).trans k1
 have k7 := (p6 7 (by decide)).trans k7
 have k6 : L6[6]? = some (some (.cells [I 0, I v1, I 0] 1 s4 false)) := q6
 have l6 : L6.length = 8 := m6.trans l5
 clear m6 p6 q6 l5
 apply ct_region
 apply seq_plain; exact do_move rfl; exact rfl
 apply seq_plain; exact do_add rfl rfl (by omega); exact rfl
 apply seq_plain; exact do_assign rfl; exact rfl
 apply seq_nil
 refine lt_to (l' := [(8, .slice (some ⟨nb H 0, 0, none⟩) 1 1), (9, .slice (some ⟨nb H 1, 0, none⟩) 2 3), (10, I 2), (11, .slice (some ⟨nb H 6, 0, none⟩) 3 3), (12, .slice (some ⟨nb H 7, 0, none⟩) 1 1), (13, I 0), (14, I 1), (15, I 0), (16, I 1)]) (by repeat (first | exact sub_nil | apply sub_cons rfl)) (.refl _) ?_
 apply lt_step
 iterate 2 (apply ct_seq)
 apply ct_region
 iterate 2 (apply seq_plain; exact do_move rfl; exact rfl)
 apply seq_plain; exact do_binInt rfl rfl rfl trivial; exact rfl
 apply seq_nil
 refine ct_cond_t rfl rfl ?_
 apply ct_skip
 apply ct_seq
 apply ct_block
 apply ct_seq
 apply ct_region
 iterate 3 (apply seq_plain; exact do_move rfl; exact rfl)
 apply seq_plain; exact do_indexAddrS rfl rfl rfl (by exact rfl); exact rfl
 apply seq_plain; exact do_load rfl (by exact ext_get_new (by assumption)) rfl (by exact rfl); exact rfl
 apply seq_plain; exact do_mul rfl rfl (by assumption); exact rfl
 apply seq_plain; exact do_move rfl; exact rfl
 apply seq_plain; exact do_add rfl rfl (by omega); exact rfl
 apply seq_plain; exact do_assign rfl; exact rfl
 apply seq_nil
 apply ct_seq
 apply ct_region
 iterate 3 (apply seq_plain; exact do_move rfl; exact rfl)
 apply seq_plain; exact do_add rfl rfl (by omega); exact rfl
 apply seq_plain; exact do_indexAddrS rfl rfl rfl (by exact rfl); exact rfl
 apply seq_plain; exact do_load rfl (by exact ext_get_new (by assumption)) rfl (by exact rfl); exact rfl
 apply seq_plain; exact do_move rfl; exact rfl
 apply seq_plain; exact do_rem rfl rfl (by omega); exact rfl
 apply seq_plain; exact do_binInt rfl rfl rfl trivial; exact rfl
 apply seq_plain; exact do_assign rfl; exact rfl
 apply seq_nil
 apply ct_seq
 apply ct_region
 apply seq_plain; exact do_move rfl; exact rfl
 apply seq_plain; exact do_binInt rfl rfl rfl trivial; exact rfl
 apply seq_plain; exact do_assign rfl; exact rfl
 apply seq_nil
 iterate 2 (apply ct_seq)
 apply ct_region
 apply seq_plain; exact do_move rfl; exact rfl
 apply seq_plain; exact do_binInt rfl rfl rfl trivial; exact rfl
 apply seq_nil
 rw [dig_tmod (by omega) w4, dig_tdiv (by omega) w4, Int.sub_self]
 refine ct_cond_f rfl rfl ?_
 apply ct_skip
 apply ct_region
 iterate 3 (apply seq_plain; exact do_move rfl; exact rfl)
 apply seq_plain; exact do_add rfl rfl (by omega); exact rfl
 apply seq_plain; exact do_move rfl; exact rfl
 apply seq_plain; exact do_indexAddrS rfl rfl rfl (by exact rfl); exact rfl
 refine seq_putQC (k := 6) hc (by omega) (do_store rfl rfl (ext_get_new k6) rfl (stl_map (g := I) (l := [0, v1, 0]) (j := 1) (v := 0) (by simp) rfl rfl) (nb_own _)) (fun L7 m7 p7 q7 => ?_)
 have k0 := (p7 0 (by decide)).trans k0
 have k7 := (p7 7 (by decide)).trans k7
 have k6 : L7[6]? = some (some (.cells [I 0, I 0, I 0] 1 s4 false)) := q7
 have l7 : L7.length = 8 := m7.trans l6
 clear m7 p7 q7 l6 k1
 apply ct_region
 apply seq_plain; exact do_move rfl; exact rfl
 apply seq_plain; exact do_add rfl rfl (by omega); exact rfl
 apply seq_plain; exact do_assign rfl; exact rfl
 apply seq_nil
 refine lt_to (l' := [(8, .slice (some ⟨nb H 0, 0, none⟩) 1 1), (9, .slice (some ⟨nb H 1, 0, none⟩) 2 3), (10, I 2), (11, .slice (some ⟨nb H 6, 0, none⟩) 3 3), (12, .slice (some ⟨nb H 7, 0, none⟩) 1 1), (13, I 0), (14, I 1), (15, I 0), (16, I 2)]) (by repeat (first | exact sub_nil | apply sub_cons rfl)) (.refl _) ?_
 apply lt_step
 iterate 2 (apply ct_seq)
 apply ct_region
 iterate 2 (apply seq_plain; exact do_move rfl; exact rfl)
 apply seq_plain; exact do_binInt rfl rfl rfl trivial; exact rfl
 apply seq_nil
 refine ct_cond_f rfl rfl ?_
 apply ct_exit
 apply exit_eq; exact rfl
 apply ct_seq
 apply ct_region
 iterate 3 (apply seq_plain; exact do_move rfl; exact rfl)
 apply seq_plain; exact do_add rfl rfl (by omega); exact rfl
 iterate 3 (apply seq_plain; exact do_move rfl; exact rfl)
 apply seq_plain; exact do_add rfl rfl (by omega); exact rfl
 apply seq_plain; exact do_indexAddrS rfl rfl rfl (by exact rfl); exact rfl
 apply seq_plain; exact do_load rfl (by exact ext_get_new (by assumption)) rfl (by exact rfl); exact rfl
 apply seq_plain; exact do_move rfl; exact rfl
 apply seq_plain; exact do_sub rfl rfl (by omega); exact rfl
 apply seq_plain; exact do_indexAddrS rfl rfl rfl (by exact rfl); exact rfl
 refine seq_putQC (k := 6) hc (by omega) (do_store rfl rfl (ext_get_new k6) rfl (stl_map (g := I) (l := [0, 0, 0]) (j := 2) (v := 0) (by simp) rfl rfl) (nb_own _)) (fun L8 m8 p8 q8 => ?_)
 have k0 := (p8 0 (by decide)).trans k0
 have k7 := (p8 7 (by decide)).trans k7
 have k6 : L8[6]? = some (some (.cells [I 0, I 0, I 0] 1 s4 false)) := q8
 have l8 : L8.length = 8 := m8.trans l7
 clear m8 p8 q8 l7
 iterate 2 (apply ct_seq)
 apply ct_region
 iterate 3 (apply seq_plain; exact do_move rfl; exact rfl)
 apply seq_plain; exact do_add rfl rfl (by omega); exact rfl
 apply seq_plain; exact do_indexAddrS rfl rfl rfl (by exact rfl); exact rfl
 apply seq_plain; exact do_load rfl (by exact ext_get_new (by assumption)) rfl (by exact rfl); exact rfl
 apply seq_plain; exact do_binInt rfl rfl rfl trivial; exact rfl
 apply seq_nil
 refine ct_cond_f rfl rfl ?_
 apply ct_skip
 apply ct_region
 iterate 3 (apply seq_plain; exact do_move rfl; exact rfl)
 apply seq_plain; exact do_indexAddrS rfl rfl rfl (by exact rfl); exact rfl
 refine seq_putQC (k := 7) hc (by omega) (do_store rfl rfl (ext_get_new k7) rfl (stl_map (g := I) (l := [0]) (j := 0) (v := 1) (by simp) rfl rfl) (nb_own _)) (fun L9 m9' p9 q9 => ?_)
 have k0 := (p9 0 (by decide)).trans k0
 have k6 := (p9 6 (by decide)).trans k6
 have k7 : L9[7]? = some (some (.cells [I 1] 1 false false)) := q9
 have l9 : L9.length = 8 := m9'.trans l8
 clear m9' p9 q9 l8
 apply ct_region
 apply seq_plain; exact do_move rfl; exact rfl
 apply seq_plain; exact do_sub rfl rfl (by omega); exact rfl
 apply seq_plain; exact do_assign rfl; exact rfl
 apply seq_nil
 refine lt_to (l' := [(8, .slice (some ⟨nb H 0, 0, none⟩) 1 1), (9, .slice (some ⟨nb H 1, 0, none⟩) 2 3), (10, I 2), (11, .slice (some ⟨nb H 6, 0, none⟩) 3 3), (12, .slice (some ⟨nb H 7, 0, none⟩) 1 1), (13, I (-1))]) (by repeat (first | exact sub_nil | apply sub_cons rfl)) (.refl _) ?_
 have f6 : 6 < L9.length := by omega
 have f7 : 7 < L9.length := by omega
 have ctr := fun lo (M : List (Option ABlk)) (x6 : M[6]? = some (some (.cells [I 0, I 0, I 0] 1 s4 false))) => trim_c (H := ext H lo M) (q := some ⟨nb H 6, 0, none⟩) (c := 3) (l := [0, 0]) ((slAt_map (g := I) (l := [0, 0, 0]) (ext_get_new x6)).take 2) (OldS.new (List.getElem?_eq_some_iff.1 x6).1) ⟨by simp, (fun e => by cases e), (fun _ e => by cases e; rfl)⟩ (by simp)
 rw [show trimN [0, 0] = 0 from rfl, show ([0, 0] : List Int).length = 2 from rfl] at ctr
 have ctq := fun lo (M : List (Option ABlk)) (x7 : M[7]? = some (some (.cells [I 1] 1 false false))) => trim_c (H := ext H lo M) (q := some ⟨nb H 7, 0, none⟩) (c := 1) (l := [1]) (slAt_map (g := I) (l := [1]) (ext_get_new x7)) (OldS.new (List.getElem?_eq_some_iff.1 x7).1) ⟨by simp, (fun e => by cases e), (fun _ e => by cases e; rfl)⟩ (by simp)
 rw [show trimN [1] = 1 by rw [trimN]; simp [trimAt], show ([1] : List Int).length = 1 from rfl] at ctq
 have cdd := fun lo (M : List (Option ABlk)) => divDigit_c (H := ext H lo M) (p := some ⟨nb H 6, 0, none⟩) (c := 3) (a := []) (d := f) SlAt.nil (by simp) ⟨by simp⟩ (by omega) hf2
 apply lt_step
 iterate 2 (apply ct_seq)
 apply ct_region
 apply seq_plain; exact do_move rfl; exact rfl
 apply seq_plain; exact do_binInt rfl rfl rfl trivial; exact rfl
 apply seq_nil
 refine ct_cond_f rfl rfl ?_
 apply ct_exit
 apply exit_eq; exact rfl
 apply ct_seq
 apply ct_draw (by assumption); decide +kernel
 iterate 2 (apply sd_plain (hfree := rfl); intro _; exact do_move rfl; exact rfl)
 apply sd_look (hfree := rfl); exact do_sliceTo (i := 2) rfl rfl rfl (by intro e; cases e) (by rintro _ ⟨⟩; rfl) (by omega); exact rfl
 apply sd_call (ht := rfl); exact ctr _ _ (getApp k6); exact rfl
 apply sd_plain (hfree := rfl); intro _; exact do_move rfl; exact rfl
 apply sd_plain (hfree := rfl); intro _; exact do_indexAddrS rfl rfl rfl (by exact rfl); exact rfl
 apply sd_look (hfree := rfl); exact do_load rfl (by exact ext_get_new (getApp (by assumption))) rfl (by exact rfl); exact rfl
 refine sd_callN (v := fun b => .tuple ⟨[.slice (some ⟨b, 0, none⟩) 0 0, I 0]⟩) (x := .cells [] 1 false false) rfl rfl (by decide +kernel) (cdd _ _) rfl ?_
 apply sd_plain (hfree := rfl); intro _; exact do_move rfl; exact rfl
 iterate 2 (apply sd_plain (hfree := rfl); intro _; exact do_extract rfl rfl; exact rfl)
 iterate 2 (apply sd_plain (hfree := rfl); intro _; exact do_assign rfl; exact rfl)
 apply sd_nil
 apply ct_seq
 apply ct_region
 apply seq_plain; exact do_move rfl; exact rfl
 apply seq_call (ht := rfl); exact ctq _ _ (getApp k7); exact rfl
 apply seq_plain; exact do_move rfl; exact rfl
 iterate 2 (apply seq_plain; exact do_assign rfl; exact rfl)
 apply seq_nil
 apply ct_ret
 rw [l9]
 exact fin_two (vs := [.slice (some ⟨nb H 7, 0, none⟩) 1 1, .slice (some ⟨nb H 8, 0, none⟩) 0 0]) (j := 7) (k := 8) hc rfl (getApp k7) (by rw [List.getElem?_append_right (by omega), l9]; rfl) (by decide) rfl rfl (by simp [packA, renV, renL, renOf_two1]) ⟨0, _, rfl, rfl⟩
end Go.Proofs.YtmcecjplgalcgaaGreatDoor
