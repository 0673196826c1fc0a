/- Contracts: what is wrong with a race; the most of a team. -/
import Derived.Test.YtppflopinmkpgaaDoorElA
noncomputable section
namespace Go.Proofs.YtppflopinmkpgaaDoor
open Go Go.Den
set_option maxRecDepth 10000

def pairsL (n : Int) (l : List (Int × Int)) : Int := firstL (l.map fun p => pairL n p.1 p.2)
theorem pairsL_at {n : Int} {l : List (Int × Int)} {i : Nat} (hi : i < l.length) (h : ∀ j (hj : j < l.length), j < i → pairL n l[j].1 l[j].2 = 0) (hne : pairL n l[i].1 l[i].2 ≠ 0) : pairsL n l = pairL n l[i].1 l[i].2 := by
  unfold pairsL
  rw [firstL_at (i := i) (by simpa using hi) (fun j hj hji => by simpa using h j (by simpa using hj) hji) (by simpa using hne)]; simp
theorem pairsL_none {n : Int} {l : List (Int × Int)} (h : ∀ j (hj : j < l.length), pairL n l[j].1 l[j].2 = 0) : pairsL n l = 0 := by
  unfold pairsL
  exact firstL_none fun j hj => by simpa using h j (by simpa using hj)
theorem pairL_ok {n a b : Int} (h : [a, b].any (unknownL n) = false) (h2 : (a == b) = false) : pairL n a b = 0 := by simp [pairL, firstL, whenL, h, h2]

theorem checkPairs_c {H : AHeap} {n : Int} {q : Option Addr} {c : Nat} {l : List (Int × Int)} (hs : SlAt H 2 p2 q l) (hn : l.length < 1000000000000) :
    Ret Tryd.prog 77 [I n, .slice q l.length c] H (I (pairsL n l)) H := by
  refine fn_start Tryd.func77 rfl rfl rfl fun hc => ?_
  apply ct_seq
  apply ct_region
  apply seq_plain; exact do_assign rfl; exact rfl
  apply seq_nil
  apply ct_seq
  apply ct_seq
  apply ct_region
  apply seq_plain; exact do_move rfl; exact rfl
  apply seq_plain; exact do_lenS rfl rfl rfl; exact rfl
  apply seq_plain; exact do_move rfl; exact rfl
  apply seq_nil
  apply ct_block
  apply ct_loop
  refine lt_upB hc (fun i => [(0, I n), (8, .slice q l.length c), (9, I l.length), (10, I i)]) (fun i => ∀ j (hj : j < l.length), j < i → pairL n l[j].1 l[j].2 = 0) l.length (fun i h lo hc' hE0 hi hJ ih => ?_) 0 (by omega) (by intros; omega) (by repeat (first | exact sub_nil | apply sub_cons rfl))
  have hE := (ext_Ext hc).trans hE0
  clear hE0
  apply ct_seq
  apply ct_region
  apply seq_plain; exact do_binInt rfl rfl rfl trivial; exact rfl
  apply seq_nil
  apply ct_seq
  refine ct_cond rfl (fun h1 => ?_) (fun h1 => ?_)
  · simp only [decide_eq_true_eq, Int.ofNat_lt] at h1
    obtain ⟨b, o, cs, z, s, ro, rfl, hg, hw⟩ := hs.out (by intro e; rw [e] at h1; simp at h1)
    have hg := hE _ _ hg
    apply ct_skip
    apply ct_seq
    apply ct_block
    apply ct_seq
    apply ct_region
    apply seq_plain; exact do_indexAddrS rfl rfl rfl (by exact idx_nat (by omega)); exact rfl
    apply seq_plain; exact do_load rfl (by exact ext_get_old (by assumption) (by assumption)) rfl (by exact pt_sl (by assumption) (by omega)); exact rfl
    apply seq_newP; exact do_alloc rfl rfl; exact rfl
    apply seq_putC (hc := by assumption); rotate_left; exact do_store rfl rfl (by exact ext_get_new rfl) rfl rfl (nb_own _); rotate_left; exact Nat.le_of_ble_eq_true rfl
    apply ct_seq
    apply ct_region
    apply seq_plain; exact do_load rfl (by exact ext_get_new rfl) rfl (by exact rfl); exact rfl
    apply seq_plain; exact do_move rfl; exact rfl
    apply seq_call (ht := rfl); exact check162; exact rfl
    apply seq_plain; exact do_assign rfl; exact rfl
    apply seq_nil
    apply ct_seq
    apply ct_region
    apply seq_plain; exact do_move rfl; exact rfl
    apply seq_plain; exact do_binInt rfl rfl rfl trivial; exact rfl
    apply seq_nil
    refine ct_cond rfl (fun d1 => ?_) (fun d1 => ?_)
    · have d1 : (pairL n l[i].1 l[i].2 != 0) = true := d1
      apply ct_seq
      apply ct_region
      apply seq_plain; exact do_move rfl; exact rfl
      apply seq_plain; exact do_assign rfl; exact rfl
      apply seq_nil
      apply ct_ret
      refine fin_flatB hc hc' hE rfl rfl ⟨?_, rfl⟩
      rw [pairsL_at h1 hJ (by simpa using d1)]; rfl
    · have d1 : (pairL n l[i].1 l[i].2 != 0) = false := d1
      apply ct_skip
      apply ct_region
      apply seq_plain; exact do_succ rfl (by omega); exact rfl
      apply seq_plain; exact do_move rfl; exact rfl
      apply seq_nil
      refine lt_sub ?_ (ih (i + 1) _ _ _ hc' (.refl _) (by omega) (by omega) fun j hj hji => ?_)
      · (repeat (first | exact sub_nil | apply sub_cons rfl))
      · rcases Nat.lt_or_ge j i with h | h
        · exact hJ j hj h
        · have : j = i := by omega
          subst this; simpa using d1
  · simp only [decide_eq_false_iff_not, Int.ofNat_lt] at h1
    apply ct_exit
    apply exit_eq; exact rfl
    apply ct_seq
    apply ct_region
    apply seq_plain; exact do_assign rfl; exact rfl
    apply seq_nil
    apply ct_ret
    refine fin_flatB hc hc' hE rfl rfl ⟨?_, rfl⟩
    rw [pairsL_none fun j hj => hJ j hj (by omega)]; rfl

def farL (k : Int) : Bool := decide (whenL (outL k 0 999999999) 3 ≠ 0)
theorem farL_out {k : Int} : farL k = outL k 0 999999999 := by
  unfold farL whenL
  cases outL k 0 999999999 <;> rfl
theorem far_c {H : AHeap} {k : Int} : Ret Tryd.prog 76 [I k] H (.bool (farL k)) H := by
  refine fn_start Tryd.func76 rfl rfl rfl fun hc => ?_
  apply ct_seq
  apply ct_region
  apply seq_plain; exact do_assign rfl; exact rfl
  apply seq_nil
  apply ct_seq
  apply ct_region
  apply seq_plain; exact do_move rfl; exact rfl
  apply seq_call (ht := rfl); exact within89; exact rfl
  apply seq_plain; exact do_binInt rfl rfl rfl trivial; exact rfl
  apply seq_plain; exact do_assign rfl; exact rfl
  apply seq_nil
  apply ct_ret
  refine fin_flat hc rfl rfl ⟨?_, rfl⟩
  have : (whenL (outL k 0 999999999) 3 != 0) = farL k := by unfold farL; cases outL k 0 999999999 <;> rfl
  show Value.bool (whenL (outL k 0 999999999) 3 != 0) = _
  rw [this]

def raceL (pts : List Int) (opn : List (Int × Int)) : Int := firstL [whenL (outL pts.length 2 24) 3, whenL (pts.any farL) 3, whenL (decide ((opn.length : Int) > 64)) 5, pairsL pts.length opn]

theorem checkRace_c {H : AHeap} {q r : Option Addr} {c d : Nat} {pts : List Int} {opn : List (Int × Int)} (hs : SlAt H 1 i1 q pts) (ht : SlAt H 2 p2 r opn) (hn : pts.length < 1000000000000) (hm : opn.length < 1000000000000) :
    Ret Tryd.prog 64 [Rv q pts.length c r opn.length d] H (I (raceL pts opn)) H := by
  refine fn_start Tryd.func64 rfl rfl rfl fun hc => ?_
  apply ct_seq
  apply ct_region
  apply seq_newP; exact do_box rfl rfl rfl; exact rfl
  apply seq_plain; exact do_assign rfl; exact rfl
  apply seq_nil
  apply ct_seq
  apply ct_region
  apply seq_plain; exact do_fieldAddr rfl rfl; exact rfl
  apply seq_plain; exact do_load rfl (by exact ext_get_new rfl) rfl (by exact rfl); exact rfl
  apply seq_plain; exact do_lenS rfl rfl rfl; exact rfl
  apply seq_plain; exact do_assign rfl; exact rfl
  apply seq_nil
  apply ct_seq
  apply ct_region
  apply seq_plain; exact do_fieldAddr rfl rfl; exact rfl
  apply seq_plain; exact do_load rfl (by exact ext_get_new rfl) rfl (by exact rfl); exact rfl
  apply seq_call (ht := rfl); exact has106 (l := pts) (p := farL) (hs.ext (ext_Ext hc)) hn fun x hx H' h' => far_c; exact rfl
  apply seq_plain; exact do_assign rfl; exact rfl
  apply seq_nil
  apply ct_seq
  apply ct_draw (by assumption); decide +kernel
  apply sd_plain (hfree := rfl); intro _; exact do_move rfl; exact rfl
  apply sd_call (ht := rfl); exact checkTeams145; exact rfl
  apply sd_plain (hfree := rfl); intro _; exact do_move rfl; exact rfl
  apply sd_call (ht := rfl); exact when85; exact rfl
  apply sd_plain (hfree := rfl); intro _; exact do_fieldAddr rfl rfl; exact rfl
  apply sd_look (hfree := rfl); exact do_load rfl (by exact ext_get_new rfl) rfl (by exact rfl); exact rfl
  apply sd_look (hfree := rfl); exact do_lenS rfl rfl rfl; exact rfl
  apply sd_plain (hfree := rfl); intro _; exact do_binInt rfl rfl rfl trivial; exact rfl
  apply sd_call (ht := rfl); exact when85; exact rfl
  apply sd_plain (hfree := rfl); intro _; exact do_move rfl; exact rfl
  apply sd_plain (hfree := rfl); intro _; exact do_fieldAddr rfl rfl; exact rfl
  apply sd_look (hfree := rfl); exact do_load rfl (by exact ext_get_new rfl) rfl (by exact rfl); exact rfl
  apply sd_call (ht := rfl); exact checkPairs_c (ht.ext (ext_Ext hc)) hm; exact rfl
  apply sd_newS (hfree := rfl); exact do_buildSlice rfl rfl rfl rfl rfl rfl rfl; exact rfl
  apply sd_callM (ht := rfl) (hw := rfl); decide +kernel; exact first84 (l := [_, _, _, _]) (slAt_map (ext_get_new rfl)) (by simp); exact rfl
  apply sd_plain (hfree := rfl); intro _; exact do_assign rfl; exact rfl
  apply sd_nil
  apply ct_ret
  exact fin_flat hc rfl rfl ⟨rfl, rfl⟩

theorem raceL_pairs {pts : List Int} {opn : List (Int × Int)} (h : outL pts.length 2 24 = false) (h2 : pts.any farL = false) (h3 : decide ((opn.length : Int) > 64) = false) : raceL pts opn = pairsL pts.length opn := by
  simp only [raceL, firstL, whenL, h, h2, h3]
  by_cases e : pairsL pts.length opn = 0 <;> simp [e]

def chkR (pts : List Int) (opn : List (Int × Int)) (team : Int) : Int := firstL [raceL pts opn, whenL ([team].any (unknownL pts.length)) 10]
theorem check_c {H : AHeap} {q r : Option Addr} {c d : Nat} {pts : List Int} {opn : List (Int × Int)} {team : Int} (hs : SlAt H 1 i1 q pts) (ht : SlAt H 2 p2 r opn) (hn : pts.length < 1000000000000) (hm : opn.length < 1000000000000) :
    Ret Tryd.prog 36 [Rv q pts.length c r opn.length d, I team] H (I (chkR pts opn team)) H := by
  refine fn_start Tryd.func36 rfl rfl rfl fun hc => ?_
  apply ct_seq
  apply ct_region
  apply seq_newP; exact do_box rfl rfl rfl; exact rfl
  apply seq_plain; exact do_assign rfl; exact rfl
  apply seq_nil
  apply ct_seq
  apply ct_draw (by assumption); decide +kernel
  apply sd_look (hfree := rfl); exact do_load rfl (by exact ext_get_new rfl) rfl (by exact rfl); exact rfl
  apply sd_call (ht := rfl); exact checkRace_c (hs.ext (ext_Ext hc)) (ht.ext (ext_Ext hc)) hn hm; exact rfl
  apply sd_plain (hfree := rfl); intro _; exact do_fieldAddr rfl rfl; exact rfl
  apply sd_look (hfree := rfl); exact do_load rfl (by exact ext_get_new rfl) rfl (by exact rfl); exact rfl
  apply sd_look (hfree := rfl); exact do_lenS rfl rfl rfl; exact rfl
  apply sd_plain (hfree := rfl); intro _; exact do_move rfl; exact rfl
  apply sd_newS (hfree := rfl); exact do_buildSlice rfl rfl rfl rfl rfl rfl rfl; exact rfl
  apply sd_callM (ht := rfl) (hw := rfl); decide +kernel; exact known125 (l := [_]) (slAt_map (ext_get_new rfl)) (by simp); exact rfl
  apply sd_newS (hfree := rfl); exact do_buildSlice rfl rfl rfl rfl rfl rfl rfl; exact rfl
  apply sd_callM (ht := rfl) (hw := rfl); decide +kernel; exact first84 (l := [_, _]) (slAt_map (ext_get_new rfl)) (by simp); exact rfl
  apply sd_plain (hfree := rfl); intro _; exact do_assign rfl; exact rfl
  apply sd_nil
  apply ct_ret
  exact fin_flat hc rfl rfl ⟨rfl, rfl⟩

structure GoodR (pts : List Int) (opn : List (Int × Int)) : Prop where
  lo : 2 ≤ pts.length
  hi : pts.length ≤ 24
  pt : ∀ x ∈ pts, 0 ≤ x ∧ x ≤ 999999999
  len : opn.length ≤ 64
  each : ∀ p ∈ opn, (0 ≤ p.1 ∧ p.1 < pts.length) ∧ (0 ≤ p.2 ∧ p.2 < pts.length) ∧ p.1 ≠ p.2
theorem whenL_zero {b : Bool} {e : Int} (h : whenL b e = 0) (he : e ≠ 0) : b = false := by
  cases b
  · rfl
  · exact absurd h he
theorem pairL_zero {n a b : Int} (h : pairL n a b = 0) : (0 ≤ a ∧ a < n) ∧ (0 ≤ b ∧ b < n) ∧ a ≠ b := by
  have q := firstL_zero h
  have q1 := whenL_zero (q _ (List.mem_cons_self ..)) (by decide)
  have q2 := whenL_zero (q _ (List.mem_cons_of_mem _ (List.mem_cons_self ..))) (by decide)
  simp [unknownL] at q1
  simp at q2
  exact ⟨by omega, by omega, q2⟩
theorem race_good {pts : List Int} {opn : List (Int × Int)} (h : raceL pts opn = 0) : GoodR pts opn := by
  have t := firstL_zero h
  have t1 := whenL_zero (t _ (List.mem_cons_self ..)) (by decide)
  have t2 := whenL_zero (t _ (List.mem_cons_of_mem _ (List.mem_cons_self ..))) (by decide)
  have t3 := whenL_zero (t _ (List.mem_cons_of_mem _ (List.mem_cons_of_mem _ (List.mem_cons_self ..)))) (by decide)
  have t4 := t _ (List.mem_cons_of_mem _ (List.mem_cons_of_mem _ (List.mem_cons_of_mem _ (List.mem_cons_self ..))))
  have hn := outL_f t1
  simp only [decide_eq_false_iff_not] at t3
  refine ⟨by omega, by omega, fun x hx => ?_, by omega, fun p hp => ?_⟩
  · rw [List.any_eq_false] at t2
    have := t2 x hx
    rw [farL_out] at this
    exact outL_f (by simpa using this)
  · exact pairL_zero (firstL_zero t4 _ (List.mem_map.2 ⟨p, hp, rfl⟩))
theorem chkR_zero {pts : List Int} {opn : List (Int × Int)} {team : Int} (h : chkR pts opn team = 0) : raceL pts opn = 0 ∧ 0 ≤ team ∧ team < pts.length := by
  have t := firstL_zero h
  have t1 := t _ (List.mem_cons_self ..)
  have t2 := whenL_zero (t _ (List.mem_cons_of_mem _ (List.mem_cons_self ..))) (by decide)
  simp [unknownL] at t2
  exact ⟨t1, by omega, by omega⟩
end Go.Proofs.YtppflopinmkpgaaDoor
