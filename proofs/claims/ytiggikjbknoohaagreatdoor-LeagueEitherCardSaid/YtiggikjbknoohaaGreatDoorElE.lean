/- Contracts: what is wrong with a set that is to prove something. -/
import Derived.Test.YtiggikjbknoohaaGreatDoorElD
noncomputable section
namespace Go.Proofs.YtiggikjbknoohaaGreatDoor
open Go Go.Den
set_option maxRecDepth 10000

def nth (l : List Int) (i : Nat) : Int := l[i]?.getD 0
theorem nth_eq {l : List Int} {i : Nat} (h : i < l.length) : l[i] = nth l i := by simp [nth, h]
def errE (n : Int) (team : Int) (set : List Int) (i : Nat) : Int := firstL [whenL ([nth set i].any (unknownL n)) 10, whenL (decide (0 < i) && decide (nth set i ≤ nth set (i - 1))) 11, whenL (nth set i == team) 19]
def seqE (n : Int) (team : Int) (set : List Int) : Int := firstL ((List.range set.length).map (errE n team set))
theorem seqE_at {n team : Int} {set : List Int} {i : Nat} (h : i < set.length) (hJ : ∀ j, j < i → errE n team set j = 0) (hne : errE n team set i ≠ 0) : seqE n team set = errE n team set i := by
  unfold seqE
  rw [firstL_at (i := i) (by simpa using h) (fun j hj hji => by simpa using hJ j hji) (by simpa using hne)]; simp
theorem seqE_none {n team : Int} {set : List Int} (hJ : ∀ j, j < set.length → errE n team set j = 0) : seqE n team set = 0 := by
  unfold seqE
  exact firstL_none fun j hj => by simpa using hJ j (by simpa using hj)
/-- what is wrong with the set itself, in a valid race -/
def setE (pts : List Int) (opn : List (Int × Int)) (team : Int) (set : List Int) : Int :=
  if set.length = 0 then 12 else if seqE pts.length team set ≠ 0 then seqE pts.length team set else whenL (!proveL pts opn team set) 21
def elimE (pts : List Int) (opn : List (Int × Int)) (team : Int) (set : List Int) : Int := if chkR pts opn team ≠ 0 then chkR pts opn team else setE pts opn team set
theorem errE_known {n team : Int} {set : List Int} {i : Nat} (h : errE n team set i = 0) : 0 ≤ nth set i ∧ nth set i < n := by
  have t1 := whenL_zero (firstL_zero h _ (List.mem_cons_self ..)) (by decide)
  simp [unknownL] at t1
  omega

set_option maxHeartbeats 2000000 in
theorem checkEliminated_c {H : AHeap} {q r u : Option Addr} {c d e : Nat} {pts set : List Int} {opn : List (Int × Int)} {team : Int} (hs : SlAt H 1 i1 q pts) (ht : SlAt H 2 p2 r opn) (hu : SlAt H 1 i1 u set) (hn1 : pts.length < 1000000000000) (hn2 : opn.length < 1000000000000) (hn : set.length ≤ 1000) :
    Ret Tryz.prog 62 [Rv q pts.length c r opn.length d, I team, .slice u set.length e] H (I (elimE pts opn team set)) H := by
  refine fn_start Tryz.func62 rfl rfl rfl fun hc => ?_
  apply ct_seq
  apply ct_region
  apply seq_newP; exact do_box rfl rfl rfl; exact rfl
  apply seq_plain; exact do_assign rfl; exact rfl
  apply seq_nil
  apply ct_seq
  apply ct_seq
  apply ct_region
  apply seq_plain; exact do_load rfl (by exact ext_get_new rfl) rfl (by exact rfl); exact rfl
  apply seq_plain; exact do_move rfl; exact rfl
  apply seq_call (ht := rfl); exact check_c (hs.ext (ext_Ext hc)) (ht.ext (ext_Ext hc)) hn1 hn2; exact rfl
  apply seq_plain; exact do_move rfl; exact rfl
  apply seq_plain; exact do_lenS rfl rfl rfl; exact rfl
  apply seq_plain; exact do_binInt rfl rfl rfl trivial; exact rfl
  apply seq_call (ht := rfl); exact when85; exact rfl
  apply seq_newS; exact do_buildSlice rfl rfl rfl rfl rfl rfl rfl; exact rfl
  apply seq_call (ht := rfl); exact first84 (l := [_, _]) (slAt_map (ext_get_new rfl)) (by simp); exact rfl
  apply seq_plain; exact do_assign rfl; exact rfl
  apply seq_nil
  apply ct_seq
  apply ct_region
  apply seq_plain; exact do_move rfl; exact rfl
  apply seq_plain; exact do_binInt rfl rfl rfl trivial; exact rfl
  apply seq_nil
  refine ct_cond rfl (fun h0 => ?_) (fun h0 => ?_)
  · have h0 : firstL [chkR pts opn team, whenL (((set.length : Int)) == 0) 12] ≠ 0 := by simpa using h0
    apply ct_seq
    apply ct_region
    apply seq_plain; exact do_move rfl; exact rfl
    apply seq_plain; exact do_assign rfl; exact rfl
    apply seq_nil
    apply ct_ret
    refine fin_flat hc rfl rfl ⟨?_, rfl⟩
    have : elimE pts opn team set = firstL [chkR pts opn team, whenL (((set.length : Int)) == 0) 12] := by
      unfold elimE setE
      by_cases h1 : chkR pts opn team = 0
      · rw [if_neg (by simp [h1])]
        by_cases h2 : set.length = 0
        · rw [if_pos h2, h1]; simp [h2, firstL, whenL]
        · exfalso; apply h0; rw [h1]; simp [firstL, whenL, h2]
      · rw [if_pos h1]; simp [firstL, h1]
    rw [this]; rfl
  · have h0 : firstL [chkR pts opn team, whenL (((set.length : Int)) == 0) 12] = 0 := by simpa using h0
    have t := firstL_zero h0
    have hk := t _ (List.mem_cons_self ..)
    have hne := whenL_zero (t _ (List.mem_cons_of_mem _ (List.mem_cons_self ..))) (by decide)
    have hne : set.length ≠ 0 := by simp at hne; simpa using hne
    obtain ⟨hk1, hk2, hk3⟩ := chkR_zero hk
    have hg := race_good hk1
    have efin : elimE pts opn team set = if seqE pts.length team set ≠ 0 then seqE pts.length team set else whenL (!proveL pts opn team set) 21 := by
      unfold elimE setE
      rw [if_neg (by simp [hk]), if_neg hne]
    apply ct_skip
    apply ct_seq
    apply ct_seq
    apply ct_region
    apply seq_plain; exact do_move rfl; exact rfl
    apply seq_plain; exact do_lenS rfl rfl rfl; exact rfl
    apply seq_plain; exact do_move rfl; exact rfl
    apply seq_nil
    apply ct_block
    apply ct_loop
    refine lt_upB hc (fun i => [(1, I team), (2, .slice u set.length e), (3, .pointer (some ⟨nb H 0, 0, none⟩)), (23, .slice u set.length e), (24, I set.length), (25, I i)]) (fun i => ∀ j, j < i → errE pts.length team set j = 0) set.length (fun i h lo hc' hE0 hi hJ ih => ?_) 0 (by omega) (by intros; omega) (by repeat (first | exact sub_nil | apply sub_cons rfl))
    have hE := (ext_Ext hc).trans hE0
    have hbox := hE0 _ _ (ext_get_new (k := 0) rfl)
    clear hE0
    apply ct_seq
    apply ct_region
    apply seq_plain; exact do_binInt rfl rfl rfl trivial; exact rfl
    apply seq_nil
    apply ct_seq
    refine ct_cond rfl (fun h1 => ?_) (fun h1 => ?_)
    · simp only [decide_eq_true_eq, Int.ofNat_lt] at h1
      obtain ⟨b, o, cs, z, s, ro, rfl, hg1, hw⟩ := hu.out (by intro e; rw [e] at h1; simp at h1)
      have hg1 := hE _ _ hg1
      have en := nth_eq h1
      apply ct_skip
      apply ct_seq
      apply ct_block
      apply ct_seq
      apply ct_region
      apply seq_plain; exact do_move rfl; exact rfl
      apply seq_plain; exact do_indexAddrS rfl rfl rfl (by exact idx_nat (by omega)); exact rfl
      apply seq_plain; exact do_load rfl (by exact ext_get_old (by assumption) (by assumption)) rfl (by exact pt_sl0 (by assumption) (by omega)); exact rfl
      apply seq_plain; exact do_assign rfl; exact rfl
      apply seq_plain; exact do_assign rfl; exact rfl
      apply seq_nil
      apply ct_seq
      apply ct_region
      apply seq_plain; exact do_fieldAddr rfl rfl; exact rfl
      apply seq_plain; exact do_load rfl (by exact ext_get_old (by assumption) (by assumption)) rfl (by exact rfl); exact rfl
      apply seq_plain; exact do_lenS rfl rfl rfl; exact rfl
      apply seq_plain; exact do_move rfl; exact rfl
      apply seq_newS; exact do_buildSlice rfl rfl rfl rfl rfl rfl rfl; exact rfl
      apply seq_call (ht := rfl); exact known125 (l := [_]) (slAt_map (ext_get_new rfl)) (by simp); exact rfl
      apply seq_plain; exact do_move rfl; exact rfl
      apply seq_plain; exact do_binInt rfl rfl rfl trivial; exact rfl
      apply seq_plain; exact do_move rfl; exact rfl
      refine seq_J [(1, I team), (2, .slice (some ⟨b, o, none⟩) set.length e), (3, .pointer (some ⟨nb H 0, 0, none⟩)), (23, .slice (some ⟨b, o, none⟩) set.length e), (24, I set.length), (25, I i), (10, I (errE pts.length team set i))] (ds := []) (h := ext h lo [some (.cells [I set[i]] 1 false false), some (.cells [I (whenL ([set[i]].any (unknownL pts.length)) 10), I (whenL (decide (0 < i) && decide (nth set i ≤ nth set (i - 1))) 11), I (whenL (set[i] == team) 19)] 1 false false)]) ?_ ?_
      · refine seq_gsplit rfl rfl (fun u1 => ?_) (fun u1 => ?_)
        · have hi0 : 0 < i := by simp at u1; omega
          have hm : (max 0 ((i : Int) - 1)).toNat = i - 1 := by omega
          have hlt : (max 0 ((i : Int) - 1)).toNat < set.length := by omega
          have em : set[(max 0 ((i : Int) - 1)).toNat] = nth set (i - 1) := by rw [nth_eq hlt, hm]
          have e2 : (decide (0 < i) && decide (nth set i ≤ nth set (i - 1))) = decide (set[i] ≤ set[(max 0 ((i : Int) - 1)).toNat]) := by rw [em, en]; simp [hi0]
          rw [e2]
          have e1 : errE pts.length team set i = firstL [whenL ([set[i]].any (unknownL pts.length)) 10, whenL (decide (set[i] ≤ set[(max 0 ((i : Int) - 1)).toNat])) 11, whenL (set[i] == team) 19] := by unfold errE; rw [← e2, en]
          rw [e1]
          apply seq_guard (hd := rfl) (hl := rfl); exact do_move rfl; exact rfl
          apply seq_guard (hd := rfl) (hl := rfl); exact do_move rfl; exact rfl
          apply seq_guard (hd := rfl) (hl := rfl); exact do_move rfl; exact rfl
          apply seq_guard (hd := rfl) (hl := rfl); exact do_sub rfl rfl (by omega); exact rfl
          apply seq_guard (hd := rfl) (hl := rfl); exact do_max rfl; exact rfl
          apply seq_guard (hd := rfl) (hl := rfl); exact do_indexAddrS rfl rfl rfl (by exact idx_int (by omega)); exact rfl
          apply seq_guard (hd := rfl) (hl := rfl); exact do_load rfl (by exact ext_get_old (by assumption) (by assumption)) rfl (by exact pt_sl0 (by assumption) (by omega)); exact rfl
          apply seq_guard (hd := rfl) (hl := rfl); exact do_binInt rfl rfl rfl trivial; exact rfl
          apply seq_plain; exact do_pick_t rfl rfl; exact rfl
          apply seq_call (ht := rfl); exact when85; exact rfl
          apply seq_plain; exact do_move rfl; exact rfl
          apply seq_plain; exact do_move rfl; exact rfl
          apply seq_plain; exact do_binInt rfl rfl rfl trivial; exact rfl
          apply seq_call (ht := rfl); exact when85; exact rfl
          apply seq_newS; exact do_buildSlice rfl rfl rfl rfl rfl rfl rfl; exact rfl
          apply seq_call (ht := rfl); exact first84 (l := [_, _, _]) (slAt_map (ext_get_new rfl)) (by simp); exact rfl
          apply seq_plain; exact do_assign rfl; exact rfl
          apply seq_nil
          exact jp_of (by repeat (first | exact sub_nil | apply sub_cons rfl))
        · have hi0 : i = 0 := by simp at u1; omega
          have e2 : (decide (0 < i) && decide (nth set i ≤ nth set (i - 1))) = false := by simp [hi0]
          rw [e2]
          have e1 : errE pts.length team set i = firstL [whenL ([set[i]].any (unknownL pts.length)) 10, whenL false 11, whenL (set[i] == team) 19] := by unfold errE; rw [e2, en]
          rw [e1]
          apply seq_passed (hd := rfl) (hl := rfl) (hb := rfl); exact rfl
          apply seq_passed (hd := rfl) (hl := rfl) (hb := rfl); exact rfl
          apply seq_passed (hd := rfl) (hl := rfl) (hb := rfl); exact rfl
          apply seq_passed (hd := rfl) (hl := rfl) (hb := rfl); exact rfl
          apply seq_passed (hd := rfl) (hl := rfl) (hb := rfl); exact rfl
          apply seq_passed (hd := rfl) (hl := rfl) (hb := rfl); exact rfl
          apply seq_passed (hd := rfl) (hl := rfl) (hb := rfl); exact rfl
          apply seq_passed (hd := rfl) (hl := rfl) (hb := rfl); exact rfl
          apply seq_plain; exact do_pick_f rfl rfl; exact rfl
          apply seq_call (ht := rfl); exact when85; exact rfl
          apply seq_plain; exact do_move rfl; exact rfl
          apply seq_plain; exact do_move rfl; exact rfl
          apply seq_plain; exact do_binInt rfl rfl rfl trivial; exact rfl
          apply seq_call (ht := rfl); exact when85; exact rfl
          apply seq_newS; exact do_buildSlice rfl rfl rfl rfl rfl rfl rfl; exact rfl
          apply seq_call (ht := rfl); exact first84 (l := [_, _, _]) (slAt_map (ext_get_new rfl)) (by simp); exact rfl
          apply seq_plain; exact do_assign rfl; exact rfl
          apply seq_nil
          exact jp_of (by repeat (first | exact sub_nil | apply sub_cons rfl))
      apply ct_seq
      apply ct_region
      apply seq_plain; exact do_move rfl; exact rfl
      apply seq_plain; exact do_binInt rfl rfl rfl trivial; exact rfl
      apply seq_nil
      refine ct_cond rfl (fun d1 => ?_) (fun d1 => ?_)
      · have d1 : errE pts.length team set i ≠ 0 := by simpa using d1
        apply ct_seq
        apply ct_region
        apply seq_plain; exact do_move rfl; exact rfl
        apply seq_plain; exact do_assign rfl; exact rfl
        apply seq_nil
        apply ct_ret
        refine fin_flatB hc hc' hE rfl rfl ⟨?_, rfl⟩
        have e := seqE_at h1 hJ d1
        rw [efin, e, if_pos d1]; rfl
      · have d1 : errE pts.length team set i = 0 := by simpa using d1
        apply ct_skip
        apply ct_region
        apply seq_plain; exact do_succ rfl (by omega); exact rfl
        apply seq_plain; exact do_move rfl; exact rfl
        apply seq_nil
        refine lt_sub ?_ (ih (i + 1) _ _ _ hc' (.refl _) (by omega) (by omega) fun j hji => ?_)
        · (repeat (first | exact sub_nil | apply sub_cons rfl))
        · rcases Nat.lt_or_ge j i with h | h
          · exact hJ j h
          · have : j = i := by omega
            subst this; exact d1
    · simp only [decide_eq_false_iff_not, Int.ofNat_lt] at h1
      have hin : ∀ k ∈ set, 0 ≤ k ∧ k < pts.length := by
        intro k hk
        obtain ⟨j, hj, rfl⟩ := List.getElem_of_mem hk
        have := errE_known (hJ j (by omega))
        rw [nth_eq hj]; exact this
      apply ct_exit
      apply exit_eq; exact rfl
      apply ct_seq
      apply ct_region
      apply seq_plain; exact do_load rfl (by exact ext_get_old (by assumption) (by assumption)) rfl (by exact rfl); exact rfl
      apply seq_plain; exact do_move rfl; exact rfl
      apply seq_plain; exact do_move rfl; exact rfl
      apply seq_call (ht := rfl); exact proves_c (hs.ext (hE.trans (ext_Ext hc'))) (ht.ext (hE.trans (ext_Ext hc'))) (hu.ext (hE.trans (ext_Ext hc'))) hg hk2 hk3 hn hin; exact rfl
      apply seq_plain; exact do_unOp rfl rfl; exact rfl
      apply seq_call (ht := rfl); exact when85; exact rfl
      apply seq_plain; exact do_assign rfl; exact rfl
      apply seq_nil
      apply ct_ret
      refine fin_flatB hc hc' hE rfl rfl ⟨?_, rfl⟩
      rw [efin, if_neg (by simp [seqE_none fun j hj => hJ j (by omega)])]; rfl

theorem errE_unknown {n team : Int} {set : List Int} {i : Nat} (h : i < set.length) (h1 : outL set[i] 0 (n - 1) = true) : errE n team set i = 10 := by
  have h1 := unknown_first (b := set[i]) h1
  simp at h1
  rw [nth_eq h] at h1
  simp [errE, firstL, whenL, h1]
theorem unknown_one {n k : Int} (h : outL k 0 (n - 1) = false) : unknownL n k = false := by
  simp [outL] at h
  simp [unknownL]; omega
theorem errE_order {n team : Int} {set : List Int} {i : Nat} (h : i < set.length) (h1 : outL set[i] 0 (n - 1) = false) (h2 : (decide (0 < i) && decide (nth set i ≤ nth set (i - 1))) = true) : errE n team set i = 11 := by
  have h1 := unknown_one h1
  rw [nth_eq h] at h1
  simp [errE, firstL, whenL, h1, h2]
theorem errE_same {n team : Int} {set : List Int} {i : Nat} (h : i < set.length) (h1 : outL set[i] 0 (n - 1) = false) (h2 : (decide (0 < i) && decide (nth set i ≤ nth set (i - 1))) = false) (h3 : (set[i] == team) = true) : errE n team set i = 19 := by
  have h1 := unknown_one h1
  rw [nth_eq h] at h1 h3
  simp only [errE, firstL, whenL, h2, h3]
  simp [h1]
theorem errE_ok {n team : Int} {set : List Int} {i : Nat} (h : i < set.length) (h1 : outL set[i] 0 (n - 1) = false) (h2 : (decide (0 < i) && decide (nth set i ≤ nth set (i - 1))) = false) (h3 : (set[i] == team) = false) : errE n team set i = 0 := by
  have h1 := unknown_one h1
  rw [nth_eq h] at h1 h3
  simp only [errE, firstL, whenL, h2, h3]
  simp [h1]

set_option maxHeartbeats 2000000 in
theorem refCheckEliminated_c {H : AHeap} {q r u : Option Addr} {c d e : Nat} {pts set : List Int} {opn : List (Int × Int)} {team : Int} (hs : SlAt H 1 i1 q pts) (ht : SlAt H 2 p2 r opn) (hu : SlAt H 1 i1 u set) (hg : GoodR pts opn) (h0 : 0 ≤ team) (h1 : team < pts.length) (hn : set.length ≤ 1000) :
    Ret Tryz.prog 63 [Rv q pts.length c r opn.length d, I team, .slice u set.length e] H (I (setE pts opn team set)) H := by
  have hlo := hg.lo
  have hhi := hg.hi
  refine fn_start Tryz.func63 rfl rfl rfl fun hc => ?_
  apply ct_seq
  apply ct_region
  apply seq_newP; exact do_box rfl rfl rfl; exact rfl
  apply seq_plain; exact do_assign rfl; exact rfl
  apply seq_nil
  apply ct_seq
  apply ct_seq
  apply ct_region
  apply seq_plain; exact do_move rfl; exact rfl
  apply seq_plain; exact do_lenS rfl rfl rfl; exact rfl
  apply seq_plain; exact do_binInt rfl rfl rfl trivial; exact rfl
  apply seq_nil
  refine ct_cond rfl (fun h2 => ?_) (fun h2 => ?_)
  · have h2 : (((set.length : Int)) == 0) = true := h2
    have h2 : set.length = 0 := by simp at h2; simpa using h2
    apply ct_seq
    apply ct_region
    apply seq_plain; exact do_assign rfl; exact rfl
    apply seq_nil
    apply ct_ret
    refine fin_flat hc rfl rfl ⟨?_, rfl⟩
    simp [setE, h2, packA]
  · have h2 : (((set.length : Int)) == 0) = false := h2
    have hne : set.length ≠ 0 := by simp at h2; simpa using h2
    have efin : setE pts opn team set = if seqE pts.length team set ≠ 0 then seqE pts.length team set else whenL (!proveL pts opn team set) 21 := by
      unfold setE
      rw [if_neg hne]
    apply ct_skip
    apply ct_seq
    apply ct_seq
    apply ct_region
    apply seq_plain; exact do_assign rfl; exact rfl
    apply seq_nil
    apply ct_block
    apply ct_loop
    refine lt_up (fun i => [(1, I team), (2, .slice u set.length e), (3, .pointer (some ⟨nb H 0, 0, none⟩)), (7, I i)]) (fun i => ∀ j, j < i → errE pts.length team set j = 0) set.length (fun i hi hJ ih => ?_) 0 (by omega) (by intros; omega) (by repeat (first | exact sub_nil | apply sub_cons rfl))
    apply ct_seq
    apply ct_seq
    apply ct_region
    apply seq_plain; exact do_move rfl; exact rfl
    apply seq_plain; exact do_move rfl; exact rfl
    apply seq_plain; exact do_lenS rfl rfl rfl; exact rfl
    apply seq_plain; exact do_binInt rfl rfl rfl trivial; exact rfl
    apply seq_nil
    refine ct_cond rfl (fun h3 => ?_) (fun h3 => ?_)
    · simp only [decide_eq_true_eq, Int.ofNat_lt] at h3
      obtain ⟨b, o, cs, z, s, ro, rfl, hg1, hw⟩ := hu.out (by intro e; rw [e] at h3; simp at h3)
      have en := nth_eq h3
      apply ct_skip
      apply ct_seq
      apply ct_block
      apply ct_seq
      apply ct_seq
      apply ct_draw (by assumption); decide +kernel
      apply sd_plain (hfree := rfl); intro _; exact do_move rfl; exact rfl
      apply sd_plain (hfree := rfl); intro _; exact do_move rfl; exact rfl
      apply sd_plain (hfree := rfl); intro _; exact do_indexAddrS rfl rfl rfl (by exact idx_nat (by omega)); exact rfl
      apply sd_look (hfree := rfl); exact do_load rfl (by exact ext_get_old (by assumption) (by assumption)) rfl (by exact pt_sl0 (by assumption) (by omega)); exact rfl
      apply sd_plain (hfree := rfl); intro _; exact do_fieldAddr rfl rfl; exact rfl
      apply sd_look (hfree := rfl); exact do_load rfl (by exact ext_get_new rfl) rfl (by exact rfl); exact rfl
      apply sd_look (hfree := rfl); exact do_lenS rfl rfl rfl; exact rfl
      apply sd_plain (hfree := rfl); intro _; exact do_sub rfl rfl (by omega); exact rfl
      apply sd_call (ht := rfl); exact outside24; exact rfl
      apply sd_nil
      refine ct_cond rfl (fun d1 => ?_) (fun d1 => ?_)
      · apply ct_seq
        apply ct_region
        apply seq_plain; exact do_assign rfl; exact rfl
        apply seq_nil
        apply ct_ret
        refine fin_flat hc rfl rfl ⟨?_, rfl⟩
        have e := errE_unknown (team := team) h3 d1
        rw [efin, seqE_at h3 hJ (by rw [e]; decide), e]; rfl
      · apply ct_skip
        repeat apply ct_seq
        refine ct_J [(1, I team), (2, .slice (some ⟨b, o, none⟩) set.length e), (3, .pointer (some ⟨nb H 0, 0, none⟩)), (7, I i), (39, .bool (decide (0 < i) && decide (nth set i ≤ nth set (i - 1))))] (ds := []) (h := ext H H.fresh [some (.cells [.slice q pts.length c, .slice r opn.length d] 0 false false)]) ?_ ?_
        · apply ct_draw (by assumption); decide +kernel
          apply sd_plain (hfree := rfl); intro _; exact do_move rfl; exact rfl
          apply sd_plain (hfree := rfl); intro _; exact do_binInt rfl rfl rfl trivial; exact rfl
          apply sd_plain (hfree := rfl); intro _; exact do_move rfl; exact rfl
          refine sd_gsplit rfl rfl (fun u1 => ?_) (fun u1 => ?_)
          · have hi0 : 0 < i := by simp at u1; omega
            have hm : ((i : Int) - 1).toNat = i - 1 := by omega
            have hlt : ((i : Int) - 1).toNat < set.length := by omega
            have em : set[((i : Int) - 1).toNat] = nth set (i - 1) := by rw [nth_eq hlt, hm]
            have e2 : (decide (0 < i) && decide (nth set i ≤ nth set (i - 1))) = decide (set[i] ≤ set[((i : Int) - 1).toNat]) := by rw [em, en]; simp [hi0]
            rw [e2]
            apply sd_guard (hfree := rfl) (hg := rfl) (hl := rfl); intro _; exact do_move rfl; exact rfl
            apply sd_guard (hfree := rfl) (hg := rfl) (hl := rfl); intro _; exact do_move rfl; exact rfl
            apply sd_guard (hfree := rfl) (hg := rfl) (hl := rfl); intro _; exact do_indexAddrS rfl rfl rfl (by exact idx_nat (by omega)); exact rfl
            apply sd_guardL (hfree := rfl) (hg := rfl) (hl := rfl); exact do_load rfl (by exact ext_get_old (by assumption) (by assumption)) rfl (by exact pt_sl0 (by assumption) (by omega)); exact rfl
            apply sd_guard (hfree := rfl) (hg := rfl) (hl := rfl); intro _; exact do_move rfl; exact rfl
            apply sd_guard (hfree := rfl) (hg := rfl) (hl := rfl); intro _; exact do_move rfl; exact rfl
            apply sd_guard (hfree := rfl) (hg := rfl) (hl := rfl); intro _; exact do_sub rfl rfl (by omega); exact rfl
            apply sd_guard (hfree := rfl) (hg := rfl) (hl := rfl); intro _; exact do_indexAddrS rfl rfl rfl (by exact idx_int (by omega)); exact rfl
            apply sd_guardL (hfree := rfl) (hg := rfl) (hl := rfl); exact do_load rfl (by exact ext_get_old (by assumption) (by assumption)) rfl (by exact pt_sl0 (by assumption) (by omega)); exact rfl
            apply sd_guard (hfree := rfl) (hg := rfl) (hl := rfl); intro _; exact do_binInt rfl rfl rfl trivial; exact rfl
            apply sd_plain (hfree := rfl); intro _; exact do_pick_t rfl rfl; exact rfl
            apply sd_nil
            exact jp_of (by repeat (first | exact sub_nil | apply sub_cons rfl))
          · have hi0 : i = 0 := by simp at u1; omega
            have e2 : (decide (0 < i) && decide (nth set i ≤ nth set (i - 1))) = false := by simp [hi0]
            rw [e2]
            apply sd_passed (hg := rfl) (hl := rfl) (hb := rfl); exact rfl
            apply sd_passed (hg := rfl) (hl := rfl) (hb := rfl); exact rfl
            apply sd_passed (hg := rfl) (hl := rfl) (hb := rfl); exact rfl
            apply sd_passed (hg := rfl) (hl := rfl) (hb := rfl); exact rfl
            apply sd_passed (hg := rfl) (hl := rfl) (hb := rfl); exact rfl
            apply sd_passed (hg := rfl) (hl := rfl) (hb := rfl); exact rfl
            apply sd_passed (hg := rfl) (hl := rfl) (hb := rfl); exact rfl
            apply sd_passed (hg := rfl) (hl := rfl) (hb := rfl); exact rfl
            apply sd_passed (hg := rfl) (hl := rfl) (hb := rfl); exact rfl
            apply sd_passed (hg := rfl) (hl := rfl) (hb := rfl); exact rfl
            apply sd_plain (hfree := rfl); intro _; exact do_pick_f rfl rfl; exact rfl
            apply sd_nil
            exact jp_of (by repeat (first | exact sub_nil | apply sub_cons rfl))
        skip
        refine ct_cond rfl (fun d2 => ?_) (fun d2 => ?_)
        · apply ct_seq
          apply ct_region
          apply seq_plain; exact do_assign rfl; exact rfl
          apply seq_nil
          apply ct_ret
          refine fin_flat hc rfl rfl ⟨?_, rfl⟩
          have e := errE_order (team := team) h3 d1 d2
          rw [efin, seqE_at h3 hJ (by rw [e]; decide), e]; rfl
        · apply ct_skip
          apply ct_seq
          apply ct_region
          apply seq_plain; exact do_move rfl; exact rfl
          apply seq_plain; exact do_move rfl; exact rfl
          apply seq_plain; exact do_indexAddrS rfl rfl rfl (by exact idx_nat (by omega)); exact rfl
          apply seq_plain; exact do_load rfl (by exact ext_get_old (by assumption) (by assumption)) rfl (by exact pt_sl0 (by assumption) (by omega)); exact rfl
          apply seq_plain; exact do_move rfl; exact rfl
          apply seq_plain; exact do_binInt rfl rfl rfl trivial; exact rfl
          apply seq_nil
          refine ct_cond rfl (fun d3 => ?_) (fun d3 => ?_)
          · apply ct_seq
            apply ct_region
            apply seq_plain; exact do_assign rfl; exact rfl
            apply seq_nil
            apply ct_ret
            refine fin_flat hc rfl rfl ⟨?_, rfl⟩
            have e := errE_same h3 d1 d2 d3
            rw [efin, seqE_at h3 hJ (by rw [e]; decide), e]; rfl
          · apply ct_skip
            apply ct_region
            apply seq_plain; exact do_move rfl; exact rfl
            apply seq_plain; exact do_succ rfl (by omega); exact rfl
            apply seq_plain; exact do_assign rfl; exact rfl
            apply seq_nil
            refine lt_sub ?_ (ih (i + 1) (by omega) (by omega) fun j hji => ?_)
            · (repeat (first | exact sub_nil | apply sub_cons rfl))
            · rcases Nat.lt_or_ge j i with h | h
              · exact hJ j h
              · have : j = i := by omega
                subst this; exact errE_ok h3 d1 d2 d3
    · simp only [decide_eq_false_iff_not, Int.ofNat_lt] at h3
      have hin : ∀ k ∈ set, 0 ≤ k ∧ k < pts.length := by
        intro k hk
        obtain ⟨j, hj, rfl⟩ := List.getElem_of_mem hk
        have := errE_known (hJ j (by omega))
        rw [nth_eq hj]; exact this
      apply ct_exit
      apply exit_eq; exact rfl
      apply ct_seq
      apply ct_seq
      apply ct_region
      apply seq_plain; exact do_load rfl (by exact ext_get_new rfl) rfl (by exact rfl); exact rfl
      apply seq_plain; exact do_move rfl; exact rfl
      apply seq_plain; exact do_move rfl; exact rfl
      apply seq_call (ht := rfl); exact refProves_c (hs.ext (ext_Ext hc)) (ht.ext (ext_Ext hc)) (hu.ext (ext_Ext hc)) hg h0 h1 hn hin; exact rfl
      apply seq_plain; exact do_unOp rfl rfl; exact rfl
      apply seq_nil
      refine ct_cond rfl (fun h4 => ?_) (fun h4 => ?_)
      · have h4 : (!proveL pts opn team set) = true := h4
        apply ct_seq
        apply ct_region
        apply seq_plain; exact do_assign rfl; exact rfl
        apply seq_nil
        apply ct_ret
        refine fin_flat hc rfl rfl ⟨?_, rfl⟩
        rw [efin, if_neg (by simp [seqE_none fun j hj => hJ j (by omega)]), h4]; rfl
      · have h4 : (!proveL pts opn team set) = false := h4
        apply ct_skip
        apply ct_seq
        apply ct_region
        apply seq_plain; exact do_assign rfl; exact rfl
        apply seq_nil
        apply ct_ret
        refine fin_flat hc rfl rfl ⟨?_, rfl⟩
        rw [efin, if_neg (by simp [seqE_none fun j hj => hJ j (by omega)]), h4]; rfl
end Go.Proofs.YtiggikjbknoohaaGreatDoor
