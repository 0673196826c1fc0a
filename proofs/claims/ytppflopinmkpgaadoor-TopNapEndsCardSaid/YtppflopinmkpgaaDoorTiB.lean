/- Contracts: points that are to make a team the first one. -/
import Derived.Test.YtppflopinmkpgaaDoorTiA
import Derived.Test.YtppflopinmkpgaaDoorTiL
noncomputable section
namespace Go.Proofs.YtppflopinmkpgaaDoor
open Go Go.Den Go.Den.Title
set_option maxRecDepth 100000

def gv (n : Int) : Int × Int := (n, 2 - n)
def totL (pts : List Int) (opn gs : List (Int × Int)) : List Int := (List.range pts.length).map fun (k : Nat) => ptL pts k + asg k opn gs
theorem totL_len {pts : List Int} {opn gs : List (Int × Int)} : (totL pts opn gs).length = pts.length := by simp [totL]
theorem totL_at {pts : List Int} {opn gs : List (Int × Int)} {k : Int} (h0 : 0 ≤ k) (h : k.toNat < (totL pts opn gs).length) : (totL pts opn gs)[k.toNat] = ptL pts k + asg k opn gs := by
  simp only [totL, List.getElem_map, List.getElem_range]
  rw [Int.toNat_of_nonneg h0]
theorem totL_nil {pts : List Int} {opn : List (Int × Int)} : totL pts opn [] = pts := by
  apply List.ext_getElem
  · simp [totL]
  · intro i h1 h2
    simp only [totL, List.getElem_map, List.getElem_range]
    have : asg (i : Int) opn [] = 0 := by cases opn <;> rfl
    rw [this]
    simp [ptL, h2]
theorem totL_step {pts : List Int} {opn gs : List (Int × Int)} {g : Int × Int} (hg : GoodR pts opn) (hk : gs.length < opn.length) :
    ((totL pts opn gs).set opn[gs.length].1.toNat (ptL pts opn[gs.length].1 + asg opn[gs.length].1 opn gs + g.1)).set opn[gs.length].2.toNat (ptL pts opn[gs.length].2 + asg opn[gs.length].2 opn gs + g.2) = totL pts opn (gs ++ [g]) := by
  obtain ⟨⟨a0, a1⟩, ⟨b0, b1⟩, hne⟩ := hg.each _ (List.getElem_mem hk)
  apply List.ext_getElem
  · simp [totL]
  · intro i h1 h2
    rw [List.getElem_set, List.getElem_set]
    simp only [totL, List.getElem_map, List.getElem_range, asg_snoc hk]
    split
    · rename_i e
      have e1 : opn[gs.length].2 = (i : Int) := by omega
      have e2 : ¬ opn[gs.length].1 = (i : Int) := by omega
      rw [if_neg e2, if_pos e1, e1]; omega
    · split
      · rename_i e e'
        have e1 : opn[gs.length].1 = (i : Int) := by omega
        have e2 : ¬ opn[gs.length].2 = (i : Int) := by omega
        rw [if_pos e1, if_neg e2, e1]; omega
      · rename_i e e'
        have e1 : ¬ opn[gs.length].1 = (i : Int) := by omega
        have e2 : ¬ opn[gs.length].2 = (i : Int) := by omega
        rw [if_neg e1, if_neg e2]; omega
theorem totL_mid {pts : List Int} {opn gs : List (Int × Int)} {x : Int} (hg : GoodR pts opn) (hk : gs.length < opn.length) (h : opn[gs.length].2.toNat < ((totL pts opn gs).set opn[gs.length].1.toNat x).length) :
    ((totL pts opn gs).set opn[gs.length].1.toNat x)[opn[gs.length].2.toNat] = ptL pts opn[gs.length].2 + asg opn[gs.length].2 opn gs := by
  obtain ⟨⟨a0, a1⟩, ⟨b0, b1⟩, hne⟩ := hg.each _ (List.getElem_mem hk)
  rw [List.getElem_set, if_neg (by omega)]
  exact totL_at b0 (by rw [totL_len]; omega)

def titleF (pts : List Int) (opn : List (Int × Int)) (team : Int) (points : List Int) : Int :=
  if points.length ≠ opn.length then 2 else if (points.any fun k => outL k 0 2) = true then 3 else whenL ((totL pts opn (points.map gv)).any fun y => decide (y > ptL pts team + asg team opn (points.map gv))) 21
def titleE (pts : List Int) (opn : List (Int × Int)) (team : Int) (points : List Int) : Int := if chkR pts opn team ≠ 0 then chkR pts opn team else titleF pts opn team points

theorem gv_ok {points : List Int} (h : ∀ k ∈ points, 0 ≤ k ∧ k ≤ 2) (i : Nat) : ∀ g ∈ (points.take i).map gv, (0 ≤ g.1 ∧ g.1 ≤ 2) ∧ (0 ≤ g.2 ∧ g.2 ≤ 2) := by
  intro g hg
  obtain ⟨k, hk, rfl⟩ := List.mem_map.1 hg
  have := h k (List.mem_of_mem_take hk)
  simp only [gv]; omega
theorem gv_take {points : List Int} {i : Nat} (h : i < points.length) : (points.take (i + 1)).map gv = (points.take i).map gv ++ [gv points[i]] := by
  rw [take_snoc h, List.map_append]; rfl
theorem gv_len {points : List Int} {i : Nat} (h : i ≤ points.length) : ((points.take i).map gv).length = i := by simp; omega

set_option maxHeartbeats 4000000 in
theorem checkTitle_c {H : AHeap} {q r u : Option Addr} {c d e : Nat} {pts points : List Int} {opn : List (Int × Int)} {team : Int} (hs : SlAt H 1 i1 q pts) (ht : SlAt H 2 p2 r opn) (hu : SlAt H 1 i1 u points) (hn1 : pts.length < 1000000000000) (hn2 : opn.length < 1000000000000) (hn3 : points.length < 1000000000000) :
    Ret Tryd.prog 11 [Rv q pts.length c r opn.length d, I team, .slice u points.length e] H (I (titleE pts opn team points)) H := by
  refine fn_start Tryd.func11 rfl rfl rfl fun hc => ?_
  apply ct_seq
  apply ct_region
  apply seq_newP; exact do_box rfl rfl rfl; exact rfl
  apply seq_plain; exact do_assign rfl; exact rfl
  apply seq_nil
  apply ct_seq
  apply ct_region
  apply seq_plain; exact do_move rfl; exact rfl
  apply seq_call (ht := rfl); exact has106 (l := points) (p := fun k => outL k 0 2) (hu.ext (ext_Ext hc)) hn3 fun x hx H' h' => farT_c; exact rfl
  apply seq_plain; exact do_assign rfl; exact rfl
  apply seq_nil
  apply ct_seq
  apply ct_seq
  apply ct_draw (by assumption); decide +kernel
  apply sd_look (hfree := rfl); exact do_load rfl (by exact ext_get_new rfl) rfl (by exact rfl); exact rfl
  apply sd_plain (hfree := rfl); intro _; exact do_move rfl; exact rfl
  apply sd_call (ht := rfl); exact check_c (hs.ext (ext_Ext hc)) (ht.ext (ext_Ext hc)) hn1 hn2; exact rfl
  apply sd_plain (hfree := rfl); intro _; exact do_move rfl; exact rfl
  apply sd_look (hfree := rfl); exact do_lenS rfl rfl rfl; exact rfl
  apply sd_plain (hfree := rfl); intro _; exact do_fieldAddr rfl rfl; exact rfl
  apply sd_look (hfree := rfl); exact do_load rfl (by exact ext_get_new rfl) rfl (by exact rfl); exact rfl
  apply sd_look (hfree := rfl); exact do_lenS rfl rfl rfl; exact rfl
  apply sd_plain (hfree := rfl); intro _; exact do_binInt rfl rfl rfl trivial; exact rfl
  apply sd_call (ht := rfl); exact when85; exact rfl
  apply sd_plain (hfree := rfl); intro _; exact do_move rfl; exact rfl
  apply sd_call (ht := rfl); exact when85; exact rfl
  apply sd_newS (hfree := rfl); exact do_buildSlice rfl rfl rfl rfl rfl rfl rfl; exact rfl
  apply sd_callM (ht := rfl) (hw := rfl); decide +kernel; exact first84 (l := [_, _, _]) (slAt_map (ext_get_new rfl)) (by simp); exact rfl
  apply sd_plain (hfree := rfl); intro _; exact do_assign rfl; exact rfl
  apply sd_nil
  apply ct_seq
  apply ct_region
  apply seq_plain; exact do_move rfl; exact rfl
  apply seq_plain; exact do_binInt rfl rfl rfl trivial; exact rfl
  apply seq_nil
  refine ct_cond rfl (fun h0 => ?_) (fun h0 => ?_)
  · have h0 : firstL [chkR pts opn team, whenL (((points.length : Int)) != (opn.length : Int)) 2, whenL (points.any fun k => outL k 0 2) 3] ≠ 0 := by simpa using h0
    apply ct_seq
    apply ct_region
    apply seq_plain; exact do_move rfl; exact rfl
    apply seq_plain; exact do_assign rfl; exact rfl
    apply seq_nil
    apply ct_ret
    refine fin_flat hc rfl rfl ⟨?_, rfl⟩
    have : titleE pts opn team points = firstL [chkR pts opn team, whenL (((points.length : Int)) != (opn.length : Int)) 2, whenL (points.any fun k => outL k 0 2) 3] := by
      unfold titleE titleF
      by_cases h1 : chkR pts opn team = 0
      · rw [if_neg (by simp [h1])]
        by_cases h2 : points.length = opn.length
        · rw [if_neg (by simpa using h2)]
          cases h3 : points.any fun k => outL k 0 2
          · exfalso; apply h0; rw [h1, h3]; simp [firstL, whenL, h2]
          · rw [h1]; simp [firstL, whenL, h2]
        · rw [if_pos h2, h1]
          have : (((points.length : Int)) != (opn.length : Int)) = true := by simp; omega
          rw [this]; rfl
      · rw [if_pos h1]; simp [firstL, h1]
    rw [this]; rfl
  · have h0 : firstL [chkR pts opn team, whenL (((points.length : Int)) != (opn.length : Int)) 2, whenL (points.any fun k => outL k 0 2) 3] = 0 := by simpa using h0
    have t := firstL_zero h0
    have hk := t _ (List.mem_cons_self ..)
    have t2 := whenL_zero (t _ (List.mem_cons_of_mem _ (List.mem_cons_self ..))) (by decide)
    have t3 := whenL_zero (t _ (List.mem_cons_of_mem _ (List.mem_cons_of_mem _ (List.mem_cons_self ..)))) (by decide)
    have hlen : points.length = opn.length := by simp at t2; omega
    obtain ⟨hk1, hk2, hk3⟩ := chkR_zero hk
    have hg := race_good hk1
    have hlo := hg.lo
    have hol := hg.len
    have hpt : ∀ k ∈ points, 0 ≤ k ∧ k ≤ 2 := fun k hkm => by
      rw [List.any_eq_false] at t3
      exact outL_f (by simpa using t3 k hkm)
    have hne : pts ≠ [] := by intro e; rw [e] at hlo; simp at hlo
    have cl : ∀ L, Ret Tryd.prog 46 [.slice q pts.length c] (ext H H.fresh L) (.slice (some ⟨nb H L.length, 0, none⟩) pts.length pts.length) (ext H H.fresh (L ++ [some (.cells (pts.map I) 1 true false)])) := fun L => by
      have := clone_c (c := c) (hs.ext (ext_Ext hc (lo := H.fresh) (L := L))) hn1 hne
      rw [ext_add, ext_fresh] at this
      exact this
    apply ct_skip
    apply ct_seq
    apply ct_region
    apply seq_plain; exact do_fieldAddr rfl rfl; exact rfl
    apply seq_plain; exact do_load rfl (by exact ext_get_new rfl) rfl (by exact rfl); exact rfl
    apply seq_call (ht := rfl); exact cl _; exact rfl
    apply seq_plain; exact do_assign rfl; exact rfl
    apply seq_nil
    apply ct_seq
    apply ct_seq
    apply ct_region
    apply seq_plain; exact do_move rfl; exact rfl
    apply seq_plain; exact do_lenS rfl rfl rfl; exact rfl
    apply seq_plain; exact do_move rfl; exact rfl
    apply seq_nil
    apply ct_block
    apply ct_loop
    rw [show pts.map I = (totL pts opn ((points.take 0).map gv)).map I by rw [List.take_zero, List.map_nil, totL_nil]]
    refine lt_meas (α := Nat) (fun i => [(1, I team), (3, .pointer (some ⟨nb H 0, 0, none⟩)), (9, .slice (some ⟨nb H 2, 0, none⟩) pts.length pts.length), (34, .slice u points.length e), (35, I points.length), (36, I i)]) (fun i => ext H H.fresh [some (.cells [.slice q pts.length c, .slice r opn.length d] 0 false false), some (.cells [I (chkR pts opn team), I (whenL (((points.length : Int)) != (opn.length : Int)) 2), I (whenL (points.any fun k => outL k 0 2) 3)] 1 false false), some (.cells ((totL pts opn ((points.take i).map gv)).map I) 1 true false)])
      (fun i => i ≤ points.length) (fun i => points.length - i) (fun i hi ih => ?_) 0 (by omega) (by repeat (first | exact sub_nil | apply sub_cons rfl)) (.refl _)
    apply ct_seq
    apply ct_region
    apply seq_plain; exact do_binInt rfl rfl rfl trivial; exact rfl
    apply seq_nil
    apply ct_seq
    refine ct_cond rfl (fun h1 => ?_) (fun h1 => ?_)
    · simp only [decide_eq_true_eq, Int.ofNat_lt] at h1
      obtain ⟨b, o, cs, z, s, ro, rfl, hg1, hw⟩ := hu.out (by intro e; rw [e] at h1; simp at h1)
      have h1o : i < opn.length := by omega
      obtain ⟨b', o', cs', z', s', ro', rfl, hg1', hw'⟩ := ht.out (by intro e; rw [e] at h1o; simp at h1o)
      have gl := gv_len (points := points) (i := i) hi
      have hgs : ((points.take i).map gv).length < opn.length := by omega
      have hgi : opn[((points.take i).map gv).length] = opn[i] := by simp only [gl]
      have st := totL_step (g := gv points[i]) hg hgs
      rw [← gv_take h1] at st
      have mid := fun x h => totL_mid (x := x) hg hgs h
      rw [hgi] at st mid
      obtain ⟨⟨a0, a1⟩, ⟨b0, b1⟩, hnee⟩ := hg.each _ (List.getElem_mem h1o)
      have hpi := hpt _ (List.getElem_mem h1)
      have tl : (totL pts opn ((points.take i).map gv)).length = pts.length := totL_len
      have e1 := totL_at (pts := pts) (opn := opn) (gs := (points.take i).map gv) a0 (by rw [tl]; omega)
      have bd1 := asg_bound (i := opn[i].1) (ps := opn) (gv_ok hpt i)
      have bd2 := asg_bound (i := opn[i].2) (ps := opn) (gv_ok hpt i)
      rw [gl] at bd1 bd2
      have pb1 := ptL_bound hg opn[i].1
      have pb2 := ptL_bound hg opn[i].2
      have em := mid (ptL pts opn[i].1 + asg opn[i].1 opn ((points.take i).map gv) + points[i]) (by rw [List.length_set, tl]; omega)
      have hl2 : ((totL pts opn ((points.take i).map gv)).set opn[i].1.toNat (ptL pts opn[i].1 + asg opn[i].1 opn ((points.take i).map gv) + points[i])).length = pts.length := by rw [List.length_set]; exact tl
      apply ct_skip
      apply ct_seq
      apply ct_block
      apply ct_seq
      apply ct_region
      apply seq_plain; exact do_move rfl; exact rfl
      apply seq_plain; exact do_indexAddrS rfl rfl rfl (by exact idx_nat (by omega)); exact rfl
      apply seq_plain; exact do_load rfl (by exact ext_get_old (by assumption) (by assumption)) rfl (by exact pt_sl0 (by assumption) (by omega)); exact rfl
      apply seq_plain; exact do_assign rfl; exact rfl
      apply seq_plain; exact do_assign rfl; exact rfl
      apply seq_nil
      apply ct_seq
      apply ct_region
      apply seq_plain; exact do_move rfl; exact rfl
      apply seq_plain; exact do_fieldAddr rfl rfl; exact rfl
      apply seq_plain; exact do_load rfl (by exact ext_get_new rfl) rfl (by exact rfl); exact rfl
      apply seq_plain; exact do_move rfl; exact rfl
      apply seq_plain; exact do_indexAddrS rfl rfl rfl (by exact idx_nat (by omega)); exact rfl
      apply seq_plain; exact do_indexAddrA rfl rfl rfl (by exact rfl); exact rfl
      apply seq_plain; exact do_load rfl (by exact ext_get_old (by assumption) (by assumption)) rfl (by exact pt_sl1 (by assumption) (by omega) (Nat.le_of_ble_eq_true rfl) rfl); exact rfl
      apply seq_plain; exact do_indexAddrS rfl rfl rfl (by exact idx_int (by omega)); exact rfl
      apply seq_plain; exact do_load rfl (by exact ext_get_new rfl) rfl (by exact pt_map (by omega)); exact rfl
      apply seq_plain; exact do_move rfl; exact rfl
      apply seq_plain; exact do_add rfl rfl (by omega); exact rfl
      apply seq_plain; exact do_indexAddrS rfl rfl rfl (by exact idx_int (by omega)); exact rfl
      rw [e1]
      apply seq_putC (hc := by assumption); rotate_left; exact do_store rfl rfl (by exact ext_get_new rfl) rfl (stl_map (by omega) rfl rfl) (nb_own _); rotate_left; exact Nat.le_of_ble_eq_true rfl
      apply ct_region
      apply seq_plain; exact do_move rfl; exact rfl
      apply seq_plain; exact do_fieldAddr rfl rfl; exact rfl
      apply seq_plain; exact do_load rfl (by exact ext_get_new rfl) rfl (by exact rfl); exact rfl
      apply seq_plain; exact do_move rfl; exact rfl
      apply seq_plain; exact do_indexAddrS rfl rfl rfl (by exact idx_nat (by omega)); exact rfl
      apply seq_plain; exact do_indexAddrA rfl rfl rfl (by exact rfl); exact rfl
      apply seq_plain; exact do_load rfl (by exact ext_get_old (by assumption) (by assumption)) rfl (by exact pt_sl1 (by assumption) (by omega) (Nat.le_of_ble_eq_true rfl) rfl); exact rfl
      apply seq_plain; exact do_indexAddrS rfl rfl rfl (by exact idx_int (by omega)); exact rfl
      apply seq_plain; exact do_load rfl (by exact ext_get_new rfl) rfl (by exact pt_map (by omega)); exact rfl
      apply seq_plain; exact do_move rfl; exact rfl
      apply seq_plain; exact do_sub rfl rfl (by omega); exact rfl
      apply seq_plain; exact do_add rfl rfl (by omega); exact rfl
      apply seq_plain; exact do_indexAddrS rfl rfl rfl (by exact idx_int (by omega)); exact rfl
      rw [em]
      apply seq_putC (hc := by assumption); rotate_left; exact do_store rfl rfl (by exact ext_get_new rfl) rfl (stl_map (by rw [List.length_set]; omega) rfl rfl) (nb_own _); rotate_left; exact Nat.le_of_ble_eq_true rfl
      apply ct_region
      apply seq_plain; exact do_succ rfl (by omega); exact rfl
      apply seq_plain; exact do_move rfl; exact rfl
      apply seq_nil
      have ih := ih (i + 1) (by omega) (by omega)
      rw [← st] at ih
      exact lt_to (by repeat (first | exact sub_nil | apply sub_cons rfl)) (.refl _) ih
    · simp only [decide_eq_false_iff_not, Int.ofNat_lt] at h1
      rw [take_all (l := points) (by omega)]
      have tl : (totL pts opn (points.map gv)).length = pts.length := totL_len
      have hneT : totL pts opn (points.map gv) ≠ [] := fun e => by rw [e] at tl; simp at tl; omega
      have mc : ∀ {h : AHeap} {b z : Nat} {s ro : Bool}, h.get b = some (.cells ((totL pts opn (points.map gv)).map I) z s ro) → Ret Tryd.prog 47 [.slice (some ⟨b, 0, none⟩) pts.length pts.length] h (I (maxL (totL pts opn (points.map gv)))) h := fun hh => by
        have := max_c (c := pts.length) (slAt_map hh) (by omega) hneT
        rwa [tl] at this
      have eT := totL_at (pts := pts) (opn := opn) (gs := points.map gv) hk2 (by rw [tl]; omega)
      apply ct_exit
      apply exit_eq; exact rfl
      apply ct_seq
      apply ct_draw (by assumption); decide +kernel
      apply sd_plain (hfree := rfl); intro _; exact do_move rfl; exact rfl
      apply sd_call (ht := rfl); exact mc (by exact ext_get_new rfl); exact rfl
      apply sd_plain (hfree := rfl); intro _; exact do_move rfl; exact rfl
      apply sd_plain (hfree := rfl); intro _; exact do_move rfl; exact rfl
      apply sd_plain (hfree := rfl); intro _; exact do_indexAddrS rfl rfl rfl (idx_int ⟨hk2, hk3⟩); exact rfl
      apply sd_look (hfree := rfl); exact do_load rfl (by exact ext_get_new rfl) rfl (by exact pt_map (by omega)); exact rfl
      apply sd_plain (hfree := rfl); intro _; exact do_binInt rfl rfl rfl trivial; exact rfl
      apply sd_call (ht := rfl); exact when85; exact rfl
      apply sd_plain (hfree := rfl); intro _; exact do_assign rfl; exact rfl
      apply sd_nil
      apply ct_ret
      refine fin_flat hc rfl rfl ⟨?_, rfl⟩
      have e : titleE pts opn team points = whenL (decide (maxL (totL pts opn (points.map gv)) > (totL pts opn (points.map gv))[team.toNat])) 21 := by
        unfold titleE titleF
        rw [if_neg (by simp [hk]), if_neg (by simpa using hlen), if_neg (by rw [t3]; simp), maxL_gt hneT, eT]
      rw [e]; rfl

end Go.Proofs.YtppflopinmkpgaaDoor
