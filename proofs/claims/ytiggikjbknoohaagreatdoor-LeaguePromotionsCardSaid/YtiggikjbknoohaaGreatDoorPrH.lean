/- LeaguePromotions: the law's own walk. -/
import Derived.Test.YtiggikjbknoohaaGreatDoorPrG
noncomputable section
namespace Go.Proofs.YtiggikjbknoohaaGreatDoor
open Go Go.Den
set_option maxRecDepth 100000

theorem pro_len {d : List Sz} {n : Nat} (hg : GoodD d n) (i : Nat) : (proL (dl d) n i).length ≤ 72 := by
  have key : ∀ j, ((dl d)[j]?.getD []).length ≤ 24 := fun j => by
    by_cases h : j < d.length
    · rw [dl_get h]; exact (hg.row _ (List.getElem_mem h)).1
    · rw [List.getElem?_eq_none (by simpa using h)]; simp
  have k1 := key (i - 1)
  have k2 := key i
  have k3 := key (i + 1)
  unfold proL
  rw [List.length_append, List.length_append, List.length_drop, List.length_take]
  have h1 : (if 0 < i then ((dl d)[i - 1]?.getD []).drop (((dl d)[i - 1]?.getD []).length - n) else []).length ≤ 24 := by
    split
    · rw [List.length_drop]; omega
    · simp
  have h3 : (if i + 1 < (dl d).length then ((dl d)[i + 1]?.getD []).take n else []).length ≤ 24 := by
    split
    · rw [List.length_take]; omega
    · simp
  omega
set_option maxHeartbeats 8000000 in
theorem law4 {H : AHeap} {q : Option Addr} {c : Nat} {d : List Sz} {k : Int} (haw : ∀ h, Ext H h → Ret Tryz.prog 17 [] h (.bool true) h) (hd : SzW H q d) :
    CallT Tryz.prog 4 [.slice q d.length c, I k] H (fun v _ => v = .bool true) := by
  refine fn_start Tryz.func4 rfl rfl rfl fun hc => ?_
  apply ct_seq
  apply ct_region
  apply seq_plain; exact do_assign rfl; exact rfl
  apply seq_nil
  apply ct_seq
  apply ct_seq
  apply ct_region
  apply seq_call (ht := rfl); exact haw _ (ext_Ext hc); exact rfl
  apply seq_plain; exact do_unOp rfl rfl; exact rfl
  apply seq_plain; exact do_move rfl; exact rfl
  apply seq_guard (hd := rfl) (hl := rfl); exact do_move rfl; exact rfl
  apply seq_gcall (hg := rfl) (hl := rfl) (ht := rfl); exact shortDivisions_c (hd.to.ext (ext_Ext hc)); exact rfl
  apply seq_guard (hd := rfl) (hl := rfl); exact do_unOp rfl rfl; exact rfl
  apply seq_plain; exact do_pick_f rfl rfl; exact rfl
  apply seq_nil
  refine ct_cond rfl (fun h1 => ?_) (fun h1 => ?_)
  · apply ct_seq
    apply ct_region
    apply seq_call (ht := rfl); exact haw _ (ext_Ext hc); exact rfl
    apply seq_plain; exact do_assign rfl; exact rfl
    apply seq_nil
    apply ct_ret
    exact fin_flat hc rfl rfl rfl
  have hs : shortD d = true := by simpa using h1
  have h27 : d.length ≤ 27 := by
    unfold shortD at hs
    simp only [Bool.and_eq_true, decide_eq_true_eq] at hs
    exact hs.2
  clear h1
  apply ct_skip
  apply ct_seq
  apply ct_region
  apply seq_plain; exact do_move rfl; exact rfl
  apply seq_plain; exact do_move rfl; exact rfl
  refine seq_callQ rfl (promote_c (hd.ext (ext_Ext hc)) hs) rfl fun v h' hR => ?_
  rcases hR with ⟨hne, rfl, rfl⟩ | ⟨hz, n, p, cp, out, rfl, rfl, hso, hout, hE, hc3, hl3, hlow⟩
  · apply seq_plain; exact do_move rfl; exact rfl
    apply seq_plain; exact do_extract rfl rfl; exact rfl
    apply seq_plain; exact do_extract rfl rfl; exact rfl
    apply seq_plain; exact do_assign rfl; exact rfl
    apply seq_plain; exact do_assign rfl; exact rfl
    apply seq_nil
    apply ct_seq
    apply ct_region
    apply seq_plain; exact do_move rfl; exact rfl
    apply seq_call (ht := rfl); exact refCheckDivisions_c (hd.ext (ext_Ext hc)) hs; exact rfl
    apply seq_plain; exact do_assign rfl; exact rfl
    apply seq_nil
    apply ct_seq
    apply ct_seq
    apply ct_region
    apply seq_plain; exact do_move rfl; exact rfl
    apply seq_plain; exact do_binInt rfl rfl rfl trivial; exact rfl
    apply seq_nil
    by_cases hdz : divsE (dl d) = 0
    · have hmz : moveE (dl d) k ≠ 0 := by rw [proE_ok hdz] at hne; exact hne
      have hp := proE_ok (k := k) hdz
      rw [hp]
      refine ct_cond_t rfl (by simpa using hdz) ?_
      apply ct_region
      apply seq_plain; exact do_move rfl; exact rfl
      apply seq_plain; exact do_move rfl; exact rfl
      apply seq_call (ht := rfl); exact refCheckMove_c (hd.ext (ext_Ext hc)) h27; exact rfl
      apply seq_plain; exact do_assign rfl; exact rfl
      apply seq_nil
      apply ct_seq
      apply ct_seq
      apply ct_region
      apply seq_plain; exact do_move rfl; exact rfl
      apply seq_plain; exact do_binInt rfl rfl rfl trivial; exact rfl
      apply seq_nil
      refine ct_cond_t rfl (by simpa using hmz) ?_
      apply ct_seq
      apply ct_region
      apply seq_plain; exact do_move rfl; exact rfl
      apply seq_plain; exact do_lenS rfl rfl rfl; exact rfl
      apply seq_plain; exact do_binInt rfl rfl rfl trivial; exact rfl
      apply seq_plain; exact do_move rfl; exact rfl
      apply seq_guard (hd := rfl) (hl := rfl); exact do_move rfl; exact rfl
      apply seq_guard (hd := rfl) (hl := rfl); exact do_move rfl; exact rfl
      apply seq_guard (hd := rfl) (hl := rfl); exact do_binInt rfl rfl rfl trivial; exact rfl
      apply seq_plain; exact do_pick_t rfl rfl; exact rfl
      apply seq_plain; exact do_assign rfl; exact rfl
      apply seq_nil
      apply ct_ret
      exact fin_flat hc rfl rfl (by simp [packA])
    · have hp := proE_bad (k := k) hdz
      rw [hp]
      refine ct_cond_f rfl (by simpa using hdz) ?_
      apply ct_skip
      apply ct_seq
      apply ct_seq
      apply ct_region
      apply seq_plain; exact do_move rfl; exact rfl
      apply seq_plain; exact do_binInt rfl rfl rfl trivial; exact rfl
      apply seq_nil
      refine ct_cond_t rfl (by simpa using hdz) ?_
      apply ct_seq
      apply ct_region
      apply seq_plain; exact do_move rfl; exact rfl
      apply seq_plain; exact do_lenS rfl rfl rfl; exact rfl
      apply seq_plain; exact do_binInt rfl rfl rfl trivial; exact rfl
      apply seq_plain; exact do_move rfl; exact rfl
      apply seq_guard (hd := rfl) (hl := rfl); exact do_move rfl; exact rfl
      apply seq_guard (hd := rfl) (hl := rfl); exact do_move rfl; exact rfl
      apply seq_guard (hd := rfl) (hl := rfl); exact do_binInt rfl rfl rfl trivial; exact rfl
      apply seq_plain; exact do_pick_t rfl rfl; exact rfl
      apply seq_plain; exact do_assign rfl; exact rfl
      apply seq_nil
      apply ct_ret
      exact fin_flat hc rfl rfl (by simp [packA])
  · have hz2 := firstL_zero hz
    have hdz : divsE (dl d) = 0 := hz2 _ (List.mem_cons_self ..)
    have hmz : moveE (dl d) n = 0 := hz2 (moveE (dl d) n) (by simp)
    obtain ⟨n', hn', hgd⟩ := good_d hdz hmz
    obtain rfl : n = n' := by omega
    refine seqL_to sub_refl (hq_base hl3) (by simp) ?_
    have hd3 : SzW h' q d := hd.ext ((ext_Ext hc).trans hE)
    apply seq_plain; exact do_move rfl; exact rfl
    apply seq_plain; exact do_extract rfl rfl; exact rfl
    apply seq_plain; exact do_extract rfl rfl; exact rfl
    apply seq_plain; exact do_assign rfl; exact rfl
    apply seq_plain; exact do_assign rfl; exact rfl
    apply seq_nil
    apply ct_seq
    apply ct_region
    apply seq_plain; exact do_move rfl; exact rfl
    apply seq_call (ht := rfl); exact refCheckDivisions_c (hd3.ext (ext_Ext hc3)) hs; exact rfl
    rw [hdz]
    apply seq_plain; exact do_assign rfl; exact rfl
    apply seq_nil
    apply ct_seq
    apply ct_seq
    apply ct_region
    apply seq_plain; exact do_move rfl; exact rfl
    apply seq_plain; exact do_binInt rfl rfl rfl trivial; exact rfl
    apply seq_nil
    refine ct_cond_t rfl rfl ?_
    apply ct_region
    apply seq_plain; exact do_move rfl; exact rfl
    apply seq_plain; exact do_move rfl; exact rfl
    apply seq_call (ht := rfl); exact refCheckMove_c (hd3.ext (ext_Ext hc3)) h27; exact rfl
    rw [hmz]
    apply seq_plain; exact do_assign rfl; exact rfl
    apply seq_nil
    apply ct_seq
    apply ct_seq
    apply ct_region
    apply seq_plain; exact do_move rfl; exact rfl
    apply seq_plain; exact do_binInt rfl rfl rfl trivial; exact rfl
    apply seq_nil
    refine ct_cond_f rfl rfl ?_
    apply ct_skip
    apply ct_seq
    apply ct_region
    apply seq_plain; exact do_move rfl; exact rfl
    apply seq_plain; exact do_binInt rfl rfl rfl trivial; exact rfl
    apply seq_plain; exact do_move rfl; exact rfl
    apply seq_guard (hd := rfl) (hl := rfl); exact do_move rfl; exact rfl
    apply seq_guard (hd := rfl) (hl := rfl); exact do_move rfl; exact rfl
    apply seq_guard (hd := rfl) (hl := rfl); exact do_move rfl; exact rfl
    refine seq_gcallQ rfl rfl rfl (refPromote_c (hd3.ext (ext_Ext hc3)) hgd) rfl fun v h2 hR => ?_
    obtain ⟨p2, cp2, out2, rfl, hso2, hout2, hE2, hc2, hl2, hlow2⟩ := hR
    refine seqL_to sub_refl (hq_base hl2) (by simp) ?_
    have hso3 : SzAt h2 p out := (hso.ext (ext_Ext hc3)).ext hE2
    have hlo : out.length = d.length := by
      have := congrArg List.length hout
      simpa using this
    have hrl : ∀ x ∈ out, x.l.length ≤ 1000 := fun x hx => by
      have : x.l ∈ dl out := List.mem_map.2 ⟨x, hx, rfl⟩
      rw [hout] at this
      obtain ⟨i, _, e⟩ := List.mem_map.1 this
      rw [← e]
      have := pro_len hgd i
      omega
    skip
    apply seq_gcall (hg := rfl) (hl := rfl) (ht := rfl)
    exact sameDivisions_c (d := out) (e := out2) (hso3.ext (ext_Ext hc2)) (hso2.ext (ext_Ext hc2)) (by omega) hrl
    exact rfl
    rw [show decide (dl out = dl out2) = true by rw [hout, hout2]; simp]
    apply seq_plain; exact do_pick_t rfl rfl; exact rfl
    apply seq_plain; exact do_assign rfl; exact rfl
    apply seq_nil
    apply ct_ret
    exact fin_id rfl rfl
end Go.Proofs.YtiggikjbknoohaaGreatDoor
