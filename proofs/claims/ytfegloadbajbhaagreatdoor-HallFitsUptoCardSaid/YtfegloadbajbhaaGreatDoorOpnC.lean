/- Contracts: whether a booking fits; lists with a further booking; spans compared. -/
import Derived.Test.YtfegloadbajbhaaGreatDoorOpnB
import Derived.Test.YtfegloadbajbhaaGreatDoorSvL
import Derived.Test.YtfegloadbajbhaaGreatDoorFnL
noncomputable section
namespace Go.Proofs.YtfegloadbajbhaaGreatDoor
open Go Go.Den
set_option maxRecDepth 100000

def truthB (h : Bool) (e bad : Int) (want : Bool) : Bool := if bad ≠ 0 then (!h) && (e == bad) else (e == 0) && (h == want)
theorem truth_c {H : AHeap} {h want : Bool} {e bad : Int} : Ret Tryz.prog 42 [.bool h, I e, I bad, .bool want] H (.bool (truthB h e bad want)) H := by
  refine fn_start Tryz.func42 rfl rfl rfl fun hc => ?_
  unfold truthB
  apply ct_seq
  apply ct_region
  apply seq_plain; exact do_assign rfl; exact rfl
  apply seq_nil
  apply ct_seq
  apply ct_seq
  apply ct_region
  apply seq_plain; exact do_move rfl; exact rfl
  apply seq_plain; exact do_binInt rfl rfl rfl trivial; exact rfl
  apply seq_nil
  refine ct_cond rfl (fun h1 => ?_) (fun h1 => ?_)
  · have h1 : bad ≠ 0 := by simpa using h1
    rw [if_pos h1]
    apply ct_seq
    apply ct_region
    apply seq_plain; exact do_move rfl; exact rfl
    apply seq_plain; exact do_unOp rfl rfl; exact rfl
    apply seq_plain; exact do_move rfl; exact rfl
    refine seq_gsplit rfl rfl (fun u => ?_) (fun u => ?_)
    · have u : (!h) = true := u
      apply seq_guard (hd := rfl) (hl := rfl); exact do_move rfl; exact rfl
      apply seq_guard (hd := rfl) (hl := rfl); exact do_move rfl; exact rfl
      apply seq_guard (hd := rfl) (hl := rfl); exact do_binInt rfl rfl rfl trivial; exact rfl
      apply seq_plain; exact do_pick_t rfl rfl; exact rfl
      apply seq_plain; exact do_assign rfl; exact rfl
      apply seq_nil
      apply ct_ret
      refine fin_flat hc rfl rfl ⟨?_, rfl⟩
      rw [u]; rfl
    · have u : (!h) = false := u
      apply seq_passed (hd := rfl) (hl := rfl) (hb := rfl); exact rfl
      apply seq_passed (hd := rfl) (hl := rfl) (hb := rfl); exact rfl
      apply seq_passed (hd := rfl) (hl := rfl) (hb := rfl); exact rfl
      apply seq_plain; exact do_pick_f rfl rfl; exact rfl
      apply seq_plain; exact do_assign rfl; exact rfl
      apply seq_nil
      apply ct_ret
      refine fin_flat hc rfl rfl ⟨?_, rfl⟩
      rw [u]; rfl
  · have h1 : ¬ bad ≠ 0 := by simpa using h1
    rw [if_neg h1]
    apply ct_skip
    apply ct_seq
    apply ct_region
    apply seq_plain; exact do_move rfl; exact rfl
    apply seq_plain; exact do_binInt rfl rfl rfl trivial; exact rfl
    apply seq_plain; exact do_move rfl; exact rfl
    refine seq_gsplit rfl rfl (fun u => ?_) (fun u => ?_)
    · have u : (e == 0) = true := u
      apply seq_guard (hd := rfl) (hl := rfl); exact do_move rfl; exact rfl
      apply seq_guard (hd := rfl) (hl := rfl); exact do_move rfl; exact rfl
      apply seq_guard (hd := rfl) (hl := rfl); exact do_eql rfl rfl trivial rfl; exact rfl
      apply seq_plain; exact do_pick_t rfl rfl; exact rfl
      apply seq_plain; exact do_assign rfl; exact rfl
      apply seq_nil
      apply ct_ret
      refine fin_flat hc rfl rfl ⟨?_, rfl⟩
      rw [u]; rfl
    · have u : (e == 0) = false := u
      apply seq_passed (hd := rfl) (hl := rfl) (hb := rfl); exact rfl
      apply seq_passed (hd := rfl) (hl := rfl) (hb := rfl); exact rfl
      apply seq_passed (hd := rfl) (hl := rfl) (hb := rfl); exact rfl
      apply seq_plain; exact do_pick_f rfl rfl; exact rfl
      apply seq_plain; exact do_assign rfl; exact rfl
      apply seq_nil
      apply ct_ret
      refine fin_flat hc rfl rfl ⟨?_, rfl⟩
      rw [u]; rfl
theorem refFits_c {H : AHeap} {q r : Option Addr} {c d : Nat} {t : List Tb} {l : List Bk} (hs : SlAt H 2 tb q t) (hn : t.length < 1000000) (hr : SlAt H 4 bk r l) (hm : l.length < 1000000) :
    Ret Tryz.prog 40 [.slice q t.length c, .slice r l.length d] H (.bool (!(roA t l l.length).2.2)) H := by
  refine fn_start Tryz.func40 rfl rfl rfl fun hc => ?_
  apply ct_seq
  apply ct_region
  apply seq_plain; exact do_assign rfl; exact rfl
  apply seq_nil
  apply ct_seq
  apply ct_region
  apply seq_plain; exact do_move rfl; exact rfl
  apply seq_plain; exact do_move rfl; exact rfl
  apply seq_call (ht := rfl); exact refOverbooked_c (hs.ext (ext_Ext hc)) (by omega) (hr.ext (ext_Ext hc)) (by omega); exact rfl
  apply seq_plain; exact do_move rfl; exact rfl
  apply seq_plain; exact do_extract rfl rfl; exact rfl
  apply seq_plain; exact do_extract rfl rfl; exact rfl
  apply seq_plain; exact do_extract rfl rfl; exact rfl
  apply seq_plain; exact do_assign rfl; exact rfl
  apply seq_plain; exact do_assign rfl; exact rfl
  apply seq_plain; exact do_assign rfl; exact rfl
  apply seq_nil
  apply ct_seq
  apply ct_region
  apply seq_plain; exact do_move rfl; exact rfl
  apply seq_plain; exact do_unOp rfl rfl; exact rfl
  apply seq_plain; exact do_assign rfl; exact rfl
  apply seq_nil
  apply ct_ret
  exact fin_flat hc rfl rfl ⟨rfl, rfl⟩
/-! ### spans compared -/
theorem tySp : ∃ ti e ei, (ctxOf Tryz.prog).ty.get 81 = some ti ∧ ti.und = .array 2 e ∧ (ctxOf Tryz.prog).ty.get e = some ei ∧ ei.size = 1 ∧ isAggD ei.und = false ∧ ei.und = .int .i64 ∧ e = 3 := ⟨_, _, _, ctx_ty rfl, rfl, ctx_ty rfl, rfl, rfl, rfl, rfl⟩
theorem guardSp : Tryz.prog.eqGuardType Tryz.prog.depth 81 = false := by decide +kernel
theorem eqVSp (x y : Spn) : eqV Tryz.prog (ctxOf Tryz.prog) 20 81 (.agg ⟨p2 x⟩) (.agg ⟨p2 y⟩) = some ((x.1 == y.1) && (x.2 == y.2)) := by
  obtain ⟨ti, e, ei, h1, h2, h3, h4, h5, h6, h7⟩ := tySp
  subst h7
  have one : ∀ a b : Int, eqV Tryz.prog (ctxOf Tryz.prog) 19 3 (I a) (I b) = some (a == b) := by
    intro a b
    simp only [eqV, h3, h6]; simp
  have p0 : ∀ x y : Int, partA ei [I x, I y] (0 * 1) = some (I x) := by intro x y; simp [partA, h5]
  have p1 : ∀ x y : Int, partA ei [I x, I y] (1 * 1) = some (I y) := by intro x y; simp [partA, h5]
  rw [eqV]
  simp only [h1, h2, h3]
  simp only [show List.range 2 = [0, 1] from rfl, eqIs, h4, p2, p0, p1, one]
  cases (x.1 == y.1) <;> cases (x.2 == y.2) <;> rfl
theorem eqASp (x y : Spn) : eqA Tryz.prog (ctxOf Tryz.prog) 81 (.agg ⟨p2 x⟩) (.agg ⟨p2 y⟩) = some ((x.1 == y.1) && (x.2 == y.2)) := by
  obtain ⟨ti, e, ei, h1, h2, _⟩ := tySp
  unfold eqA
  simp only [h1, h2, guardSp, eqVSp]
  simp [p2, flatC]
theorem sp_eq {x y : Spn} : ((x.1 == y.1) && (x.2 == y.2)) = true ↔ x = y := by
  rw [Bool.and_eq_true, beq_iff_eq, beq_iff_eq]
  exact ⟨fun h => Prod.ext h.1 h.2, fun h => by rw [h]; exact ⟨rfl, rfl⟩⟩
theorem sameSpans_c {H : AHeap} {p q : Option Addr} {c c' : Nat} {l m : List Spn} (hs : SlAt H 2 p2 p l) (ht : SlAt H 2 p2 q m) (hn : l.length < 1000000000) :
    Ret Tryz.prog 43 [.slice p l.length c, .slice q m.length c'] H (.bool (decide (l = m))) H := by
  refine fn_start Tryz.func43 rfl rfl rfl fun hc => ?_
  apply ct_seq
  apply ct_region
  apply seq_plain; exact do_assign rfl; exact rfl
  apply seq_nil
  apply ct_seq
  apply ct_seq
  apply ct_region
  apply seq_plain; exact do_move rfl; exact rfl
  apply seq_plain; exact do_lenS rfl rfl rfl; exact rfl
  apply seq_plain; exact do_move rfl; exact rfl
  apply seq_plain; exact do_lenS rfl rfl rfl; exact rfl
  apply seq_plain; exact do_binInt rfl rfl rfl trivial; exact rfl
  apply seq_nil
  refine ct_cond rfl (fun h0 => ?_) (fun h0 => ?_)
  · have h0 : l.length ≠ m.length := by
      have h0 : ((l.length : Int) != (m.length : Int)) = true := h0
      have h0 : (l.length : Int) ≠ (m.length : Int) := by simpa using h0
      omega
    apply ct_seq
    apply ct_region
    apply seq_plain; exact do_assign rfl; exact rfl
    apply seq_nil
    apply ct_ret
    refine fin_flat hc rfl rfl ⟨?_, rfl⟩
    rw [decide_eq_false (fun e => h0 (by rw [e]))]; rfl
  have h0 : l.length = m.length := by
    have h0 : ((l.length : Int) != (m.length : Int)) = false := h0
    have h0 : (l.length : Int) = (m.length : Int) := by simpa using h0
    omega
  apply ct_skip
  apply ct_seq
  apply ct_seq
  apply ct_region
  apply seq_plain; exact do_assign rfl; exact rfl
  apply seq_nil
  apply ct_block
  apply ct_loop
  refine lt_up (fun i => [(0, .slice p l.length c), (1, .slice q m.length c'), (5, I i)]) (fun i => ∀ j (h : j < l.length) (h' : j < m.length), j < i → l[j] = m[j]) l.length (fun i hi hJ ih => ?_) 0 (by omega) (by intros; omega) (by repeat (first | exact sub_nil | apply sub_cons rfl))
  apply ct_seq
  apply ct_seq
  apply ct_region
  apply seq_plain; exact do_move rfl; exact rfl
  apply seq_plain; exact do_move rfl; exact rfl
  apply seq_plain; exact do_lenS rfl rfl rfl; exact rfl
  apply seq_plain; exact do_binInt rfl rfl rfl trivial; exact rfl
  apply seq_nil
  refine ct_cond rfl (fun h1 => ?_) (fun h1 => ?_)
  · simp only [decide_eq_true_eq, Int.ofNat_lt] at h1
    obtain ⟨b, o, cs, z, s, ro, rfl, hg, hw⟩ := hs.out (by intro e; rw [e] at h1; simp at h1)
    obtain ⟨b2, o2, cs2, z2, s2, ro2, rfl, hg2, hw2⟩ := ht.out (by intro e; rw [e] at h0; simp at h0; rw [h0] at h1; simp at h1)
    have h1' : i < m.length := by omega
    apply ct_skip
    apply ct_seq
    apply ct_block
    apply ct_seq
    apply ct_draw (by assumption); decide +kernel
    apply sd_plain (hfree := rfl); intro _; exact do_move rfl; exact rfl
    apply sd_plain (hfree := rfl); intro _; exact do_move rfl; exact rfl
    apply sd_plain (hfree := rfl); intro _; exact do_indexAddrS rfl rfl rfl (by exact idx_nat (by omega)); exact rfl
    apply sd_look (hfree := rfl); exact do_load rfl (by exact ext_get_old (by assumption) (by assumption)) rfl (by exact pt_sl (by assumption) (by omega)); exact rfl
    apply sd_plain (hfree := rfl); intro _; exact do_move rfl; exact rfl
    apply sd_plain (hfree := rfl); intro _; exact do_move rfl; exact rfl
    apply sd_plain (hfree := rfl); intro _; exact do_indexAddrS rfl rfl rfl (by exact idx_nat (by omega)); exact rfl
    apply sd_look (hfree := rfl); exact do_load rfl (by exact ext_get_old (by assumption) (by assumption)) rfl (by exact pt_sl (by assumption) (by omega)); exact rfl
    apply sd_plain (hfree := rfl); intro _; exact do_neq rfl rfl trivial (eqASp _ _); exact rfl
    apply sd_nil
    refine ct_cond rfl (fun h2 => ?_) (fun h2 => ?_)
    · have h2 : (!((l[i].1 == m[i].1) && (l[i].2 == m[i].2))) = true := h2
      have h2 : l[i] ≠ m[i] := fun e => by rw [sp_eq.2 e] at h2; cases h2
      apply ct_seq
      apply ct_region
      apply seq_plain; exact do_assign rfl; exact rfl
      apply seq_nil
      apply ct_ret
      refine fin_flat hc rfl rfl ⟨?_, rfl⟩
      rw [decide_eq_false (fun e => h2 (by simp only [e]))]; rfl
    · have h2 : (!((l[i].1 == m[i].1) && (l[i].2 == m[i].2))) = false := h2
      have h2 : l[i] = m[i] := sp_eq.1 (by simpa using h2)
      apply ct_skip
      apply ct_region
      apply seq_plain; exact do_move rfl; exact rfl
      apply seq_plain; exact do_succ rfl (by omega); exact rfl
      apply seq_plain; exact do_assign rfl; exact rfl
      apply seq_nil
      refine lt_to (by repeat (first | exact sub_nil | apply sub_cons rfl)) (by simp only [List.map_nil, List.append_nil]; exact .refl _) (ih (i + 1) (by omega) (by omega) fun j hj hj' hji => ?_)
      by_cases e : j = i
      · subst e; exact h2
      · exact hJ j hj hj' (by omega)
  · have h1 : i = l.length := by simp at h1; omega
    subst h1
    apply ct_exit
    apply exit_eq; exact rfl
    apply ct_seq
    apply ct_region
    apply seq_plain; exact do_assign rfl; exact rfl
    apply seq_nil
    apply ct_ret
    refine fin_flat hc rfl rfl ⟨?_, rfl⟩
    rw [decide_eq_true (List.ext_getElem h0 fun j hj hj' => hJ j hj hj' hj)]; rfl
end Go.Proofs.YtfegloadbajbhaaGreatDoor
