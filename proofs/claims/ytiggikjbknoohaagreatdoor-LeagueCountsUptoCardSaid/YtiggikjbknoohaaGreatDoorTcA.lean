/- Contracts: matches copied, short ones, rules. -/
import Derived.Test.YtiggikjbknoohaaGreatDoorTbM
import Derived.Test.YtiggikjbknoohaaGreatDoorStB
import Derived.Test.YtiggikjbknoohaaGreatDoorStA
noncomputable section
namespace Go.Proofs.YtiggikjbknoohaaGreatDoor
open Go Go.Den
set_option maxRecDepth 100000

def mt (m : Ma) : List Value := [I m.home, I m.away, I m.fr, I m.ag, .string m.kind]
def rw9 (x : Rw) : List Value := [I x.team, I x.played, I x.won, I x.drawn, I x.lost, I x.fr, I x.ag, I x.pts, I x.rank]
def ruL (r : Ru) : List Value := [I r.win, I r.draw, I r.loss, I r.frames]
abbrev ruV (r : Ru) : Value := .agg ⟨ruL r⟩
theorem mt_len (m : Ma) : (mt m).length = 5 := rfl
theorem rw9_len (m : Rw) : (rw9 m).length = 9 := rfl

theorem ownMatches_c {H : AHeap} {q : Option Addr} {c : Nat} {l : List Ma} (hs : SlAt H 5 mt q l) (hn : l.length < 1000000000) :
    Ret Tryz.prog 16 [.slice q l.length c] H (lstV H.fresh l) (lstH H 5 mt l) := by
  refine fn_start Tryz.func16 rfl rfl rfl fun hc => ?_
  apply ct_seq
  apply ct_region
  apply seq_plain; exact do_assign rfl; exact rfl
  apply seq_nil
  apply ct_seq
  apply ct_region
  apply seq_plain; exact do_assign rfl; exact rfl
  apply seq_nil
  apply ct_seq
  apply ct_seq
  apply ct_region
  apply seq_plain; exact do_assign rfl; exact rfl
  apply seq_nil
  apply ct_block
  apply ct_loop
  refine lt_meas (α := Nat × Value × List (Option ABlk)) (fun a => [(0, .slice q l.length c), (3, a.2.1), (4, I a.1)]) (fun a => ext H H.fresh a.2.2) (fun a => a.1 ≤ l.length ∧ Lst H a.2.2 5 mt 0 a.2.1 (l.take a.1)) (fun a => l.length - a.1) (fun a ha ih => ?_) (0, .slice none 0 0, []) ⟨by omega, .nil⟩ (by repeat (first | exact sub_nil | apply sub_cons rfl)) (.refl _)
  obtain ⟨i, v, L⟩ := a
  obtain ⟨hi, hv⟩ := ha
  simp only at hi hv ih ⊢
  have ih' := fun i' v' L' a1 a2 a3 => ih (i', v', L') a1 ⟨a2, a3⟩
  simp only at ih'
  clear ih
  apply ct_seq
  apply ct_seq
  apply ct_region
  apply seq_plain; exact do_move rfl; exact rfl
  apply seq_plain; exact do_move rfl; exact rfl
  apply seq_plain; exact do_lenS rfl rfl rfl; exact rfl
  apply seq_plain; exact do_binInt rfl rfl rfl trivial; exact rfl
  apply seq_nil
  refine ct_cond rfl (fun h1 => ?_) (fun h1 => ?_)
  · simp only [decide_eq_true_eq, Int.ofNat_lt] at h1
    obtain ⟨b, o, cs, z, s, ro, rfl, hg, hw⟩ := hs.out (by intro e; rw [e] at h1; simp at h1)
    apply ct_skip
    apply ct_seq
    apply ct_block
    apply ct_region
    apply seq_plain; exact do_move rfl; exact rfl
    apply seq_plain; exact do_move rfl; exact rfl
    apply seq_plain; exact do_move rfl; exact rfl
    apply seq_plain; exact do_indexAddrS rfl rfl rfl (by exact idx_nat (by omega)); exact rfl
    apply seq_plain; exact do_load rfl (by exact ext_get_old (by assumption) (by assumption)) rfl (by exact pt_sl (by assumption) (by omega)); exact rfl
    apply seq_newS; exact do_buildSlice rfl rfl rfl rfl rfl rfl rfl; exact rfl
    refine seq_grow (xs := [l[i]]) hc (hv.app _) (by omega) (fun _ => rfl) (fun _ => rfl) rfl rfl rfl rfl rfl rfl (ext_get_new List.getElem?_concat_length) rfl (by simp) ?_ (Nat.ne_of_beq_eq_false rfl) (Nat.ne_of_beq_eq_false rfl) rfl (fun v' L3 hv' hst3 hlen3 => ?_)
    · exact Nat.le_trans (Nat.mul_le_mul_right _ (by simp only [List.length_cons, List.length_nil, List.length_take]; omega : _ ≤ 3000000000)) (Nat.le_of_ble_eq_true rfl)
    apply seq_plain; exact do_assign rfl; exact rfl
    apply seq_nil
    apply ct_region
    apply seq_plain; exact do_move rfl; exact rfl
    apply seq_plain; exact do_succ rfl (by omega); exact rfl
    apply seq_plain; exact do_assign rfl; exact rfl
    apply seq_nil
    refine lt_sub (by repeat (first | exact sub_nil | apply sub_cons rfl)) (ih' (i + 1) v' L3 (by omega) (by omega) ?_)
    rw [take_snoc h1]; exact hv'
  · have h1 : i = l.length := by simp at h1; omega
    subst h1
    rw [List.take_length] at hv
    apply ct_exit
    apply exit_eq; exact rfl
    apply ct_seq
    apply ct_region
    apply seq_plain; exact do_move rfl; exact rfl
    apply seq_plain; exact do_assign rfl; exact rfl
    apply seq_nil
    apply ct_ret
    exact fin_lst hc hv rfl (fun _ => rfl) ⟨rfl, rfl⟩
/-- short texts, not too many -/
def shortB (l : List Ma) : Bool := (l.take 601).all (fun m => decide (m.kind.size ≤ 40)) && decide (l.length ≤ 603)
theorem shortM_c {H : AHeap} {q : Option Addr} {c : Nat} {l : List Ma} (hs : SlAt H 5 mt q l) (hn : l.length < 1000000000) :
    Ret Tryz.prog 18 [.slice q l.length c] H (.bool (shortB l)) H := by
  refine fn_start Tryz.func18 rfl rfl rfl fun hc => ?_
  apply ct_seq
  apply ct_region
  apply seq_plain; exact do_assign rfl; exact rfl
  apply seq_nil
  apply ct_seq
  apply ct_seq
  apply ct_region
  apply seq_plain; exact do_assign rfl; exact rfl
  apply seq_nil
  apply ct_block
  apply ct_loop
  refine lt_up (fun i => [(0, .slice q l.length c), (3, I i)]) (fun i => i ≤ 601 ∧ ∀ j (h : j < l.length), j < i → l[j].kind.size ≤ 40) l.length (fun i hi hJ ih => ?_) 0 (by omega) ⟨by omega, by intros; omega⟩ (by repeat (first | exact sub_nil | apply sub_cons rfl))
  obtain ⟨hi6, hJ⟩ := hJ
  have hend : ¬ (i < l.length ∧ i ≤ 600) → shortB l = decide (l.length ≤ 603) := fun hh => by
    have : (l.take 601).all (fun m => decide (m.kind.size ≤ 40)) = true := by
      rw [List.all_eq_true]
      intro x hx
      obtain ⟨j, hj, rfl⟩ := List.getElem_of_mem hx
      rw [List.length_take] at hj
      rw [List.getElem_take, decide_eq_true_iff]
      exact hJ j (by omega) (by omega)
    simp [shortB, this]
  apply ct_seq
  apply ct_seq
  apply ct_region
  apply seq_plain; exact do_move rfl; exact rfl
  apply seq_plain; exact do_move rfl; exact rfl
  apply seq_plain; exact do_lenS rfl rfl rfl; exact rfl
  apply seq_plain; exact do_binInt rfl rfl rfl trivial; exact rfl
  apply seq_plain; exact do_move rfl; exact rfl
  refine seq_J [(0, .slice q l.length c), (3, I i), (11, .bool (decide (i < l.length ∧ i ≤ 600)))] (ds := []) (h := ext H H.fresh []) ?_ ?_
  · refine seq_gsplit rfl rfl (fun u => ?_) (fun u => ?_)
    · have u : i < l.length := by
        have u : decide ((i : Int) < (l.length : Int)) = true := u
        simp at u; omega
      have e : decide (i < l.length ∧ i ≤ 600) = decide ((i : Int) ≤ 600) := by
        rw [decide_eq_decide]; omega
      rw [e]
      apply seq_guard (hd := rfl) (hl := rfl); exact do_move rfl; exact rfl
      apply seq_guard (hd := rfl) (hl := rfl); exact do_binInt rfl rfl rfl trivial; exact rfl
      apply seq_plain; exact do_pick_t rfl rfl; exact rfl
      apply seq_nil
      exact jp_of (by repeat (first | exact sub_nil | apply sub_cons rfl))
    · have u : ¬ i < l.length := by
        have u : decide ((i : Int) < (l.length : Int)) = false := u
        simp at u; omega
      have e : decide (i < l.length ∧ i ≤ 600) = false := by simp [u]
      rw [e]
      apply seq_passed (hd := rfl) (hl := rfl) (hb := rfl); exact rfl
      apply seq_passed (hd := rfl) (hl := rfl) (hb := rfl); exact rfl
      apply seq_plain; exact do_pick_f rfl rfl; exact rfl
      apply seq_nil
      exact jp_of (by repeat (first | exact sub_nil | apply sub_cons rfl))
  refine ct_cond rfl (fun h1 => ?_) (fun h1 => ?_)
  · have h1 : i < l.length ∧ i ≤ 600 := by simpa using h1
    obtain ⟨h1, h2⟩ := h1
    obtain ⟨b, o, cs, z, s, ro, rfl, hg, hw⟩ := hs.out (by intro e; rw [e] at h1; simp at h1)
    apply ct_skip
    apply ct_seq
    apply ct_block
    apply ct_seq
    apply ct_region
    apply seq_plain; exact do_move rfl; exact rfl
    apply seq_plain; exact do_move rfl; exact rfl
    apply seq_plain; exact do_indexAddrS rfl rfl rfl (by exact idx_nat (by omega)); exact rfl
    apply seq_plain; exact do_fieldAddr rfl rfl; exact rfl
    apply seq_plain; exact do_load rfl (by exact ext_get_old (by assumption) (by assumption)) rfl (by exact pt_sl1 (by assumption) (by omega) (Nat.le_of_ble_eq_true rfl) rfl); exact rfl
    apply seq_plain; exact do_lenStr rfl rfl rfl; exact rfl
    apply seq_plain; exact do_binInt rfl rfl rfl trivial; exact rfl
    apply seq_nil
    refine ct_cond rfl (fun h3 => ?_) (fun h3 => ?_)
    · have h3 : ¬ l[i].kind.size ≤ 40 := by
        have h3 : decide ((l[i].kind.size : Int) > 40) = true := h3
        simp at h3; omega
      apply ct_seq
      apply ct_region
      apply seq_plain; exact do_assign rfl; exact rfl
      apply seq_nil
      apply ct_ret
      refine fin_flat hc rfl rfl ⟨?_, rfl⟩
      have : (l.take 601).all (fun m => decide (m.kind.size ≤ 40)) = false := by
        rw [List.all_eq_false]
        refine ⟨l[i], ?_, by simpa using h3⟩
        have hlt : i < (l.take 601).length := by rw [List.length_take]; omega
        have := List.getElem_mem hlt
        rwa [List.getElem_take] at this
      simp [packA, shortB, this]
    · have h3 : l[i].kind.size ≤ 40 := by
        have h3 : decide ((l[i].kind.size : Int) > 40) = false := h3
        simp at h3; omega
      apply ct_skip
      apply ct_region
      apply seq_plain; exact do_move rfl; exact rfl
      apply seq_plain; exact do_succ rfl (by omega); exact rfl
      apply seq_plain; exact do_assign rfl; exact rfl
      apply seq_nil
      refine lt_sub (by repeat (first | exact sub_nil | apply sub_cons rfl)) (ih (i + 1) (by omega) (by omega) ⟨by omega, fun j hj hji => ?_⟩)
      rcases Nat.lt_or_ge j i with h | h
      · exact hJ j hj h
      · have : j = i := by omega
        subst this; exact h3
  · have h1 : ¬ (i < l.length ∧ i ≤ 600) := by simpa using h1
    apply ct_exit
    apply exit_eq; exact rfl
    apply ct_seq
    apply ct_region
    apply seq_plain; exact do_move rfl; exact rfl
    apply seq_plain; exact do_lenS rfl rfl rfl; exact rfl
    apply seq_plain; exact do_binInt rfl rfl rfl trivial; exact rfl
    apply seq_plain; exact do_assign rfl; exact rfl
    apply seq_nil
    apply ct_ret
    refine fin_flat hc rfl rfl ⟨?_, rfl⟩
    rw [hend h1]
    show Value.bool (decide ((l.length : Int) ≤ 603)) = _
    congr 1
    rw [decide_eq_decide]; omega
def ruleL (r : Ru) : Int := if outL r.win 0 99 || (outL r.draw 0 99 || (outL r.loss 0 99 || outL r.frames 0 99)) then 3 else if r.draw > r.win ∨ r.loss > r.draw then 11 else 0
theorem checkRule114 {H : AHeap} {r : Ru} : Ret Tryz.prog 114 [ruV r] H (I (ruleL r)) H := by
  refine fn_start Tryz.func114 rfl rfl rfl fun hc => ?_
  apply ct_seq
  apply ct_region
  apply seq_newP; exact do_box rfl rfl rfl; exact rfl
  apply seq_plain; exact do_assign rfl; exact rfl
  apply seq_nil
  apply ct_seq
  apply ct_seq
  apply ct_region
  apply seq_plain; exact do_fieldAddr rfl rfl; exact rfl
  apply seq_plain; exact do_load rfl (by exact ext_get_new rfl) rfl (by exact rfl); exact rfl
  apply seq_call (ht := rfl); exact outside24; exact rfl
  apply seq_plain; exact do_move rfl; exact rfl
  refine seq_J [(1, .pointer (some ⟨nb H 0, 0, none⟩)), (20, .bool (outL r.win 0 99 || (outL r.draw 0 99 || (outL r.loss 0 99 || outL r.frames 0 99))))] (ds := []) (h := ext H H.fresh [some (.cells (ruL r) 0 false false)]) ?_ ?_
  · refine seq_gsplit rfl rfl (fun u0 => ?_) (fun u0 => ?_)
    · have u0 : outL r.win 0 99 = true := u0
      rw [u0, Bool.true_or]
      apply seq_passed (hd := rfl) (hl := rfl) (hb := rfl); exact rfl
      apply seq_passed (hd := rfl) (hl := rfl) (hb := rfl); exact rfl
      apply seq_passed (hd := rfl) (hl := rfl) (hb := rfl); exact rfl
      apply seq_plain; exact do_pick_t rfl rfl; exact rfl
      apply seq_plain; exact do_move rfl; exact rfl
      apply seq_passed (hd := rfl) (hl := rfl) (hb := rfl); exact rfl
      apply seq_passed (hd := rfl) (hl := rfl) (hb := rfl); exact rfl
      apply seq_passed (hd := rfl) (hl := rfl) (hb := rfl); exact rfl
      apply seq_plain; exact do_pick_t rfl rfl; exact rfl
      apply seq_plain; exact do_move rfl; exact rfl
      apply seq_passed (hd := rfl) (hl := rfl) (hb := rfl); exact rfl
      apply seq_passed (hd := rfl) (hl := rfl) (hb := rfl); exact rfl
      apply seq_passed (hd := rfl) (hl := rfl) (hb := rfl); exact rfl
      apply seq_plain; exact do_pick_t rfl rfl; exact rfl
      apply seq_nil
      exact jp_of (by repeat (first | exact sub_nil | apply sub_cons rfl))
    have u0 : outL r.win 0 99 = false := u0
    rw [u0, Bool.false_or]
    apply seq_guard (hd := rfl) (hl := rfl); exact do_fieldAddr rfl rfl; exact rfl
    apply seq_guard (hd := rfl) (hl := rfl); exact do_load rfl (by exact ext_get_new rfl) rfl (by exact rfl); exact rfl
    apply seq_gcall (hg := rfl) (hl := rfl) (ht := rfl); exact outside24; exact rfl
    apply seq_plain; exact do_pick_f rfl rfl; exact rfl
    apply seq_plain; exact do_move rfl; exact rfl
    refine seq_gsplit rfl rfl (fun u1 => ?_) (fun u1 => ?_)
    · have u1 : outL r.draw 0 99 = true := u1
      rw [u1, Bool.true_or]
      apply seq_passed (hd := rfl) (hl := rfl) (hb := rfl); exact rfl
      apply seq_passed (hd := rfl) (hl := rfl) (hb := rfl); exact rfl
      apply seq_passed (hd := rfl) (hl := rfl) (hb := rfl); exact rfl
      apply seq_plain; exact do_pick_t rfl rfl; exact rfl
      apply seq_plain; exact do_move rfl; exact rfl
      apply seq_passed (hd := rfl) (hl := rfl) (hb := rfl); exact rfl
      apply seq_passed (hd := rfl) (hl := rfl) (hb := rfl); exact rfl
      apply seq_passed (hd := rfl) (hl := rfl) (hb := rfl); exact rfl
      apply seq_plain; exact do_pick_t rfl rfl; exact rfl
      apply seq_nil
      exact jp_of (by repeat (first | exact sub_nil | apply sub_cons rfl))
    have u1 : outL r.draw 0 99 = false := u1
    rw [u1, Bool.false_or]
    apply seq_guard (hd := rfl) (hl := rfl); exact do_fieldAddr rfl rfl; exact rfl
    apply seq_guard (hd := rfl) (hl := rfl); exact do_load rfl (by exact ext_get_new rfl) rfl (by exact rfl); exact rfl
    apply seq_gcall (hg := rfl) (hl := rfl) (ht := rfl); exact outside24; exact rfl
    apply seq_plain; exact do_pick_f rfl rfl; exact rfl
    apply seq_plain; exact do_move rfl; exact rfl
    refine seq_gsplit rfl rfl (fun u2 => ?_) (fun u2 => ?_)
    · have u2 : outL r.loss 0 99 = true := u2
      rw [u2, Bool.true_or]
      apply seq_passed (hd := rfl) (hl := rfl) (hb := rfl); exact rfl
      apply seq_passed (hd := rfl) (hl := rfl) (hb := rfl); exact rfl
      apply seq_passed (hd := rfl) (hl := rfl) (hb := rfl); exact rfl
      apply seq_plain; exact do_pick_t rfl rfl; exact rfl
      apply seq_nil
      exact jp_of (by repeat (first | exact sub_nil | apply sub_cons rfl))
    have u2 : outL r.loss 0 99 = false := u2
    rw [u2, Bool.false_or]
    apply seq_guard (hd := rfl) (hl := rfl); exact do_fieldAddr rfl rfl; exact rfl
    apply seq_guard (hd := rfl) (hl := rfl); exact do_load rfl (by exact ext_get_new rfl) rfl (by exact rfl); exact rfl
    apply seq_gcall (hg := rfl) (hl := rfl) (ht := rfl); exact outside24; exact rfl
    apply seq_plain; exact do_pick_f rfl rfl; exact rfl
    apply seq_nil
    exact jp_of (by repeat (first | exact sub_nil | apply sub_cons rfl))
  refine ct_cond rfl (fun h1 => ?_) (fun h1 => ?_)
  · apply ct_seq
    apply ct_region
    apply seq_plain; exact do_assign rfl; exact rfl
    apply seq_nil
    apply ct_ret
    refine fin_flat hc rfl rfl ⟨?_, rfl⟩
    simp only [ruleL, h1, if_true, packA]
  have eL : ruleL r = if r.draw > r.win ∨ r.loss > r.draw then 11 else 0 := by
    simp only [ruleL, h1, Bool.false_eq_true, if_false]
  rw [eL]
  apply ct_skip
  apply ct_seq
  apply ct_seq
  apply ct_region
  apply seq_plain; exact do_fieldAddr rfl rfl; exact rfl
  apply seq_plain; exact do_load rfl (by exact ext_get_new rfl) rfl (by exact rfl); exact rfl
  apply seq_plain; exact do_fieldAddr rfl rfl; exact rfl
  apply seq_plain; exact do_load rfl (by exact ext_get_new rfl) rfl (by exact rfl); exact rfl
  apply seq_plain; exact do_binInt rfl rfl rfl trivial; exact rfl
  apply seq_plain; exact do_move rfl; exact rfl
  refine seq_J [(1, .pointer (some ⟨nb H 0, 0, none⟩)), (32, .bool (decide (r.draw > r.win) || decide (r.loss > r.draw)))] (ds := []) (h := ext H H.fresh [some (.cells (ruL r) 0 false false)]) ?_ ?_
  · refine seq_gsplit rfl rfl (fun u0 => ?_) (fun u0 => ?_)
    · have u0 : decide (r.draw > r.win) = true := u0
      rw [u0, Bool.true_or]
      apply seq_passed (hd := rfl) (hl := rfl) (hb := rfl); exact rfl
      apply seq_passed (hd := rfl) (hl := rfl) (hb := rfl); exact rfl
      apply seq_passed (hd := rfl) (hl := rfl) (hb := rfl); exact rfl
      apply seq_passed (hd := rfl) (hl := rfl) (hb := rfl); exact rfl
      apply seq_passed (hd := rfl) (hl := rfl) (hb := rfl); exact rfl
      apply seq_plain; exact do_pick_t rfl rfl; exact rfl
      apply seq_nil
      exact jp_of (by repeat (first | exact sub_nil | apply sub_cons rfl))
    have u0 : decide (r.draw > r.win) = false := u0
    rw [u0, Bool.false_or]
    apply seq_guard (hd := rfl) (hl := rfl); exact do_fieldAddr rfl rfl; exact rfl
    apply seq_guard (hd := rfl) (hl := rfl); exact do_load rfl (by exact ext_get_new rfl) rfl (by exact rfl); exact rfl
    apply seq_guard (hd := rfl) (hl := rfl); exact do_fieldAddr rfl rfl; exact rfl
    apply seq_guard (hd := rfl) (hl := rfl); exact do_load rfl (by exact ext_get_new rfl) rfl (by exact rfl); exact rfl
    apply seq_guard (hd := rfl) (hl := rfl); exact do_binInt rfl rfl rfl trivial; exact rfl
    apply seq_plain; exact do_pick_f rfl rfl; exact rfl
    apply seq_nil
    exact jp_of (by repeat (first | exact sub_nil | apply sub_cons rfl))
  refine ct_cond rfl (fun h2 => ?_) (fun h2 => ?_)
  · apply ct_seq
    apply ct_region
    apply seq_plain; exact do_assign rfl; exact rfl
    apply seq_nil
    apply ct_ret
    refine fin_flat hc rfl rfl ⟨?_, rfl⟩
    rw [if_pos (by simpa using h2)]; rfl
  · apply ct_skip
    apply ct_seq
    apply ct_region
    apply seq_plain; exact do_assign rfl; exact rfl
    apply seq_nil
    apply ct_ret
    refine fin_flat hc rfl rfl ⟨?_, rfl⟩
    rw [if_neg (by simpa using h2)]; rfl
end Go.Proofs.YtiggikjbknoohaaGreatDoor
