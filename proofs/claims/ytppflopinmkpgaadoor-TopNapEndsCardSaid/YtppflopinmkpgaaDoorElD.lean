/- Contracts: what a set of teams proves. -/
import Derived.Test.YtppflopinmkpgaaDoorElC
noncomputable section
namespace Go.Proofs.YtppflopinmkpgaaDoor
open Go Go.Den
set_option maxRecDepth 10000

def sumP (pts : List Int) (set : List Int) : Int := (set.map (ptL pts)).sum
theorem sumP_take {pts set : List Int} {i : Nat} (h : i < set.length) : sumP pts (set.take (i + 1)) = sumP pts (set.take i) + ptL pts set[i] := by
  rw [take_snoc h]; simp only [sumP, List.map_append, List.sum_append, List.map_cons, List.map_nil, List.sum_cons, List.sum_nil]; omega
theorem sumP_bound {pts : List Int} {opn : List (Int × Int)} (hg : GoodR pts opn) : ∀ (set : List Int), 0 ≤ sumP pts set ∧ sumP pts set ≤ 999999999 * set.length
  | [] => by simp [sumP]
  | k :: r => by
    have h1 := sumP_bound hg r
    have h2 := ptL_bound hg k
    have : sumP pts (k :: r) = ptL pts k + sumP pts r := by simp [sumP]
    rw [this, List.length_cons]; omega
theorem sumP_boundT {pts : List Int} {opn : List (Int × Int)} (hg : GoodR pts opn) (set : List Int) (i : Nat) : 0 ≤ sumP pts (set.take i) ∧ sumP pts (set.take i) ≤ 999999999 * set.length := by
  have h := sumP_bound hg (set.take i)
  rw [List.length_take] at h
  omega
def inS (set : List Int) (p : Int × Int) : Bool := (set.any fun x => p.1 == x) && (set.any fun x => p.2 == x)
def proveL (pts : List Int) (opn : List (Int × Int)) (team : Int) (set : List Int) : Bool := decide (sumP pts set + 2 * (opn.countP (inS set) : Nat) > set.length * mostL pts opn team)
theorem mostL_bound {pts : List Int} {opn : List (Int × Int)} (hg : GoodR pts opn) (team : Int) : 0 ≤ mostL pts opn team ∧ mostL pts opn team ≤ 1000000127 := by
  have h1 := ptL_bound hg team
  have h2 := List.countP_le_length (p := hasT team) (l := opn)
  have h3 := hg.len
  unfold mostL; omega
theorem prod_bound {n : Nat} {m : Int} (hn : n ≤ 1000) (h0 : 0 ≤ m) (h1 : m ≤ 1000000127) : -9223372036854775808 ≤ (n : Int) * m ∧ (n : Int) * m ≤ 9223372036854775807 := by
  have h2 : (n : Int) * m ≤ 1000 * 1000000127 := Int.mul_le_mul (by omega) h1 h0 (by omega)
  have h3 : 0 ≤ (n : Int) * m := Int.mul_nonneg (by omega) h0
  omega

set_option maxHeartbeats 1000000 in
theorem proves_c {H : AHeap} {q r u : Option Addr} {c d e : Nat} {pts set : List Int} {opn : List (Int × Int)} {team : Int} (hs : SlAt H 1 i1 q pts) (ht : SlAt H 2 p2 r opn) (hu : SlAt H 1 i1 u set) (hg : GoodR pts opn) (h0 : 0 ≤ team) (h1 : team < pts.length) (hn : set.length ≤ 1000) (hin : ∀ k ∈ set, 0 ≤ k ∧ k < pts.length) :
    Ret Tryd.prog 49 [Rv q pts.length c r opn.length d, I team, .slice u set.length e] H (.bool (proveL pts opn team set)) H := by
  have hmb := mostL_bound hg team
  have hmul := prod_bound hn hmb.1 hmb.2
  have hlen := hg.len
  have hlo := hg.lo
  have hs0 := hs
  obtain ⟨b, o, cs, z, s, ro, rfl, hg1, hw1⟩ := hs.out (by intro e; rw [e] at hlo; simp at hlo)
  refine fn_start Tryd.func49 rfl rfl rfl fun hc => ?_
  apply ct_seq
  apply ct_region
  apply seq_newP; exact do_box rfl rfl rfl; exact rfl
  apply seq_plain; exact do_assign rfl; exact rfl
  apply seq_nil
  apply ct_seq
  apply ct_region
  apply seq_plain; exact do_assign rfl; exact rfl
  apply seq_nil
  apply ct_seq
  apply ct_seq
  apply ct_region
  apply seq_plain; exact do_move rfl; exact rfl
  apply seq_plain; exact do_lenS rfl rfl rfl; exact rfl
  apply seq_plain; exact do_move rfl; exact rfl
  apply seq_nil
  apply ct_block
  apply ct_loop
  refine lt_up (fun i => [(1, I team), (2, .slice u set.length e), (3, .pointer (some ⟨nb H 0, 0, none⟩)), (7, I (sumP pts (set.take i))), (12, .slice u set.length e), (13, I set.length), (14, I i)]) (fun _ => True) set.length (fun i hi _ ih => ?_) 0 (by omega) trivial (by simp [sumP]; (repeat (first | exact sub_nil | apply sub_cons rfl)))
  have hsb := sumP_boundT hg set i
  apply ct_seq
  apply ct_region
  apply seq_plain; exact do_binInt rfl rfl rfl trivial; exact rfl
  apply seq_nil
  apply ct_seq
  refine ct_cond rfl (fun h2 => ?_) (fun h2 => ?_)
  · simp only [decide_eq_true_eq, Int.ofNat_lt] at h2
    obtain ⟨b', o', cs', z', s', ro', rfl, hg', hw'⟩ := hu.out (by intro e; rw [e] at h2; simp at h2)
    have hk := hin _ (List.getElem_mem h2)
    have hkl : set[i].toNat < pts.length := by omega
    have hpe := ptL_eq hkl
    have hpb := ptL_bound hg set[i]
    have e1 := sumP_take (pts := pts) h2
    apply ct_skip
    apply ct_seq
    apply ct_block
    apply ct_seq
    apply ct_region
    apply seq_plain; exact do_indexAddrS rfl rfl rfl (by exact idx_nat (by omega)); exact rfl
    apply seq_plain; exact do_load rfl (by exact ext_get_old (by assumption) (by assumption)) rfl (by exact pt_sl0 (by assumption) (by omega)); exact rfl
    apply seq_plain; exact do_assign rfl; exact rfl
    apply seq_nil
    apply ct_region
    apply seq_plain; exact do_move rfl; exact rfl
    apply seq_plain; exact do_fieldAddr rfl rfl; exact rfl
    apply seq_plain; exact do_load rfl (by exact ext_get_new rfl) rfl (by exact rfl); exact rfl
    apply seq_plain; exact do_move rfl; exact rfl
    apply seq_plain; exact do_indexAddrS rfl rfl rfl (by exact idx_int (by omega)); exact rfl
    apply seq_plain; exact do_load rfl (by exact ext_get_old (by assumption) (by assumption)) rfl (by exact pt_sl0 (by assumption) (by omega)); exact rfl
    apply seq_plain; exact do_add rfl rfl (by omega); exact rfl
    apply seq_plain; exact do_assign rfl; exact rfl
    apply seq_nil
    apply ct_region
    apply seq_plain; exact do_succ rfl (by omega); exact rfl
    apply seq_plain; exact do_move rfl; exact rfl
    apply seq_nil
    have ih := ih (i + 1) (by omega) (by omega) trivial
    rw [e1, ← hpe] at ih
    exact lt_sub (by repeat (first | exact sub_nil | apply sub_cons rfl)) ih
  · simp only [decide_eq_false_iff_not, Int.ofNat_lt] at h2
    rw [take_all (by omega)]
    have hsb := sumP_bound hg set
    apply ct_exit
    apply exit_eq; exact rfl
    apply ct_seq
    apply ct_seq
    apply ct_region
    apply seq_plain; exact do_fieldAddr rfl rfl; exact rfl
    apply seq_plain; exact do_load rfl (by exact ext_get_new rfl) rfl (by exact rfl); exact rfl
    apply seq_plain; exact do_lenS rfl rfl rfl; exact rfl
    apply seq_plain; exact do_move rfl; exact rfl
    apply seq_nil
    apply ct_block
    apply ct_loop
    refine lt_upB hc (fun i => [(1, I team), (2, .slice u set.length e), (3, .pointer (some ⟨nb H 0, 0, none⟩)), (7, I (sumP pts set + 2 * ((opn.take i).countP (inS set) : Nat))), (27, .slice r opn.length d), (28, I opn.length), (29, I i)]) (fun _ => True) opn.length (fun i h lo hc' hE0 hi _ ih => ?_) 0 (by omega) trivial (by simp; (repeat (first | exact sub_nil | apply sub_cons rfl)))
    have hE := (ext_Ext hc).trans hE0
    have hbox := hE0 _ _ (ext_get_new (k := 0) rfl)
    clear hE0
    have hcnt : (opn.take i).countP (inS set) ≤ opn.length := count_le
    apply ct_seq
    apply ct_region
    apply seq_plain; exact do_binInt rfl rfl rfl trivial; exact rfl
    apply seq_nil
    apply ct_seq
    refine ct_cond rfl (fun h3 => ?_) (fun h3 => ?_)
    · simp only [decide_eq_true_eq, Int.ofNat_lt] at h3
      obtain ⟨b', o', cs', z', s', ro', rfl, hg', hw'⟩ := ht.out (by intro e; rw [e] at h3; simp at h3)
      have hg' := hE _ _ hg'
      have e1 := count_take (p := inS set) h3
      apply ct_skip
      apply ct_seq
      apply ct_block
      apply ct_seq
      apply ct_region
      apply seq_plain; exact do_indexAddrS rfl rfl rfl (by exact idx_nat (by omega)); exact rfl
      apply seq_plain; exact do_load rfl (by exact ext_get_old (by assumption) (by assumption)) rfl (by exact pt_sl (by assumption) (by omega)); exact rfl
      apply seq_newP; exact do_alloc rfl rfl; exact rfl
      apply seq_putC (hc := by assumption); rotate_left; exact do_store rfl rfl (by exact ext_get_new rfl) rfl rfl (nb_own _); rotate_left; exact Nat.le_of_ble_eq_true rfl
      apply ct_seq
      apply ct_region
      apply seq_plain; exact do_move rfl; exact rfl
      apply seq_plain; exact do_indexAddrA rfl rfl rfl (by exact rfl); exact rfl
      apply seq_plain; exact do_load rfl (by exact ext_get_new rfl) rfl (by exact rfl); exact rfl
      apply seq_call (ht := rfl); exact contains_c (hu.ext (hE.trans (ext_Ext hc'))) (by omega); exact rfl
      apply seq_plain; exact do_move rfl; exact rfl
      refine seq_J [(1, I team), (2, .slice u set.length e), (3, .pointer (some ⟨nb H 0, 0, none⟩)), (7, I (sumP pts set + 2 * ((opn.take i).countP (inS set) : Nat))), (27, .slice (some ⟨b', o', none⟩) opn.length d), (28, I opn.length), (29, I i), (42, .bool (inS set opn[i]))] (ds := []) (h := ext h lo [some (.cells [I opn[i].1, I opn[i].2] 0 false false)]) ?_ ?_
      · refine seq_gsplit rfl rfl (fun u1 => ?_) (fun u1 => ?_)
        · have u1 : (set.any fun x => opn[i].1 == x) = true := u1
          have e : inS set opn[i] = (set.any fun x => opn[i].2 == x) := by unfold inS; rw [u1]; rfl
          rw [e]
          apply seq_guard (hd := rfl) (hl := rfl); exact do_move rfl; exact rfl
          apply seq_guard (hd := rfl) (hl := rfl); exact do_indexAddrA rfl rfl rfl (by exact rfl); exact rfl
          apply seq_guard (hd := rfl) (hl := rfl); exact do_load rfl (by exact ext_get_new rfl) rfl (by exact rfl); exact rfl
          apply seq_gcall (hg := rfl) (hl := rfl) (ht := rfl); exact contains_c (hu.ext (hE.trans (ext_Ext hc'))) (by omega); exact rfl
          apply seq_plain; exact do_pick_t rfl rfl; exact rfl
          apply seq_nil
          exact jp_of (by repeat (first | exact sub_nil | apply sub_cons rfl))
        · have u1 : (set.any fun x => opn[i].1 == x) = false := u1
          have e : inS set opn[i] = false := by unfold inS; rw [u1]; rfl
          rw [e]
          apply seq_passed (hd := rfl) (hl := rfl) (hb := rfl); exact rfl
          apply seq_passed (hd := rfl) (hl := rfl) (hb := rfl); exact rfl
          apply seq_passed (hd := rfl) (hl := rfl) (hb := rfl); exact rfl
          apply seq_passed (hd := rfl) (hl := rfl) (hb := rfl); exact rfl
          apply seq_plain; exact do_pick_f rfl rfl; exact rfl
          apply seq_nil
          exact jp_of (by repeat (first | exact sub_nil | apply sub_cons rfl))
      skip
      refine ct_cond rfl (fun h4 => ?_) (fun h4 => ?_)
      · have e2 : sumP pts set + 2 * ((opn.take (i + 1)).countP (inS set) : Nat) = sumP pts set + 2 * ((opn.take i).countP (inS set) : Nat) + 2 := by rw [e1, h4]; simp; omega
        apply ct_region
        apply seq_plain; exact do_move rfl; exact rfl
        apply seq_plain; exact do_add rfl rfl (by omega); exact rfl
        apply seq_plain; exact do_assign rfl; exact rfl
        apply seq_nil
        apply ct_region
        apply seq_plain; exact do_succ rfl (by omega); exact rfl
        apply seq_plain; exact do_move rfl; exact rfl
        apply seq_nil
        have ih := fun h' lo2 L2 a b => ih (i + 1) h' lo2 L2 a b (by omega) (by omega) trivial
        rw [e2] at ih
        exact lt_sub (by repeat (first | exact sub_nil | apply sub_cons rfl)) (ih _ _ _ hc' (.refl _))
      · have e2 : (opn.take (i + 1)).countP (inS set) = (opn.take i).countP (inS set) := by rw [e1, h4]; simp
        apply ct_skip
        apply ct_region
        apply seq_plain; exact do_succ rfl (by omega); exact rfl
        apply seq_plain; exact do_move rfl; exact rfl
        apply seq_nil
        have ih := fun h' lo2 L2 a b => ih (i + 1) h' lo2 L2 a b (by omega) (by omega) trivial
        rw [e2] at ih
        exact lt_sub (by repeat (first | exact sub_nil | apply sub_cons rfl)) (ih _ _ _ hc' (.refl _))
    · simp only [decide_eq_false_iff_not, Int.ofNat_lt] at h3
      rw [take_all (l := opn) (by omega)]
      apply ct_exit
      apply exit_eq; exact rfl
      apply ct_seq
      apply ct_region
      apply seq_plain; exact do_move rfl; exact rfl
      apply seq_plain; exact do_move rfl; exact rfl
      apply seq_plain; exact do_lenS rfl rfl rfl; exact rfl
      apply seq_plain; exact do_load rfl (by exact ext_get_old (by assumption) (by assumption)) rfl (by exact rfl); exact rfl
      apply seq_plain; exact do_move rfl; exact rfl
      apply seq_call (ht := rfl); exact most_c (hs0.ext (hE.trans (ext_Ext hc'))) (ht.ext (hE.trans (ext_Ext hc'))) hg h0 h1; exact rfl
      apply seq_plain; exact do_mul rfl rfl (by assumption); exact rfl
      apply seq_plain; exact do_binInt rfl rfl rfl trivial; exact rfl
      apply seq_plain; exact do_assign rfl; exact rfl
      apply seq_nil
      apply ct_ret
      exact fin_flatB hc hc' hE rfl rfl ⟨rfl, rfl⟩

theorem mkBools {l : EL} {h : AHeap} {a : Operand} {n : Nat} (ha : ev l a = some (I n)) (hn : n ≤ 24) : Does Tryd.prog l (.makeSlice 95 a a) h (.slice (some ⟨h.fresh, 0, none⟩) n n) (h.add (.cells ((List.replicate n false).map Value.bool) 1 false false)) := by
  rw [← repl_map]
  exact do_makeSlice ha ha rfl rfl rfl rfl (Nat.le_refl _) (by omega) (Nat.le_trans (Nat.mul_le_mul_left _ hn) (Nat.le_of_ble_eq_true rfl))
end Go.Proofs.YtppflopinmkpgaaDoor
