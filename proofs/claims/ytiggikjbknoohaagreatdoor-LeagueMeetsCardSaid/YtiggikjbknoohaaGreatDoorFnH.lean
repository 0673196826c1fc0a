/- Contracts: every pair meets. -/
import Derived.Test.YtiggikjbknoohaaGreatDoorFnG
noncomputable section
namespace Go.Proofs.YtiggikjbknoohaaGreatDoor
open Go Go.Den
set_option maxRecDepth 10000

/-- who met whom, both ways -/
def metK (l : List Fx) : List (Int × Int) := l.foldl (fun k x => addK (addK k (x.home, x.away)) (x.away, x.home)) []
theorem metK_snoc {l : List Fx} {x : Fx} : metK (l ++ [x]) = addK (addK (metK l) (x.home, x.away)) (x.away, x.home) := by
  simp [metK, List.foldl_append]

set_option maxHeartbeats 1000000 in
theorem checkFixtures58 {H : AHeap} {n : Int} {q : Option Addr} {c : Nat} {l : List Fx} (hs : SlAt H 3 fx q l) (hn : l.length < 1000000000000) (hcap : l.length ≤ c) (hq0 : q = none → l.length = 0 ∧ c = 0) (hqs : ∀ a, q = some a → a.spot = none) (hok : chkL n l = 0) :
    Ret Tryz.prog 58 [I n, .slice q l.length c] H (I (whenL (decide (((metK l).length : Int) < n * (n - 1))) 7)) H := by
  have hg0 := chk_good hok
  have hlo := hg0.lo
  have hhi := hg0.hi
  have hmul : -9223372036854775808 ≤ n * (n - 1) ∧ n * (n - 1) ≤ 9223372036854775807 := by
    have h1 : n * (n - 1) ≤ 24 * 23 := Int.mul_le_mul hhi (by omega) (by omega) (by omega)
    have h2 : 0 ≤ n * (n - 1) := Int.mul_nonneg (by omega) (by omega)
    omega
  refine fn_start Tryz.func58 rfl rfl rfl fun hc => ?_
  apply ct_seq
  apply ct_region
  apply seq_plain; exact do_assign rfl; exact rfl
  apply seq_nil
  apply ct_seq
  apply ct_seq
  apply ct_region
  apply seq_plain; exact do_move rfl; exact rfl
  apply seq_plain; exact do_move rfl; exact rfl
  apply seq_call (ht := rfl); exact checkList137 (hs.ext (ext_Ext hc)) hn hcap hq0 hqs; exact rfl
  apply seq_plain; exact do_assign rfl; exact rfl
  apply seq_nil
  apply ct_seq
  apply ct_region
  apply seq_plain; exact do_move rfl; exact rfl
  apply seq_plain; exact do_binInt rfl rfl rfl trivial; exact rfl
  apply seq_nil
  refine ct_cond_f rfl (by simp [hok]) ?_
  apply ct_skip
  apply ct_seq
  apply ct_region
  apply seq_newM; exact do_makeMap0; exact rfl
  apply seq_plain; exact do_assign rfl; exact rfl
  apply seq_nil
  apply ct_seq
  apply ct_seq
  apply ct_region
  apply seq_plain; exact do_move rfl; exact rfl
  apply seq_plain; exact do_lenS rfl rfl rfl; exact rfl
  apply seq_plain; exact do_move rfl; exact rfl
  apply seq_nil
  apply ct_block
  apply ct_loop
  refine lt_meas (α := Nat × List (Option ABlk)) (fun a => [(0, I n), (6, .map (some (nb H 0))), (17, .slice q l.length c), (18, I l.length), (19, I a.1)]) (fun a => ext H H.fresh (some (setM prV (metK (l.take a.1))) :: a.2)) (fun a => a.1 ≤ l.length) (fun a => l.length - a.1) (fun a hi ih => ?_) (0, []) (by simp) (by repeat (first | exact sub_nil | apply sub_cons rfl)) (.refl _)
  obtain ⟨i, R⟩ := a
  simp only at hi ih ⊢
  have ih' := fun i' R' a1 a2 => ih (i', R') a1 a2
  simp only at ih'
  clear ih
  apply ct_seq
  apply ct_region
  apply seq_plain; exact do_binInt rfl rfl rfl trivial; exact rfl
  apply seq_nil
  apply ct_seq
  refine ct_cond rfl (fun h1 => ?_) (fun h1 => ?_)
  · simp only [decide_eq_true_eq, Int.ofNat_lt] at h1
    obtain ⟨b, o, cs, z, s, ro, rfl, hg, hw⟩ := hs.out (by intro e; rw [e] at h1; simp at h1)
    apply ct_skip
    apply ct_seq
    apply ct_block
    apply ct_seq
    apply ct_region
    apply seq_plain; exact do_indexAddrS rfl rfl rfl (by exact idx_nat (by omega)); exact rfl
    apply seq_plain; exact do_load rfl (by exact ext_get_old (by assumption) (by assumption)) rfl (by exact pt_sl (by assumption) (by omega)); exact rfl
    apply seq_newP; exact do_alloc rfl rfl; exact rfl
    apply seq_putC (hc := by assumption); rotate_left; exact do_store rfl rfl (by exact ext_get_new List.getElem?_concat_length) rfl rfl (nb_own _); rotate_left; exact (by simp)
    apply ct_seq
    apply ct_region
    apply seq_plain; exact do_fieldAddr rfl rfl; exact rfl
    apply seq_plain; exact do_load rfl (by exact ext_get_new getSetLast) rfl (by exact rfl); exact rfl
    apply seq_plain; exact do_fieldAddr rfl rfl; exact rfl
    apply seq_plain; exact do_load rfl (by exact ext_get_new getSetLast) rfl (by exact rfl); exact rfl
    apply seq_plain; exact do_build rfl rfl rfl rfl; exact rfl
    apply seq_newP; exact do_alloc rfl rfl; exact rfl
    apply seq_putC (hc := by assumption); rotate_left; exact do_store rfl rfl (by exact ext_get_new List.getElem?_concat_length) rfl rfl (nb_own _); rotate_left; exact (by simp)
    apply ct_draw (by assumption); decide +kernel
    apply sd_plain (hfree := rfl); intro _; exact do_move rfl; exact rfl
    apply sd_look (hfree := rfl); exact do_load rfl (by exact ext_get_new (getApp getSetLast)) rfl (by exact rfl); exact rfl
    apply sd_plain (hfree := rfl); intro _; exact do_move rfl; exact rfl
    apply sd_look (hfree := rfl); exact do_load rfl (by exact ext_get_new (getApp getSetLast)) rfl (by exact rfl); exact rfl
    apply sd_call (ht := rfl); exact turned138; exact rfl
    apply sd_put (hfree := rfl) (hser := by decide +kernel) (hc := by assumption); rotate_left; exact do_setAdd (ks := metK (l.take i)) (a := (l[i].home, l[i].away)) rfl rfl rfl (by exact ext_get_new rfl) rfl keyPr (nb_own _); rotate_left; exact Nat.le_of_ble_eq_true rfl
    apply sd_put (hfree := rfl) (hser := by decide +kernel) (hc := by assumption); rotate_left; exact do_setAdd (ks := addK (metK (l.take i)) (l[i].home, l[i].away)) (a := (l[i].away, l[i].home)) rfl rfl rfl (by exact ext_get_new rfl) rfl keyPr (nb_own _); rotate_left; exact Nat.le_of_ble_eq_true rfl
    apply sd_nil
    apply ct_region
    apply seq_plain; exact do_succ rfl (by omega); exact rfl
    apply seq_plain; exact do_move rfl; exact rfl
    apply seq_nil
    have e : metK (l.take (i + 1)) = addK (addK (metK (l.take i)) (l[i].home, l[i].away)) (l[i].away, l[i].home) := by
      rw [take_snoc h1, metK_snoc]
    have ih := fun R' => ih' (i + 1) R' (by omega) (by omega)
    rw [e] at ih
    exact lt_to (by repeat (first | exact sub_nil | apply sub_cons rfl)) (.refl _) (ih _)
  · simp only [decide_eq_false_iff_not, Int.ofNat_lt] at h1
    rw [take_all (by omega)]
    apply ct_exit
    apply exit_eq; exact rfl
    apply ct_seq
    apply ct_region
    apply seq_plain; exact do_move rfl; exact rfl
    apply seq_plain; exact do_builtin rfl (bi_lenSet rfl (by exact ext_get_new rfl)); exact rfl
    apply seq_plain; exact do_move rfl; exact rfl
    apply seq_plain; exact do_move rfl; exact rfl
    apply seq_plain; exact do_sub rfl rfl (by omega); exact rfl
    apply seq_plain; exact do_mul rfl rfl (by assumption); exact rfl
    apply seq_plain; exact do_binInt rfl rfl rfl trivial; exact rfl
    apply seq_call (ht := rfl); exact when85; exact rfl
    apply seq_plain; exact do_assign rfl; exact rfl
    apply seq_nil
    apply ct_ret
    refine fin_flat hc rfl rfl ⟨?_, rfl⟩
    rfl
