/- Contracts: home matches, the list as a whole. -/
import Derived.Test.YtiggikjbknoohaaGreatDoorFnF
noncomputable section
namespace Go.Proofs.YtiggikjbknoohaaGreatDoor
open Go Go.Den
set_option maxRecDepth 10000

theorem homes56 {H : AHeap} {n : Nat} {q : Option Addr} {c : Nat} {l : List Fx} (hs : SlAt H 3 fx q l) (hn : l.length < 1000000000000) (hcap : l.length ≤ c) (hq0 : q = none → l.length = 0 ∧ c = 0) (hqs : ∀ a, q = some a → a.spot = none) (hok : chkL n l = 0) :
    Ret Tryz.prog 56 [I n, .slice q l.length c] H (.tuple ⟨[.slice (some ⟨H.fresh, 0, none⟩) n n, I 0]⟩) (H.add (.cells ((tally l (List.replicate n 0)).map I) 1 false false)) := by
  have hg0 := chk_good hok
  have hn2 : n ≤ 24 := by have := hg0.hi; omega
  refine fn_start Tryz.func56 rfl rfl rfl fun hc => ?_
  apply ct_seq
  apply ct_region
  apply seq_plain; exact do_assign rfl; exact rfl
  apply seq_plain; exact do_assign rfl; exact rfl
  apply seq_nil
  apply ct_seq
  apply ct_seq
  apply ct_region
  apply seq_plain; exact do_move rfl; exact rfl
  apply seq_plain; exact do_move rfl; exact rfl
  apply seq_call (ht := rfl); exact checkList137 (hs.ext (ext_Ext hc)) hn hcap hq0 hqs; exact rfl
  apply seq_plain; exact do_assign rfl; exact rfl
  apply seq_nil
  apply ct_seq
  apply ct_region
  apply seq_plain; exact do_move rfl; exact rfl
  apply seq_plain; exact do_binInt rfl rfl rfl trivial; exact rfl
  apply seq_nil
  refine ct_cond_f rfl (by simp [hok]) ?_
  apply ct_skip
  apply ct_seq
  apply ct_region
  apply seq_plain; exact do_move rfl; exact rfl
  apply seq_newS; exact mk33 rfl hn2; exact rfl
  apply seq_plain; exact do_assign rfl; exact rfl
  apply seq_nil
  apply ct_seq
  apply ct_seq
  apply ct_region
  apply seq_plain; exact do_move rfl; exact rfl
  apply seq_plain; exact do_lenS rfl rfl rfl; exact rfl
  apply seq_plain; exact do_move rfl; exact rfl
  apply seq_nil
  apply ct_block
  apply ct_loop
  refine lt_meas (α := Nat × List (Option ABlk)) (fun a => [(7, .slice (some ⟨nb H 0, 0, none⟩) n n), (18, .slice q l.length c), (19, I l.length), (20, I a.1)]) (fun a => ext H H.fresh (some (.cells ((tally (l.take a.1) (List.replicate n 0)).map I) 1 false false) :: a.2)) (fun a => a.1 ≤ l.length) (fun a => l.length - a.1) (fun a hi ih => ?_) (0, []) (by simp) (by repeat (first | exact sub_nil | apply sub_cons rfl)) (.refl _)
  obtain ⟨i, R⟩ := a
  simp only at hi ih ⊢
  have ih' := fun i' R' a1 a2 => ih (i', R') a1 a2
  simp only at ih'
  clear ih
  have hlen : (tally (l.take i) (List.replicate n 0)).length = n := by rw [tally_len]; simp
  apply ct_seq
  apply ct_region
  apply seq_plain; exact do_binInt rfl rfl rfl trivial; exact rfl
  apply seq_nil
  apply ct_seq
  refine ct_cond rfl (fun h1 => ?_) (fun h1 => ?_)
  · simp only [decide_eq_true_eq, Int.ofNat_lt] at h1
    obtain ⟨b, o, cs, z, s, ro, rfl, hg, hw⟩ := hs.out (by intro e; rw [e] at h1; simp at h1)
    have hx := (hg0.each _ (List.getElem_mem h1)).1
    have hk : l[i].home.toNat < (tally (l.take i) (List.replicate n 0)).length := by omega
    have hv := tally_bound (n := 0) (l := l.take i) (List.replicate n 0) (by simp) _ hk
    rw [List.length_take] at hv
    apply ct_skip
    apply ct_seq
    apply ct_block
    apply ct_seq
    apply ct_region
    apply seq_plain; exact do_indexAddrS rfl rfl rfl (by exact idx_nat (by omega)); exact rfl
    apply seq_plain; exact do_load rfl (by exact ext_get_old (by assumption) (by assumption)) rfl (by exact pt_sl (by assumption) (by omega)); exact rfl
    apply seq_newP; exact do_alloc rfl rfl; exact rfl
    apply seq_putC (hc := by assumption); rotate_left; exact do_store rfl rfl (by exact ext_get_new List.getElem?_concat_length) rfl rfl (nb_own _); rotate_left; exact (by simp)
    apply ct_region
    apply seq_plain; exact do_move rfl; exact rfl
    apply seq_plain; exact do_fieldAddr rfl rfl; exact rfl
    apply seq_plain; exact do_load rfl (by exact ext_get_new getSetLast) rfl (by exact rfl); exact rfl
    apply seq_plain; exact do_indexAddrS rfl rfl rfl (by exact idx_int (by omega)); exact rfl
    apply seq_plain; exact do_load rfl (by exact ext_get_new rfl) rfl (by exact pt_map (by omega)); exact rfl
    apply seq_plain; exact do_add rfl rfl (by omega); exact rfl
    apply seq_plain; exact do_indexAddrS rfl rfl rfl (by exact idx_int (by omega)); exact rfl
    apply seq_putC (hc := by assumption); rotate_left; exact do_store rfl rfl (by exact ext_get_new rfl) rfl (stl_map hk rfl rfl) (nb_own _); rotate_left; exact Nat.le_of_ble_eq_true rfl
    apply ct_region
    apply seq_plain; exact do_succ rfl (by omega); exact rfl
    apply seq_plain; exact do_move rfl; exact rfl
    apply seq_nil
    have e : tally (l.take (i + 1)) (List.replicate n 0) = (tally (l.take i) (List.replicate n 0)).set l[i].home.toNat ((tally (l.take i) (List.replicate n 0))[l[i].home.toNat] + 1) := by
      rw [take_snoc h1, tally_snoc, List.getElem?_eq_getElem hk]; rfl
    have ih := fun R' => ih' (i + 1) R' (by omega) (by omega)
    rw [e] at ih
    exact lt_to (by repeat (first | exact sub_nil | apply sub_cons rfl)) (.refl _) (ih _)
  · simp only [decide_eq_false_iff_not, Int.ofNat_lt] at h1
    rw [take_all (by omega)]
    apply ct_exit
    apply exit_eq; exact rfl
    apply ct_seq
    apply ct_region
    apply seq_plain; exact do_move rfl; exact rfl
    apply seq_plain; exact do_assign rfl; exact rfl
    apply seq_plain; exact do_assign rfl; exact rfl
    apply seq_nil
    apply ct_ret
    refine fin_one (k := 0) (vs := [.slice (some ⟨nb H 0, 0, none⟩) n n, I 0]) (v := .tuple ⟨[.slice (some ⟨H.fresh, 0, none⟩) n n, I 0]⟩) hc rfl rfl (flat_ints _) ?_ ⟨rfl, rfl⟩
    simp [packA, renV, renL, renOf_one (H := H) ⟨own_iff.1 (nb_own 0), nb_ge 0⟩]
