/- Contracts: every pair meets. -/
import Derived.Test.YtiggikjbknoohaaGreatDoorFnG
noncomputable section
namespace Go.Proofs.YtiggikjbknoohaaGreatDoor
open Go Go.Den
set_option maxRecDepth 10000

/-- who met whom, both ways -/
def metK (l : List Fx) : List (Int × Int) := l.foldl (fun k x => addK (addK k (x.home, x.away)) (x.away, x.home)) []
theorem metK_snoc {l : List Fx} {x : Fx} : metK (l ++ [x]) = addK (addK (metK l) (x.home, x.away)) (x.away, x.home) := by
  simp [metK, List.foldl_append]

theorem checkFixtures58_bad {H : AHeap} {n : Int} {q : Option Addr} {c : Nat} {l : List Fx} (hs : SlAt H 3 fx q l) (hn : l.length < 1000000000000) (hcap : l.length ≤ c) (hq0 : q = none → l.length = 0 ∧ c = 0) (hqs : ∀ a, q = some a → a.spot = none) (hbad : chkL n l ≠ 0) :
    Ret Tryz.prog 58 [I n, .slice q l.length c] H (I (chkL n l)) H := by
  refine fn_start Tryz.func58 rfl rfl rfl fun hc => ?_
  apply ct_seq
  apply ct_region
  apply seq_plain; exact do_assign rfl; exact rfl
  apply seq_nil
  apply ct_seq
  apply ct_seq
  apply ct_region
  apply seq_plain; exact do_move rfl; exact rfl
  apply seq_plain; exact do_move rfl; exact rfl
  apply seq_call (ht := rfl); exact checkList137 (hs.ext (ext_Ext hc)) hn hcap hq0 hqs; exact rfl
  apply seq_plain; exact do_assign rfl; exact rfl
  apply seq_nil
  apply ct_seq
  apply ct_region
  apply seq_plain; exact do_move rfl; exact rfl
  apply seq_plain; exact do_binInt rfl rfl rfl trivial; exact rfl
  apply seq_nil
  refine ct_cond_t rfl (by simpa using hbad) ?_
  apply ct_seq
  apply ct_region
  apply seq_plain; exact do_move rfl; exact rfl
  apply seq_plain; exact do_assign rfl; exact rfl
  apply seq_nil
  apply ct_ret
  exact fin_flat hc rfl rfl ⟨rfl, rfl⟩

set_option maxHeartbeats 1000000 in
theorem checkFixtures58 {H : AHeap} {n : Int} {q : Option Addr} {c : Nat} {l : List Fx} (hs : SlAt H 3 fx q l) (hn : l.length < 1000000000000) (hcap : l.length ≤ c) (hq0 : q = none → l.length = 0 ∧ c = 0) (hqs : ∀ a, q = some a → a.spot = none) (hok : chkL n l = 0) :
    Ret Tryz.prog 58 [I n, .slice q l.length c] H (I (whenL (decide (((metK l).length : Int) < n * (n - 1))) 7)) H := by
  have hg0 := chk_good hok
  have hlo := hg0.lo
  have hhi := hg0.hi
  have hmul : -9223372036854775808 ≤ n * (n - 1) ∧ n * (n - 1) ≤ 9223372036854775807 := by
    have h1 : n * (n - 1) ≤ 24 * 23 := Int.mul_le_mul hhi (by omega) (by omega) (by omega)
    have h2 : 0 ≤ n * (n - 1) := Int.mul_nonneg (by omega) (by omega)
    omega
  refine fn_start Tryz.func58 rfl rfl rfl fun hc => ?_
  apply ct_seq
  apply ct_region
  apply seq_plain; exact do_assign rfl; exact rfl
  apply seq_nil
  apply ct_seq
  apply ct_seq
  apply ct_region
  apply seq_plain; exact do_move rfl; exact rfl
  apply seq_plain; exact do_move rfl; exact rfl
  apply seq_call (ht := rfl); exact checkList137 (hs.ext (ext_Ext hc)) hn hcap hq0 hqs; exact rfl
  apply seq_plain; exact do_assign rfl; exact rfl
  apply seq_nil
  apply ct_seq
  apply ct_region
  apply seq_plain; exact do_move rfl; exact rfl
  apply seq_plain; exact do_binInt rfl rfl rfl trivial; exact rfl
  apply seq_nil
  refine ct_cond_f rfl (by simp [hok]) ?_
  apply ct_skip
  apply ct_seq
  apply ct_region
  apply seq_newM; exact do_makeMap0; exact rfl
  apply seq_plain; exact do_assign rfl; exact rfl
  apply seq_nil
  apply ct_seq
  apply ct_seq
  apply ct_region
  apply seq_plain; exact do_move rfl; exact rfl
  apply seq_plain; exact do_lenS rfl rfl rfl; exact rfl
  apply seq_plain; exact do_move rfl; exact rfl
  apply seq_nil
  apply ct_block
  apply ct_loop
  refine lt_meas (α := Nat × List (Option ABlk)) (fun a => [(0, I n), (6, .map (some (nb H 0))), (17, .slice q l.length c), (18, I l.length), (19, I a.1)]) (fun a => ext H H.fresh (some (setM prV (metK (l.take a.1))) :: a.2)) (fun a => a.1 ≤ l.length) (fun a => l.length - a.1) (fun a hi ih => ?_) (0, []) (by simp) (by repeat (first | exact sub_nil | apply sub_cons rfl)) (.refl _)
  obtain ⟨i, R⟩ := a
  simp only at hi ih ⊢
  have ih' := fun i' R' a1 a2 => ih (i', R') a1 a2
  simp only at ih'
  clear ih
  apply ct_seq
  apply ct_region
  apply seq_plain; exact do_binInt rfl rfl rfl trivial; exact rfl
  apply seq_nil
  apply ct_seq
  refine ct_cond rfl (fun h1 => ?_) (fun h1 => ?_)
  · simp only [decide_eq_true_eq, Int.ofNat_lt] at h1
    obtain ⟨b, o, cs, z, s, ro, rfl, hg, hw⟩ := hs.out (by intro e; rw [e] at h1; simp at h1)
    apply ct_skip
    apply ct_seq
    apply ct_block
    apply ct_seq
    apply ct_region
    apply seq_plain; exact do_indexAddrS rfl rfl rfl (by exact idx_nat (by omega)); exact rfl
    apply seq_plain; exact do_load rfl (by exact ext_get_old (by assumption) (by assumption)) rfl (by exact pt_sl (by assumption) (by omega)); exact rfl
    apply seq_newP; exact do_alloc rfl rfl; exact rfl
    apply seq_putC (hc := by assumption); rotate_left; exact do_store rfl rfl (by exact ext_get_new List.getElem?_concat_length) rfl rfl (nb_own _); rotate_left; exact (by simp)
    apply ct_seq
    apply ct_region
    apply seq_plain; exact do_fieldAddr rfl rfl; exact rfl
    apply seq_plain; exact do_load rfl (by exact ext_get_new getSetLast) rfl (by exact rfl); exact rfl
    apply seq_plain; exact do_fieldAddr rfl rfl; exact rfl
    apply seq_plain; exact do_load rfl (by exact ext_get_new getSetLast) rfl (by exact rfl); exact rfl
    apply seq_plain; exact do_build rfl rfl rfl rfl; exact rfl
    apply seq_newP; exact do_alloc rfl rfl; exact rfl
    apply seq_putC (hc := by assumption); rotate_left; exact do_store rfl rfl (by exact ext_get_new List.getElem?_concat_length) rfl rfl (nb_own _); rotate_left; exact (by simp)
    apply ct_draw (by assumption); decide +kernel
    apply sd_plain (hfree := rfl); intro _; exact do_move rfl; exact rfl
    apply sd_look (hfree := rfl); exact do_load rfl (by exact ext_get_new (getApp getSetLast)) rfl (by exact rfl); exact rfl
    apply sd_plain (hfree := rfl); intro _; exact do_move rfl; exact rfl
    apply sd_look (hfree := rfl); exact do_load rfl (by exact ext_get_new (getApp getSetLast)) rfl (by exact rfl); exact rfl
    apply sd_call (ht := rfl); exact turned138; exact rfl
    apply sd_put (hfree := rfl) (hser := by decide +kernel) (hc := by assumption); rotate_left; exact do_setAdd (ks := metK (l.take i)) (a := (l[i].home, l[i].away)) rfl rfl rfl (by exact ext_get_new rfl) rfl keyPr (nb_own _); rotate_left; exact Nat.le_of_ble_eq_true rfl
    apply sd_put (hfree := rfl) (hser := by decide +kernel) (hc := by assumption); rotate_left; exact do_setAdd (ks := addK (metK (l.take i)) (l[i].home, l[i].away)) (a := (l[i].away, l[i].home)) rfl rfl rfl (by exact ext_get_new rfl) rfl keyPr (nb_own _); rotate_left; exact Nat.le_of_ble_eq_true rfl
    apply sd_nil
    apply ct_region
    apply seq_plain; exact do_succ rfl (by omega); exact rfl
    apply seq_plain; exact do_move rfl; exact rfl
    apply seq_nil
    have e : metK (l.take (i + 1)) = addK (addK (metK (l.take i)) (l[i].home, l[i].away)) (l[i].away, l[i].home) := by
      rw [take_snoc h1, metK_snoc]
    have ih := fun R' => ih' (i + 1) R' (by omega) (by omega)
    rw [e] at ih
    exact lt_to (by repeat (first | exact sub_nil | apply sub_cons rfl)) (.refl _) (ih _)
  · simp only [decide_eq_false_iff_not, Int.ofNat_lt] at h1
    rw [take_all (by omega)]
    apply ct_exit
    apply exit_eq; exact rfl
    apply ct_seq
    apply ct_region
    apply seq_plain; exact do_move rfl; exact rfl
    apply seq_plain; exact do_builtin rfl (bi_lenSet rfl (by exact ext_get_new rfl)); exact rfl
    apply seq_plain; exact do_move rfl; exact rfl
    apply seq_plain; exact do_move rfl; exact rfl
    apply seq_plain; exact do_sub rfl rfl (by omega); exact rfl
    apply seq_plain; exact do_mul rfl rfl (by assumption); exact rfl
    apply seq_plain; exact do_binInt rfl rfl rfl trivial; exact rfl
    apply seq_call (ht := rfl); exact when85; exact rfl
    apply seq_plain; exact do_assign rfl; exact rfl
    apply seq_nil
    apply ct_ret
    refine fin_flat hc rfl rfl ⟨?_, rfl⟩
    rfl

/-- the two of them meet in the list -/
def metB (l : List Fx) (a b : Int) : Bool := l.any fun x => ((x.home == a) && (x.away == b)) || ((x.home == b) && (x.away == a))

theorem checkFixtures59_bad {H : AHeap} {n : Int} {q : Option Addr} {c : Nat} {l : List Fx} (hs : SlAt H 3 fx q l) (hn : l.length < 1000000000000) (hbad : chkL n l ≠ 0) :
    Ret Tryz.prog 59 [I n, .slice q l.length c] H (I (chkL n l)) H := by
  refine fn_start Tryz.func59 rfl rfl rfl fun hc => ?_
  apply ct_seq
  apply ct_region
  apply seq_plain; exact do_assign rfl; exact rfl
  apply seq_nil
  apply ct_seq
  apply ct_seq
  apply ct_region
  apply seq_plain; exact do_move rfl; exact rfl
  apply seq_plain; exact do_move rfl; exact rfl
  apply seq_call (ht := rfl); exact checkList57 (hs.ext (ext_Ext hc)) hn; exact rfl
  apply seq_plain; exact do_assign rfl; exact rfl
  apply seq_nil
  apply ct_seq
  apply ct_region
  apply seq_plain; exact do_move rfl; exact rfl
  apply seq_plain; exact do_binInt rfl rfl rfl trivial; exact rfl
  apply seq_nil
  refine ct_cond_t rfl (by simpa using hbad) ?_
  apply ct_seq
  apply ct_region
  apply seq_plain; exact do_move rfl; exact rfl
  apply seq_plain; exact do_assign rfl; exact rfl
  apply seq_nil
  apply ct_ret
  exact fin_flat hc rfl rfl ⟨rfl, rfl⟩

set_option maxHeartbeats 1000000 in
theorem checkFixtures59 {H : AHeap} {n : Nat} {q : Option Addr} {c : Nat} {l : List Fx} (hs : SlAt H 3 fx q l) (hn : l.length < 1000000000000) (hok : chkL n l = 0) :
    Ret Tryz.prog 59 [I n, .slice q l.length c] H (I (whenL (decide (¬ ∀ i, i < n → ∀ j, j < i → metB l (i : Nat) (j : Nat) = true)) 7)) H := by
  have hg0 := chk_good hok
  have hhi := hg0.hi
  refine fn_start Tryz.func59 rfl rfl rfl fun hc => ?_
  apply ct_seq
  apply ct_region
  apply seq_plain; exact do_assign rfl; exact rfl
  apply seq_nil
  apply ct_seq
  apply ct_seq
  apply ct_region
  apply seq_plain; exact do_move rfl; exact rfl
  apply seq_plain; exact do_move rfl; exact rfl
  apply seq_call (ht := rfl); exact checkList57 (hs.ext (ext_Ext hc)) hn; exact rfl
  apply seq_plain; exact do_assign rfl; exact rfl
  apply seq_nil
  apply ct_seq
  apply ct_region
  apply seq_plain; exact do_move rfl; exact rfl
  apply seq_plain; exact do_binInt rfl rfl rfl trivial; exact rfl
  apply seq_nil
  refine ct_cond_f rfl (by simp [hok]) ?_
  apply ct_skip
  apply ct_seq
  apply ct_seq
  apply ct_region
  apply seq_plain; exact do_assign rfl; exact rfl
  apply seq_nil
  apply ct_block
  apply ct_loop
  refine lt_up (fun i => [(0, I n), (1, .slice q l.length c), (6, I i)]) (fun i => ∀ i', i' < i → ∀ j, j < i' → metB l (i' : Nat) (j : Nat) = true) n (fun i hi hJ ih => ?_) 0 (by omega) (by intros; omega) (by repeat (first | exact sub_nil | apply sub_cons rfl))
  apply ct_seq
  apply ct_seq
  apply ct_region
  apply seq_plain; exact do_move rfl; exact rfl
  apply seq_plain; exact do_move rfl; exact rfl
  apply seq_plain; exact do_binInt rfl rfl rfl trivial; exact rfl
  apply seq_nil
  refine ct_cond rfl (fun h1 => ?_) (fun h1 => ?_)
  · simp only [decide_eq_true_eq, Int.ofNat_lt] at h1
    apply ct_skip
    apply ct_seq
    apply ct_block
    apply ct_seq
    apply ct_region
    apply seq_plain; exact do_assign rfl; exact rfl
    apply seq_nil
    apply ct_block
    apply ct_loop
    refine lt_up (fun j => [(0, I n), (1, .slice q l.length c), (6, I i), (7, I j)]) (fun j => ∀ j', j' < j → metB l (i : Nat) (j' : Nat) = true) i (fun j hj hJ2 ih2 => ?_) 0 (by omega) (by intros; omega) (by repeat (first | exact sub_nil | apply sub_cons rfl))
    apply ct_seq
    apply ct_seq
    apply ct_region
    apply seq_plain; exact do_move rfl; exact rfl
    apply seq_plain; exact do_move rfl; exact rfl
    apply seq_plain; exact do_binInt rfl rfl rfl trivial; exact rfl
    apply seq_nil
    refine ct_cond rfl (fun h2 => ?_) (fun h2 => ?_)
    · simp only [decide_eq_true_eq, Int.ofNat_lt] at h2
      apply ct_skip
      apply ct_seq
      apply ct_block
      apply ct_seq
      apply ct_region
      apply seq_plain; exact do_assign rfl; exact rfl
      apply seq_nil
      apply ct_seq
      apply ct_seq
      apply ct_region
      apply seq_plain; exact do_assign rfl; exact rfl
      apply seq_nil
      apply ct_block
      apply ct_loop
      refine lt_up (fun k => [(0, I n), (1, .slice q l.length c), (6, I i), (7, I j), (8, .bool (metB (l.take k) (i : Nat) (j : Nat))), (9, I k)]) (fun _ => True) l.length (fun k hk _ ih3 => ?_) 0 (by omega) trivial (by repeat (first | exact sub_nil | apply sub_cons rfl))
      apply ct_seq
      apply ct_seq
      apply ct_region
      apply seq_plain; exact do_move rfl; exact rfl
      apply seq_plain; exact do_move rfl; exact rfl
      apply seq_plain; exact do_lenS rfl rfl rfl; exact rfl
      apply seq_plain; exact do_binInt rfl rfl rfl trivial; exact rfl
      apply seq_nil
      refine ct_cond rfl (fun h3 => ?_) (fun h3 => ?_)
      · simp only [decide_eq_true_eq, Int.ofNat_lt] at h3
        obtain ⟨b, o, cs, z, s, ro, rfl, hg, hw⟩ := hs.out (by intro e; rw [e] at h3; simp at h3)
        have e1 : metB (l.take (k + 1)) (i : Nat) (j : Nat) = (metB (l.take k) (i : Nat) (j : Nat) || (((l[k].home == (i : Int)) && (l[k].away == (j : Int))) || ((l[k].home == (j : Int)) && (l[k].away == (i : Int))))) := by
          rw [take_snoc h3]
          simp only [metB, List.any_append, List.any_cons, List.any_nil, Bool.or_false]
        apply ct_skip
        apply ct_seq
        apply ct_block
        apply ct_region
        apply seq_plain; exact do_move rfl; exact rfl
        apply seq_plain; exact do_move rfl; exact rfl
        refine seq_J [(0, I n), (1, .slice (some ⟨b, o, none⟩) l.length c), (6, I i), (7, I j), (9, I k), (8, .bool (metB (l.take (k + 1)) (i : Nat) (j : Nat)))] (ds := []) (h := ext H H.fresh []) ?_ ?_
        · refine seq_gsplit rfl rfl (fun u0 => ?_) (fun u0 => ?_)
          · have u0 : metB (l.take k) (i : Nat) (j : Nat) = true := u0
            have e : metB (l.take (k + 1)) (i : Nat) (j : Nat) = true := by rw [e1]; simp [u0]
            rw [e]
            apply seq_passed (hd := rfl) (hl := rfl) (hb := rfl); exact rfl
            apply seq_passed (hd := rfl) (hl := rfl) (hb := rfl); exact rfl
            apply seq_passed (hd := rfl) (hl := rfl) (hb := rfl); exact rfl
            apply seq_passed (hd := rfl) (hl := rfl) (hb := rfl); exact rfl
            apply seq_passed (hd := rfl) (hl := rfl) (hb := rfl); exact rfl
            apply seq_passed (hd := rfl) (hl := rfl) (hb := rfl); exact rfl
            apply seq_passed (hd := rfl) (hl := rfl) (hb := rfl); exact rfl
            apply seq_passed (hd := rfl) (hl := rfl) (hb := rfl); exact rfl
            apply seq_passedU (hd := rfl) (hl := rfl); exact rfl
            apply seq_passedU (hd := rfl) (hl := rfl); exact rfl
            apply seq_passedU (hd := rfl) (hl := rfl); exact rfl
            apply seq_passedU (hd := rfl) (hl := rfl); exact rfl
            apply seq_passedU (hd := rfl) (hl := rfl); exact rfl
            apply seq_passedU (hd := rfl) (hl := rfl); exact rfl
            apply seq_passedU (hd := rfl) (hl := rfl); exact rfl
            apply seq_passed (hd := rfl) (hl := rfl) (hb := rfl); exact rfl
            apply seq_plain; exact do_pick_t rfl rfl; exact rfl
            apply seq_plain; exact do_move rfl; exact rfl
            apply seq_passed (hd := rfl) (hl := rfl) (hb := rfl); exact rfl
            apply seq_passed (hd := rfl) (hl := rfl) (hb := rfl); exact rfl
            apply seq_passed (hd := rfl) (hl := rfl) (hb := rfl); exact rfl
            apply seq_passed (hd := rfl) (hl := rfl) (hb := rfl); exact rfl
            apply seq_passed (hd := rfl) (hl := rfl) (hb := rfl); exact rfl
            apply seq_passed (hd := rfl) (hl := rfl) (hb := rfl); exact rfl
            apply seq_passed (hd := rfl) (hl := rfl) (hb := rfl); exact rfl
            apply seq_passed (hd := rfl) (hl := rfl) (hb := rfl); exact rfl
            apply seq_passedU (hd := rfl) (hl := rfl); exact rfl
            apply seq_passedU (hd := rfl) (hl := rfl); exact rfl
            apply seq_passedU (hd := rfl) (hl := rfl); exact rfl
            apply seq_passedU (hd := rfl) (hl := rfl); exact rfl
            apply seq_passedU (hd := rfl) (hl := rfl); exact rfl
            apply seq_passedU (hd := rfl) (hl := rfl); exact rfl
            apply seq_passedU (hd := rfl) (hl := rfl); exact rfl
            apply seq_passed (hd := rfl) (hl := rfl) (hb := rfl); exact rfl
            apply seq_plain; exact do_pick_t rfl rfl; exact rfl
            apply seq_plain; exact do_assign rfl; exact rfl
            apply seq_nil
            exact jp_of (by repeat (first | exact sub_nil | apply sub_cons rfl))
          · have u0 : metB (l.take k) (i : Nat) (j : Nat) = false := u0
            apply seq_guard (hd := rfl) (hl := rfl); exact do_move rfl; exact rfl
            apply seq_guard (hd := rfl) (hl := rfl); exact do_move rfl; exact rfl
            apply seq_guard (hd := rfl) (hl := rfl); exact do_indexAddrS rfl rfl rfl (by exact idx_nat (by omega)); exact rfl
            apply seq_guard (hd := rfl) (hl := rfl); exact do_fieldAddr rfl rfl; exact rfl
            apply seq_guard (hd := rfl) (hl := rfl); exact do_load rfl (by exact ext_get_old (by assumption) (by assumption)) rfl (by exact pt_sl1 (by assumption) (by omega) (Nat.le_of_ble_eq_true rfl) rfl); exact rfl
            apply seq_guard (hd := rfl) (hl := rfl); exact do_move rfl; exact rfl
            apply seq_guard (hd := rfl) (hl := rfl); exact do_binInt rfl rfl rfl trivial; exact rfl
            apply seq_guard (hd := rfl) (hl := rfl); exact do_move rfl; exact rfl
            refine seq_gsplit rfl rfl (fun u1 => ?_) (fun u1 => ?_)
            · have u1 : (l[k].home == ((i : Nat) : Int)) = true := u1
              apply seq_guard (hd := rfl) (hl := rfl); exact do_move rfl; exact rfl
              apply seq_guard (hd := rfl) (hl := rfl); exact do_move rfl; exact rfl
              apply seq_guard (hd := rfl) (hl := rfl); exact do_indexAddrS rfl rfl rfl (by exact idx_nat (by omega)); exact rfl
              apply seq_guard (hd := rfl) (hl := rfl); exact do_fieldAddr rfl rfl; exact rfl
              apply seq_guard (hd := rfl) (hl := rfl); exact do_load rfl (by exact ext_get_old (by assumption) (by assumption)) rfl (by exact pt_sl1 (by assumption) (by omega) (Nat.le_of_ble_eq_true rfl) rfl); exact rfl
              apply seq_guard (hd := rfl) (hl := rfl); exact do_move rfl; exact rfl
              apply seq_guard (hd := rfl) (hl := rfl); exact do_binInt rfl rfl rfl trivial; exact rfl
              apply seq_guard (hd := rfl) (hl := rfl); exact do_pick_t rfl rfl; exact rfl
              apply seq_plain; exact do_pick_f rfl rfl; exact rfl
              apply seq_plain; exact do_move rfl; exact rfl
              refine seq_gsplit rfl rfl (fun u3 => ?_) (fun u3 => ?_)
              · have u3 : (l[k].away == ((j : Nat) : Int)) = true := u3
                have e : metB (l.take (k + 1)) (i : Nat) (j : Nat) = true := by rw [e1]; simp [u0, u1, u3]
                rw [e]
                apply seq_passed (hd := rfl) (hl := rfl) (hb := rfl); exact rfl
                apply seq_passed (hd := rfl) (hl := rfl) (hb := rfl); exact rfl
                apply seq_passed (hd := rfl) (hl := rfl) (hb := rfl); exact rfl
                apply seq_passed (hd := rfl) (hl := rfl) (hb := rfl); exact rfl
                apply seq_passed (hd := rfl) (hl := rfl) (hb := rfl); exact rfl
                apply seq_passed (hd := rfl) (hl := rfl) (hb := rfl); exact rfl
                apply seq_passed (hd := rfl) (hl := rfl) (hb := rfl); exact rfl
                apply seq_passed (hd := rfl) (hl := rfl) (hb := rfl); exact rfl
                apply seq_passedU (hd := rfl) (hl := rfl); exact rfl
                apply seq_passedU (hd := rfl) (hl := rfl); exact rfl
                apply seq_passedU (hd := rfl) (hl := rfl); exact rfl
                apply seq_passedU (hd := rfl) (hl := rfl); exact rfl
                apply seq_passedU (hd := rfl) (hl := rfl); exact rfl
                apply seq_passedU (hd := rfl) (hl := rfl); exact rfl
                apply seq_passedU (hd := rfl) (hl := rfl); exact rfl
                apply seq_passed (hd := rfl) (hl := rfl) (hb := rfl); exact rfl
                apply seq_plain; exact do_pick_t rfl rfl; exact rfl
                apply seq_plain; exact do_assign rfl; exact rfl
                apply seq_nil
                exact jp_of (by repeat (first | exact sub_nil | apply sub_cons rfl))
              · have u3 : (l[k].away == ((j : Nat) : Int)) = false := u3
                apply seq_guard (hd := rfl) (hl := rfl); exact do_move rfl; exact rfl
                apply seq_guard (hd := rfl) (hl := rfl); exact do_move rfl; exact rfl
                apply seq_guard (hd := rfl) (hl := rfl); exact do_indexAddrS rfl rfl rfl (by exact idx_nat (by omega)); exact rfl
                apply seq_guard (hd := rfl) (hl := rfl); exact do_fieldAddr rfl rfl; exact rfl
                apply seq_guard (hd := rfl) (hl := rfl); exact do_load rfl (by exact ext_get_old (by assumption) (by assumption)) rfl (by exact pt_sl1 (by assumption) (by omega) (Nat.le_of_ble_eq_true rfl) rfl); exact rfl
                apply seq_guard (hd := rfl) (hl := rfl); exact do_move rfl; exact rfl
                apply seq_guard (hd := rfl) (hl := rfl); exact do_binInt rfl rfl rfl trivial; exact rfl
                apply seq_guard (hd := rfl) (hl := rfl); exact do_move rfl; exact rfl
                refine seq_gsplit rfl rfl (fun u2 => ?_) (fun u2 => ?_)
                · have u2 : (l[k].home == ((j : Nat) : Int)) = true := u2
                  have e : metB (l.take (k + 1)) (i : Nat) (j : Nat) = (l[k].away == ((i : Nat) : Int)) := by rw [e1]; simp [u0, u1, u3, u2]
                  rw [e]
                  apply seq_guard (hd := rfl) (hl := rfl); exact do_move rfl; exact rfl
                  apply seq_guard (hd := rfl) (hl := rfl); exact do_move rfl; exact rfl
                  apply seq_guard (hd := rfl) (hl := rfl); exact do_indexAddrS rfl rfl rfl (by exact idx_nat (by omega)); exact rfl
                  apply seq_guard (hd := rfl) (hl := rfl); exact do_fieldAddr rfl rfl; exact rfl
                  apply seq_guard (hd := rfl) (hl := rfl); exact do_load rfl (by exact ext_get_old (by assumption) (by assumption)) rfl (by exact pt_sl1 (by assumption) (by omega) (Nat.le_of_ble_eq_true rfl) rfl); exact rfl
                  apply seq_guard (hd := rfl) (hl := rfl); exact do_move rfl; exact rfl
                  apply seq_guard (hd := rfl) (hl := rfl); exact do_binInt rfl rfl rfl trivial; exact rfl
                  apply seq_guard (hd := rfl) (hl := rfl); exact do_pick_t rfl rfl; exact rfl
                  apply seq_plain; exact do_pick_f rfl rfl; exact rfl
                  apply seq_plain; exact do_assign rfl; exact rfl
                  apply seq_nil
                  exact jp_of (by repeat (first | exact sub_nil | apply sub_cons rfl))
                · have u2 : (l[k].home == ((j : Nat) : Int)) = false := u2
                  have e : metB (l.take (k + 1)) (i : Nat) (j : Nat) = false := by rw [e1]; simp [u0, u1, u3, u2]
                  rw [e]
                  apply seq_passed (hd := rfl) (hl := rfl) (hb := rfl); exact rfl
                  apply seq_passed (hd := rfl) (hl := rfl) (hb := rfl); exact rfl
                  apply seq_passed (hd := rfl) (hl := rfl) (hb := rfl); exact rfl
                  apply seq_passed (hd := rfl) (hl := rfl) (hb := rfl); exact rfl
                  apply seq_passed (hd := rfl) (hl := rfl) (hb := rfl); exact rfl
                  apply seq_passed (hd := rfl) (hl := rfl) (hb := rfl); exact rfl
                  apply seq_passed (hd := rfl) (hl := rfl) (hb := rfl); exact rfl
                  apply seq_guard (hd := rfl) (hl := rfl); exact do_pick_f rfl rfl; exact rfl
                  apply seq_plain; exact do_pick_f rfl rfl; exact rfl
                  apply seq_plain; exact do_assign rfl; exact rfl
                  apply seq_nil
                  exact jp_of (by repeat (first | exact sub_nil | apply sub_cons rfl))
            · have u1 : (l[k].home == ((i : Nat) : Int)) = false := u1
              apply seq_passed (hd := rfl) (hl := rfl) (hb := rfl); exact rfl
              apply seq_passed (hd := rfl) (hl := rfl) (hb := rfl); exact rfl
              apply seq_passed (hd := rfl) (hl := rfl) (hb := rfl); exact rfl
              apply seq_passed (hd := rfl) (hl := rfl) (hb := rfl); exact rfl
              apply seq_passed (hd := rfl) (hl := rfl) (hb := rfl); exact rfl
              apply seq_passed (hd := rfl) (hl := rfl) (hb := rfl); exact rfl
              apply seq_passed (hd := rfl) (hl := rfl) (hb := rfl); exact rfl
              apply seq_guard (hd := rfl) (hl := rfl); exact do_pick_f rfl rfl; exact rfl
              apply seq_plain; exact do_pick_f rfl rfl; exact rfl
              apply seq_plain; exact do_move rfl; exact rfl
              apply seq_guard (hd := rfl) (hl := rfl); exact do_move rfl; exact rfl
              apply seq_guard (hd := rfl) (hl := rfl); exact do_move rfl; exact rfl
              apply seq_guard (hd := rfl) (hl := rfl); exact do_indexAddrS rfl rfl rfl (by exact idx_nat (by omega)); exact rfl
              apply seq_guard (hd := rfl) (hl := rfl); exact do_fieldAddr rfl rfl; exact rfl
              apply seq_guard (hd := rfl) (hl := rfl); exact do_load rfl (by exact ext_get_old (by assumption) (by assumption)) rfl (by exact pt_sl1 (by assumption) (by omega) (Nat.le_of_ble_eq_true rfl) rfl); exact rfl
              apply seq_guard (hd := rfl) (hl := rfl); exact do_move rfl; exact rfl
              apply seq_guard (hd := rfl) (hl := rfl); exact do_binInt rfl rfl rfl trivial; exact rfl
              apply seq_guard (hd := rfl) (hl := rfl); exact do_move rfl; exact rfl
              refine seq_gsplit rfl rfl (fun u2 => ?_) (fun u2 => ?_)
              · have u2 : (l[k].home == ((j : Nat) : Int)) = true := u2
                have e : metB (l.take (k + 1)) (i : Nat) (j : Nat) = (l[k].away == ((i : Nat) : Int)) := by rw [e1]; simp [u0, u1, u2]
                rw [e]
                apply seq_guard (hd := rfl) (hl := rfl); exact do_move rfl; exact rfl
                apply seq_guard (hd := rfl) (hl := rfl); exact do_move rfl; exact rfl
                apply seq_guard (hd := rfl) (hl := rfl); exact do_indexAddrS rfl rfl rfl (by exact idx_nat (by omega)); exact rfl
                apply seq_guard (hd := rfl) (hl := rfl); exact do_fieldAddr rfl rfl; exact rfl
                apply seq_guard (hd := rfl) (hl := rfl); exact do_load rfl (by exact ext_get_old (by assumption) (by assumption)) rfl (by exact pt_sl1 (by assumption) (by omega) (Nat.le_of_ble_eq_true rfl) rfl); exact rfl
                apply seq_guard (hd := rfl) (hl := rfl); exact do_move rfl; exact rfl
                apply seq_guard (hd := rfl) (hl := rfl); exact do_binInt rfl rfl rfl trivial; exact rfl
                apply seq_guard (hd := rfl) (hl := rfl); exact do_pick_t rfl rfl; exact rfl
                apply seq_plain; exact do_pick_f rfl rfl; exact rfl
                apply seq_plain; exact do_assign rfl; exact rfl
                apply seq_nil
                exact jp_of (by repeat (first | exact sub_nil | apply sub_cons rfl))
              · have u2 : (l[k].home == ((j : Nat) : Int)) = false := u2
                have e : metB (l.take (k + 1)) (i : Nat) (j : Nat) = false := by rw [e1]; simp [u0, u1, u2]
                rw [e]
                apply seq_passed (hd := rfl) (hl := rfl) (hb := rfl); exact rfl
                apply seq_passed (hd := rfl) (hl := rfl) (hb := rfl); exact rfl
                apply seq_passed (hd := rfl) (hl := rfl) (hb := rfl); exact rfl
                apply seq_passed (hd := rfl) (hl := rfl) (hb := rfl); exact rfl
                apply seq_passed (hd := rfl) (hl := rfl) (hb := rfl); exact rfl
                apply seq_passed (hd := rfl) (hl := rfl) (hb := rfl); exact rfl
                apply seq_passed (hd := rfl) (hl := rfl) (hb := rfl); exact rfl
                apply seq_guard (hd := rfl) (hl := rfl); exact do_pick_f rfl rfl; exact rfl
                apply seq_plain; exact do_pick_f rfl rfl; exact rfl
                apply seq_plain; exact do_assign rfl; exact rfl
                apply seq_nil
                exact jp_of (by repeat (first | exact sub_nil | apply sub_cons rfl))
        apply ct_region
        apply seq_plain; exact do_move rfl; exact rfl
        apply seq_plain; exact do_succ rfl (by omega); exact rfl
        apply seq_plain; exact do_assign rfl; exact rfl
        apply seq_nil
        refine lt_sub ?_ (ih3 (k + 1) (by omega) (by omega) trivial)
        (repeat (first | exact sub_nil | apply sub_cons rfl))
      · simp only [decide_eq_false_iff_not, Int.ofNat_lt] at h3
        apply ct_exit
        apply exit_eq; exact rfl
        apply ct_seq
        apply ct_region
        apply seq_plain; exact do_move rfl; exact rfl
        apply seq_plain; exact do_unOp rfl rfl; exact rfl
        apply seq_nil
        refine ct_cond rfl (fun h4 => ?_) (fun h4 => ?_)
        · have h4 : metB l (i : Nat) (j : Nat) = false := by
            have h4 : (!metB (l.take k) (i : Nat) (j : Nat)) = true := h4
            rw [take_all (by omega)] at h4
            simpa using h4
          apply ct_seq
          apply ct_region
          apply seq_plain; exact do_assign rfl; exact rfl
          apply seq_nil
          apply ct_ret
          refine fin_flat hc rfl rfl ⟨?_, rfl⟩
          have : ¬ ∀ i, i < n → ∀ j, j < i → metB l (i : Nat) (j : Nat) = true := fun hh => by
            have := hh i h1 j h2
            rw [h4] at this
            cases this
          simp only [packA, whenL]
          rw [if_pos (by simpa using this)]
        · have h4 : metB l (i : Nat) (j : Nat) = true := by
            have h4 : (!metB (l.take k) (i : Nat) (j : Nat)) = false := h4
            rw [take_all (by omega)] at h4
            simpa using h4
          apply ct_skip
          apply ct_region
          apply seq_plain; exact do_move rfl; exact rfl
          apply seq_plain; exact do_succ rfl (by omega); exact rfl
          apply seq_plain; exact do_assign rfl; exact rfl
          apply seq_nil
          refine lt_sub ?_ (ih2 (j + 1) (by omega) (by omega) fun j' hj' => ?_)
          · (repeat (first | exact sub_nil | apply sub_cons rfl))
          · rcases Nat.lt_or_ge j' j with h | h
            · exact hJ2 j' h
            · have : j' = j := by omega
              subst this; exact h4
    · simp only [decide_eq_false_iff_not, Int.ofNat_lt] at h2
      apply ct_exit
      apply exit_eq; exact rfl
      apply ct_region
      apply seq_plain; exact do_move rfl; exact rfl
      apply seq_plain; exact do_succ rfl (by omega); exact rfl
      apply seq_plain; exact do_assign rfl; exact rfl
      apply seq_nil
      refine lt_sub ?_ (ih (i + 1) (by omega) (by omega) fun i' hi' => ?_)
      · (repeat (first | exact sub_nil | apply sub_cons rfl))
      · rcases Nat.lt_or_ge i' i with h | h
        · exact hJ i' h
        · have : i' = i := by omega
          subst this; exact fun j' hj' => hJ2 j' (by omega)
  · simp only [decide_eq_false_iff_not, Int.ofNat_lt] at h1
    apply ct_exit
    apply exit_eq; exact rfl
    apply ct_seq
    apply ct_region
    apply seq_plain; exact do_assign rfl; exact rfl
    apply seq_nil
    apply ct_ret
    refine fin_flat hc rfl rfl ⟨?_, rfl⟩
    have : ∀ i, i < n → ∀ j, j < i → metB l (i : Nat) (j : Nat) = true := fun i' hi' => hJ i' (by omega)
    simp only [packA, whenL]
    rw [if_neg (by simpa using this)]
