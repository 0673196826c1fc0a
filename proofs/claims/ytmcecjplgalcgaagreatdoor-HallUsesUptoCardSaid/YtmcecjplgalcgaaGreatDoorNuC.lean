/- Small numbers of the package num: DivMod. -/
import Derived.Test.YtmcecjplgalcgaaGreatDoorNuA
noncomputable section
namespace Go.Den
theorem fin_cell2G {P : Program} [PC P] {H : AHeap} {Q : Value → AHeap → Prop} {rs : Array ResultVar} {l : EL} {L : List (Option ABlk)} {lo a t a' t' j k n n' z z' : Nat} {ag ag' s s' ro ro' : Bool} {cs cs' : List Value} {x y : Value} (hc : Closed H) (hr : rs.toList = [.cell a t, .cell a' t'])
  (ha : lk l a = some (.pointer (some ⟨nb H j, 0, none⟩))) (ha' : lk l a' = some (.pointer (some ⟨nb H k, 0, none⟩))) (ht : szOf P t = some (n, ag)) (ht' : szOf P t' = some (n', ag')) (hj : L[j]? = some (some (.cells cs z s ro))) (hk : L[k]? = some (some (.cells cs' z' s' ro')))
  (hp : pt ag n cs 0 = some x) (hp' : pt ag' n' cs' 0 = some y) (hv : flatD 8 (packA [x, y]) = true) (hq : Q (packA [x, y]) H) : Fin P rs H Q ⟨ofA l, [], ext H lo L⟩ := by
 refine ⟨⟨ext H lo L, [x, y], packA [x, y], H, rfl, ?_, tidy_flat hc (fun _ _ h => ext_get_old hc h) hv, hq⟩⟩
 simp only [hr, resultsA, evalA, ofA_get, ha, ha', load_cellC (ext_get_new hj) ht hp, load_cellC (ext_get_new hk) ht' hp']
end Go.Den
namespace Go.Proofs.YtmcecjplgalcgaaGreatDoor
open Go Go.Den
set_option maxRecDepth 100000
theorem do_quoI {P : Program} {l : EL} {h : AHeap} {x y : Operand} {t t' : TypeId} {a b : Int} (hx : ev l x = some (.int .i64 a)) (hy : ev l y = some (.int .i64 b)) (h1 : -9223372036854775808 < a) (h2 : a ≤ 9223372036854775807) (hb : 0 < b) : Does P l (.binOp .quo t x y t') h (.int .i64 (a.tdiv b)) h := by
 refine do_binInt hx hy ?_ trivial
 simp only [intBin]
 rw [if_neg (by omega), wrapI, wrap_i64]
 have h3 : (a.tdiv b).natAbs ≤ a.natAbs := by rw [Int.natAbs_tdiv]; exact Nat.div_le_self _ _
 generalize a.tdiv b = z at h3
 omega
set_option maxHeartbeats 4000000 in
theorem divMod_c {H : AHeap} {a b : Int} (h1 : -9223372036854775808 < a) (h2 : a ≤ 9223372036854775807) (hb : 0 < b) (hb2 : b ≤ 9223372036854775807) : Ret Tryz.prog 195 [.agg ⟨nI a⟩, .agg ⟨nI b⟩] H (.tuple ⟨[.agg ⟨nI (a / b)⟩, .agg ⟨nI (a % b)⟩]⟩) H := by
 refine fn_start Tryz.func195 rfl rfl rfl fun hc => ?_
 apply ct_seq
 apply ct_region
 iterate 2 (apply seq_newP; exact do_box rfl rfl rfl; exact rfl)
 iterate 2 (apply seq_newP; exact do_alloc rfl rfl; exact rfl)
 apply seq_nil
 iterate 2 (apply ct_seq)
 apply ct_region
 apply seq_plain; exact do_fieldAddr rfl rfl; exact rfl
 apply seq_plain; exact do_load rfl (by exact ext_get_new rfl) rfl (by exact rfl); exact rfl
 apply seq_plain; exact do_eqlNilS rfl rfl rfl; exact rfl
 apply seq_plain; exact do_move rfl; exact rfl
 apply seq_guard (hd := rfl) (hl := rfl); exact do_fieldAddr rfl rfl; exact rfl
 apply seq_guard (hd := rfl) (hl := rfl); exact do_load rfl (by exact ext_get_new rfl) rfl (by exact rfl); exact rfl
 apply seq_guard (hd := rfl) (hl := rfl); exact do_eqlNilS rfl rfl rfl; exact rfl
 apply seq_plain; exact do_pick_t rfl rfl; exact rfl
 apply seq_plain; exact do_move rfl; exact rfl
 apply seq_guard (hd := rfl) (hl := rfl); exact do_fieldAddr rfl rfl; exact rfl
 apply seq_guard (hd := rfl) (hl := rfl); exact do_load rfl (by exact ext_get_new rfl) rfl (by exact rfl); exact rfl
 apply seq_guard (hd := rfl) (hl := rfl); exact do_binInt rfl rfl rfl trivial; exact rfl
 apply seq_plain; exact do_pick_t rfl rfl; exact rfl
 apply seq_nil
 refine ct_cond_t rfl ?_ ?_
 ·show (a != -9223372036854775808) = true
  simp; omega
 apply ct_seq
 apply ct_draw (by assumption); decide +kernel
 apply sd_plain (hfree := rfl); intro _; exact do_fieldAddr rfl rfl; exact rfl
 apply sd_look (hfree := rfl); exact do_load rfl (by exact ext_get_new rfl) rfl (by exact rfl); exact rfl
 apply sd_plain (hfree := rfl); intro _; exact do_fieldAddr rfl rfl; exact rfl
 apply sd_look (hfree := rfl); exact do_load rfl (by exact ext_get_new rfl) rfl (by exact rfl); exact rfl
 apply sd_plain (hfree := rfl); intro _; exact do_quoI rfl rfl (by assumption) (by assumption) (by assumption); exact rfl
 apply sd_plain (hfree := rfl); intro _; exact do_fieldAddr rfl rfl; exact rfl
 apply sd_look (hfree := rfl); exact do_load rfl (by exact ext_get_new rfl) rfl (by exact rfl); exact rfl
 apply sd_plain (hfree := rfl); intro _; exact do_fieldAddr rfl rfl; exact rfl
 apply sd_look (hfree := rfl); exact do_load rfl (by exact ext_get_new rfl) rfl (by exact rfl); exact rfl
 apply sd_plain (hfree := rfl); intro _; exact do_rem rfl rfl (by omega); exact rfl
 iterate 2 (apply sd_plain (hfree := rfl); intro _; exact do_assign rfl; exact rfl)
 apply sd_nil
 iterate 2 (apply ct_seq)
 apply ct_region
 apply seq_plain; exact do_move rfl; exact rfl
 apply seq_plain; exact do_binInt rfl rfl rfl trivial; exact rfl
 apply seq_nil
 have hd := Int.mul_tdiv_add_tmod a b
 have hm : (a.tmod b).natAbs < b.natAbs := by rw [Int.natAbs_tmod]; exact Nat.mod_lt _ (by omega)
 refine ct_cond rfl (fun h => ?_) (fun h => ?_)
 ·have h : a.tmod b < 0 := by simpa using h
  have e := (Int.ediv_emod_unique hb (a := a) (r := a.tmod b + b) (q := a.tdiv b - 1)).2 ⟨by rw [Int.mul_sub]; omega, by omega, by omega⟩
  rw [e.1, e.2]
  have hq : (a.tdiv b).natAbs ≤ a.natAbs := by rw [Int.natAbs_tdiv]; exact Nat.div_le_self _ _
  have hq2 : -9223372036854775808 < a.tdiv b := by omega
  clear hd e
  apply ct_draw (by assumption); decide +kernel
  apply sd_plain (hfree := rfl); intro _; exact do_move rfl; exact rfl
  apply sd_plain (hfree := rfl); intro _; exact do_sub rfl rfl (by omega); exact rfl
  apply sd_plain (hfree := rfl); intro _; exact do_move rfl; exact rfl
  apply sd_plain (hfree := rfl); intro _; exact do_fieldAddr rfl rfl; exact rfl
  apply sd_look (hfree := rfl); exact do_load rfl (by exact ext_get_new rfl) rfl (by exact rfl); exact rfl
  apply sd_plain (hfree := rfl); intro _; exact do_add rfl rfl (by omega); exact rfl
  iterate 2 (apply sd_plain (hfree := rfl); intro _; exact do_assign rfl; exact rfl)
  apply sd_nil
  apply ct_seq
  apply ct_region
  apply seq_plain; exact do_move rfl; exact rfl
  apply seq_plain; exact do_build rfl rfl rfl rfl; exact rfl
  apply seq_plain; exact do_move rfl; exact rfl
  apply seq_plain; exact do_build rfl rfl rfl rfl; exact rfl
  apply seq_put (hc := by assumption); rotate_left; exact do_store rfl rfl (by exact ext_get_new rfl) rfl rfl (nb_own _); rotate_left; exact Nat.le_of_ble_eq_true rfl
  apply seq_putC (hc := by assumption); rotate_left; exact do_store rfl rfl (by exact ext_get_new rfl) rfl rfl (nb_own _); rotate_left; exact Nat.le_of_ble_eq_true rfl
  apply ct_ret
  exact fin_cell2G hc rfl rfl rfl rfl rfl rfl rfl rfl rfl rfl ⟨rfl, rfl⟩
 ·have h : ¬ a.tmod b < 0 := by simpa using h
  have e := (Int.ediv_emod_unique hb (a := a) (r := a.tmod b) (q := a.tdiv b)).2 ⟨by omega, by omega, by omega⟩
  rw [e.1, e.2]
  apply ct_skip
  apply ct_seq
  apply ct_region
  apply seq_plain; exact do_move rfl; exact rfl
  apply seq_plain; exact do_build rfl rfl rfl rfl; exact rfl
  apply seq_plain; exact do_move rfl; exact rfl
  apply seq_plain; exact do_build rfl rfl rfl rfl; exact rfl
  apply seq_put (hc := by assumption); rotate_left; exact do_store rfl rfl (by exact ext_get_new rfl) rfl rfl (nb_own _); rotate_left; exact Nat.le_of_ble_eq_true rfl
  apply seq_putC (hc := by assumption); rotate_left; exact do_store rfl rfl (by exact ext_get_new rfl) rfl rfl (nb_own _); rotate_left; exact Nat.le_of_ble_eq_true rfl
  apply ct_ret
  exact fin_cell2G hc rfl rfl rfl rfl rfl rfl rfl rfl rfl rfl ⟨rfl, rfl⟩
end Go.Proofs.YtmcecjplgalcgaaGreatDoor
/- Small numbers of the package num: Quo. -/
noncomputable section
namespace Go.Proofs.YtmcecjplgalcgaaGreatDoor
open Go Go.Den
set_option maxRecDepth 100000
set_option maxHeartbeats 4000000 in
theorem quo_c {H : AHeap} {a b : Int} (h1 : -9223372036854775808 < a) (h2 : a ≤ 9223372036854775807) (hb : 0 < b) (hb2 : b ≤ 9223372036854775807) : Ret Tryz.prog 146 [.agg ⟨nI a⟩, .agg ⟨nI b⟩] H (.agg ⟨nI (a / b)⟩) H := by
 refine fn_start Tryz.func146 rfl rfl rfl fun hc => ?_
 apply ct_seq
 apply ct_region
 iterate 2 (apply seq_newP; exact do_box rfl rfl rfl; exact rfl)
 apply seq_newP; exact do_alloc rfl rfl; exact rfl
 apply seq_nil
 iterate 2 (apply ct_seq)
 apply ct_region
 apply seq_plain; exact do_load rfl (by exact ext_get_new rfl) rfl (by exact rfl); exact rfl
 apply seq_call (ht := rfl); exact sign_c; exact rfl
 apply seq_plain; exact do_binInt rfl rfl rfl trivial; exact rfl
 apply seq_nil
 refine ct_cond_f rfl ?_ ?_
 ·show decide (max (-1) (min 1 b) < 0) = false
  simp; omega
 apply ct_skip
 apply ct_seq
 apply ct_region
 iterate 2 (apply seq_plain; exact do_load rfl (by exact ext_get_new rfl) rfl (by exact rfl); exact rfl)
 apply seq_call (ht := rfl); exact divMod_c (by assumption) (by assumption) (by assumption) (by assumption); exact rfl
 apply seq_plain; exact do_move rfl; exact rfl
 iterate 2 (apply seq_plain; exact do_extract rfl rfl; exact rfl)
 iterate 2 (apply seq_newP; exact do_alloc rfl rfl; exact rfl)
 apply seq_put (hc := by assumption); rotate_left; exact do_store rfl rfl (by exact ext_get_new rfl) rfl rfl (nb_own _); rotate_left; exact Nat.le_of_ble_eq_true rfl
 apply seq_putC (hc := by assumption); rotate_left; exact do_store rfl rfl (by exact ext_get_new rfl) rfl rfl (nb_own _); rotate_left; exact Nat.le_of_ble_eq_true rfl
 apply ct_seq
 apply ct_region
 apply seq_plain; exact do_load rfl (by exact ext_get_new rfl) rfl (by exact rfl); exact rfl
 apply seq_putC (hc := by assumption); rotate_left; exact do_store rfl rfl (by exact ext_get_new rfl) rfl rfl (nb_own _); rotate_left; exact Nat.le_of_ble_eq_true rfl
 apply ct_ret
 refine fin_cell hc rfl rfl (by exact ext_get_new rfl) (by exact rfl) (by exact rfl) (by exact rfl) (by exact ⟨rfl, rfl⟩)
end Go.Proofs.YtmcecjplgalcgaaGreatDoor
