/- The reference's numbers: the digit of a quotient of equal numbers is guessed. -/
import Derived.Test.YtmcecjplgalcgaaGreatDoorQaQ
noncomputable section
namespace Go.Proofs.YtmcecjplgalcgaaGreatDoor
open Go Go.Den
set_option maxRecDepth 100000
set_option maxHeartbeats 8000000 in
theorem guess2_c {H : AHeap} {pu pv : Option Addr} {c e : Nat} {v0 v1 : Int} (hu : SlAt H 1 i1 pu [v0, v1, 0]) (hv : SlAt H 1 i1 pv [v0, v1]) (a0 : 0 ≤ v0) (a1 : v0 < 1000000000) (b0 : 1 ≤ v1) (b1 : v1 < 1000000000) :
  Ret Tryz.prog 150 [.slice pu 3 c, .slice pv 2 e, I 0] H (I 1) H := by
 refine fn_start Tryz.func150 rfl rfl rfl fun hc => ?_
 obtain ⟨b2, o2, cs2, z2, s2, ro2, rfl, hg2, hw2⟩ := hu.out (by simp)
 obtain ⟨b3, o3, cs3, z3, s3, ro3, rfl, hg3, hw3⟩ := hv.out (by simp)
 have U0 : pt false 1 cs2 (o2 + 0 * 1) = some (I v0) := pt_sl0 (n := 1) (g := I) (i := 0) hw2 (by simp)
 have U1 : pt false 1 cs2 (o2 + 1 * 1) = some (I v1) := pt_sl0 (n := 1) (g := I) (i := 1) hw2 (by simp)
 have U2 : pt false 1 cs2 (o2 + 2 * 1) = some (I 0) := pt_sl0 (n := 1) (g := I) (i := 2) hw2 (by simp)
 have V0 : pt false 1 cs3 (o3 + 0 * 1) = some (I v0) := pt_sl0 (n := 1) (g := I) (i := 0) hw3 (by simp)
 have V1 : pt false 1 cs3 (o3 + 1 * 1) = some (I v1) := pt_sl0 (n := 1) (g := I) (i := 1) hw3 (by simp)
 have eT : wrapI IntKind.i64 (IntKind.i64.wrap (0 * 1000000000) + v1) = I v1 := by
  rw [wrap_i64 (n := 0 * 1000000000) (by omega), wrapI, wrap_i64 (by omega)]
  rw [Int.zero_mul, Int.zero_add]
 have n1 : -9223372036854775808 < v1 := by omega
 have n2 : v1 ≤ 9223372036854775807 := by omega
 have n3 : 0 < v1 := by omega
 have eq1 : v1.tdiv v1 = 1 := Int.tdiv_self (by omega)
 have er1 : v1.tmod v1 = 0 := Int.tmod_self
 have m1 : -9223372036854775808 ≤ 1 * v0 ∧ 1 * v0 ≤ 9223372036854775807 := by omega
 apply ct_seq
 apply ct_region
 apply seq_plain; exact do_assign rfl; exact rfl
 apply seq_nil
 apply ct_seq
 apply ct_region
 apply seq_plain; exact do_move rfl; exact rfl
 apply seq_plain; exact do_lenS rfl rfl rfl; exact rfl
 apply seq_plain; exact do_assign rfl; exact rfl
 apply seq_nil
 apply ct_seq
 apply ct_draw (by assumption); decide +kernel
 iterate 3 (apply sd_plain (hfree := rfl); intro _; exact do_move rfl; exact rfl)
 apply sd_plain (hfree := rfl); intro _; exact do_add rfl rfl (by omega); exact rfl
 apply sd_plain (hfree := rfl); intro _; exact do_indexAddrS rfl rfl rfl (by exact rfl); exact rfl
 apply sd_look (hfree := rfl); exact do_load rfl (by exact ext_get_old (by assumption) (by assumption)) rfl (by exact (by assumption)); exact rfl
 apply sd_plain (hfree := rfl); intro _; exact do_binInt rfl rfl rfl trivial; exact rfl
 iterate 3 (apply sd_plain (hfree := rfl); intro _; exact do_move rfl; exact rfl)
 apply sd_plain (hfree := rfl); intro _; exact do_add rfl rfl (by omega); exact rfl
 apply sd_plain (hfree := rfl); intro _; exact do_predB rfl (by omega); exact rfl
 apply sd_plain (hfree := rfl); intro _; exact do_indexAddrS rfl rfl rfl (by exact rfl); exact rfl
 apply sd_look (hfree := rfl); exact do_load rfl (by exact ext_get_old (by assumption) (by assumption)) rfl (by exact (by assumption)); exact rfl
 apply sd_plain (hfree := rfl); intro _; exact do_binInt rfl rfl rfl trivial; exact rfl
 apply sd_plain (hfree := rfl); intro _; exact do_assign rfl; exact rfl
 apply sd_nil
 apply ct_seq
 apply ct_draw (by assumption); decide +kernel
 iterate 3 (apply sd_plain (hfree := rfl); intro _; exact do_move rfl; exact rfl)
 apply sd_plain (hfree := rfl); intro _; exact do_predB rfl (by omega); exact rfl
 apply sd_plain (hfree := rfl); intro _; exact do_indexAddrS rfl rfl rfl (by exact rfl); exact rfl
 apply sd_look (hfree := rfl); exact do_load rfl (by exact ext_get_old (by assumption) (by assumption)) rfl (by exact (by assumption)); exact rfl
 rw [eT]
 apply sd_plain (hfree := rfl); intro _; exact do_quoI rfl rfl (by assumption) (by assumption) (by assumption); exact rfl
 iterate 3 (apply sd_plain (hfree := rfl); intro _; exact do_move rfl; exact rfl)
 apply sd_plain (hfree := rfl); intro _; exact do_predB rfl (by omega); exact rfl
 apply sd_plain (hfree := rfl); intro _; exact do_indexAddrS rfl rfl rfl (by exact rfl); exact rfl
 apply sd_look (hfree := rfl); exact do_load rfl (by exact ext_get_old (by assumption) (by assumption)) rfl (by exact (by assumption)); exact rfl
 apply sd_plain (hfree := rfl); intro _; exact do_rem rfl rfl (by omega); exact rfl
 iterate 2 (apply sd_plain (hfree := rfl); intro _; exact do_assign rfl; exact rfl)
 apply sd_nil
 apply ct_seq
 apply ct_block
 apply ct_loop
 rw [eq1]
 skip
 rw [er1]
 apply lt_step
 iterate 2 (apply ct_seq)
 apply ct_draw (by assumption); decide +kernel
 apply sd_plain (hfree := rfl); intro _; exact do_move rfl; exact rfl
 apply sd_plain (hfree := rfl); intro _; exact do_binInt rfl rfl rfl trivial; exact rfl
 apply sd_plain (hfree := rfl); intro _; exact do_move rfl; exact rfl
 iterate 3 (apply sd_guard (hfree := rfl) (hg := rfl) (hl := rfl); intro _; exact do_move rfl; exact rfl)
 apply sd_guard (hfree := rfl) (hg := rfl) (hl := rfl); intro _; exact do_sub rfl rfl (by omega); exact rfl
 apply sd_guard (hfree := rfl) (hg := rfl) (hl := rfl); intro _; exact do_indexAddrS rfl rfl rfl (by exact rfl); exact rfl
 apply sd_guardL (hfree := rfl) (hg := rfl) (hl := rfl); exact do_load rfl (by exact ext_get_old (by assumption) (by assumption)) rfl (by exact (by assumption)); exact rfl
 apply sd_guard (hfree := rfl) (hg := rfl) (hl := rfl); intro _; exact do_mul rfl rfl (by assumption); exact rfl
 apply sd_guard (hfree := rfl) (hg := rfl) (hl := rfl); intro _; exact do_move rfl; exact rfl
 apply sd_guard (hfree := rfl) (hg := rfl) (hl := rfl); intro _; exact do_binInt rfl rfl rfl trivial; exact rfl
 iterate 3 (apply sd_guard (hfree := rfl) (hg := rfl) (hl := rfl); intro _; exact do_move rfl; exact rfl)
 apply sd_guard (hfree := rfl) (hg := rfl) (hl := rfl); intro _; exact do_add rfl rfl (by omega); exact rfl
 apply sd_guard (hfree := rfl) (hg := rfl) (hl := rfl); intro _; exact do_sub rfl rfl (by omega); exact rfl
 apply sd_guard (hfree := rfl) (hg := rfl) (hl := rfl); intro _; exact do_indexAddrS rfl rfl rfl (by exact rfl); exact rfl
 apply sd_guardL (hfree := rfl) (hg := rfl) (hl := rfl); exact do_load rfl (by exact ext_get_old (by assumption) (by assumption)) rfl (by exact (by assumption)); exact rfl
 iterate 2 (apply sd_guard (hfree := rfl) (hg := rfl) (hl := rfl); intro _; exact do_binInt rfl rfl rfl trivial; exact rfl)
 apply sd_plain (hfree := rfl); intro _; exact do_pick_f rfl rfl; exact rfl
 apply sd_nil
 have eZ : IntKind.i64.wrap (IntKind.i64.wrap (0 * 1000000000) + v0) = v0 := by
  rw [wrap_i64 (n := 0 * 1000000000) (by omega), Int.zero_mul, Int.zero_add, wrap_i64 (by omega)]
 refine ct_cond_f rfl (decide_eq_false (by rw [eZ]; omega)) ?_
 apply ct_exit
 apply exit_eq; exact rfl
 apply ct_seq
 apply ct_region
 apply seq_plain; exact do_move rfl; exact rfl
 apply seq_plain; exact do_assign rfl; exact rfl
 apply seq_nil
 apply ct_ret
 exact fin_flat hc rfl rfl ⟨rfl, rfl⟩
end Go.Proofs.YtmcecjplgalcgaaGreatDoor
