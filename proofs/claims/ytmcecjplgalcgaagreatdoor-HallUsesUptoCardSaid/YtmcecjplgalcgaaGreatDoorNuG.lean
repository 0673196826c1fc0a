/- Small numbers of the package num: digits, texts; quotients of integers. -/
import Derived.Test.YtmcecjplgalcgaaGreatDoorNuE
import Derived.Test.YtmcecjplgalcgaaGreatDoorNuF
import Derived.Test.YtmcecjplgalcgaaGreatDoorPrL
noncomputable section
namespace Go.Den
theorem do_neqNilS {P : Program} {l : EL} {h : AHeap} {t t' : TypeId} {x y : Operand} {p : Option Addr} {n c : Nat} (hx : ev l x = some (.slice p n c)) (hy : ev l y = some (.slice none 0 0)) (ht : (selOf P t).isSome = true) : Does P l (.binOp .neq t x y t') h (.bool (!p.isNone)) h := by
 refine do_neq hx hy trivial ?_
 cases hs : selOf P t with
 | none => rw [hs] at ht; cases ht
 | some z =>
  obtain ⟨ti, e, ei, h1, h2, h3, h4, h5⟩ := selOf_spec (n := z.1) (a := z.2) hs
  unfold eqA
  simp only [h1, h2]
  cases p <;> rfl
end Go.Den
namespace Go.Proofs.YtmcecjplgalcgaaGreatDoor
open Go Go.Den
set_option maxRecDepth 100000
theorem isWhole_c {H : AHeap} {n d : Int} : Ret Tryz.prog 190 [.agg ⟨fF n d⟩] H (.bool (decide (d = 1))) H := by
 refine fn_start Tryz.func190 rfl rfl rfl fun hc => ?_
 apply ct_seq
 apply ct_region
 apply seq_newP; exact do_box rfl rfl rfl; exact rfl
 apply seq_plain; exact do_assign rfl; exact rfl
 apply seq_nil
 apply ct_seq
 apply ct_region
 iterate 2 (apply seq_plain; exact do_fieldAddr rfl rfl; exact rfl)
 apply seq_plain; exact do_load rfl (by exact ext_get_new rfl) rfl (by exact rfl); exact rfl
 apply seq_plain; exact do_eqlNilS rfl rfl rfl; exact rfl
 apply seq_plain; exact do_move rfl; exact rfl
 iterate 2 (apply seq_guard (hd := rfl) (hl := rfl); exact do_fieldAddr rfl rfl; exact rfl)
 apply seq_guard (hd := rfl) (hl := rfl); exact do_load rfl (by exact ext_get_new rfl) rfl (by exact rfl); exact rfl
 apply seq_guard (hd := rfl) (hl := rfl); exact do_binInt rfl rfl rfl trivial; exact rfl
 apply seq_plain; exact do_pick_t rfl rfl; exact rfl
 apply seq_plain; exact do_assign rfl; exact rfl
 apply seq_nil
 apply ct_ret
 exact fin_flat hc rfl rfl ⟨by rw [Bool.beq_eq_decide_eq]; rfl, rfl⟩
theorem size_c {H : AHeap} {n : Int} (h1 : -9223372036854775808 < n) (h2 : n ≤ 9223372036854775807) : Ret Tryz.prog 224 [I n] H (.int .u64 (n.natAbs : Int)) H := by
 refine fn_start Tryz.func224 rfl rfl rfl fun hc => ?_
 apply ct_seq
 apply ct_region
 apply seq_plain; exact do_assign rfl; exact rfl
 apply seq_nil
 iterate 2 (apply ct_seq)
 apply ct_region
 apply seq_plain; exact do_move rfl; exact rfl
 apply seq_plain; exact do_binInt rfl rfl rfl trivial; exact rfl
 apply seq_nil
 refine ct_cond rfl (fun h => ?_) (fun h => ?_)
 ·have h : n < 0 := by simpa using h
  have e : IntKind.u64.wrap (-n) = (n.natAbs : Int) := by rw [wrap_u64 (by omega)]; omega
  apply ct_seq
  apply ct_region
  apply seq_plain; exact do_move rfl; exact rfl
  apply seq_plain; exact do_neg rfl (by omega); exact rfl
  apply seq_plain; exact do_convInt rfl rfl rfl; exact rfl
  apply seq_plain; exact do_assign rfl; exact rfl
  apply seq_nil
  apply ct_ret
  rw [e]
  exact fin_flat hc rfl rfl ⟨rfl, rfl⟩
 ·have h : ¬ n < 0 := by simpa using h
  have e : IntKind.u64.wrap n = (n.natAbs : Int) := by rw [wrap_u64 (by omega)]; omega
  apply ct_skip
  apply ct_seq
  apply ct_region
  apply seq_plain; exact do_move rfl; exact rfl
  apply seq_plain; exact do_convInt rfl rfl rfl; exact rfl
  apply seq_plain; exact do_assign rfl; exact rfl
  apply seq_nil
  apply ct_ret
  rw [e]
  exact fin_flat hc rfl rfl ⟨rfl, rfl⟩
theorem parts0_c {H : AHeap} : Ret Tryz.prog 192 [.agg ⟨nI 0⟩] H (.tuple ⟨[.bool false, .slice none 0 0]⟩) H := by
 refine fn_start Tryz.func192 rfl rfl rfl fun hc => ?_
 apply ct_seq
 apply ct_region
 apply seq_newP; exact do_box rfl rfl rfl; exact rfl
 iterate 2 (apply seq_plain; exact do_assign rfl; exact rfl)
 apply seq_nil
 apply ct_seq
 apply ct_block
 apply ct_seq
 apply ct_region
 apply seq_plain; exact do_fieldAddr rfl rfl; exact rfl
 apply seq_plain; exact do_load rfl (by exact ext_get_new rfl) rfl (by exact rfl); exact rfl
 apply seq_plain; exact do_neqNilS rfl rfl rfl; exact rfl
 apply seq_plain; exact do_assign rfl; exact rfl
 apply seq_nil
 refine ct_cond_f rfl rfl ?_
 apply ct_seq
 apply ct_region
 apply seq_plain; exact do_fieldAddr rfl rfl; exact rfl
 apply seq_plain; exact do_load rfl (by exact ext_get_new rfl) rfl (by exact rfl); exact rfl
 apply seq_plain; exact do_binInt rfl rfl rfl trivial; exact rfl
 apply seq_plain; exact do_assign rfl; exact rfl
 apply seq_nil
 refine ct_cond_t rfl rfl ?_
 apply ct_seq
 apply ct_region
 iterate 2 (apply seq_plain; exact do_assign rfl; exact rfl)
 apply seq_nil
 apply ct_ret
 exact fin_flat hc rfl rfl ⟨rfl, rfl⟩
theorem parts_c {H : AHeap} {n : Int} (h1 : -9223372036854775808 < n) (h2 : n ≤ 9223372036854775807) (h0 : n ≠ 0) :
  Ret Tryz.prog 192 [.agg ⟨nI n⟩] H (.tuple ⟨[.bool (decide (n < 0)), .slice (some ⟨H.fresh, 0, none⟩) 1 1]⟩) (H.add (.cells [.int .u64 (n.natAbs : Int)] 1 false false)) := by
 refine fn_start Tryz.func192 rfl rfl rfl fun hc => ?_
 apply ct_seq
 apply ct_region
 apply seq_newP; exact do_box rfl rfl rfl; exact rfl
 iterate 2 (apply seq_plain; exact do_assign rfl; exact rfl)
 apply seq_nil
 apply ct_seq
 apply ct_block
 apply ct_seq
 apply ct_region
 apply seq_plain; exact do_fieldAddr rfl rfl; exact rfl
 apply seq_plain; exact do_load rfl (by exact ext_get_new rfl) rfl (by exact rfl); exact rfl
 apply seq_plain; exact do_neqNilS rfl rfl rfl; exact rfl
 apply seq_plain; exact do_assign rfl; exact rfl
 apply seq_nil
 refine ct_cond_f rfl rfl ?_
 apply ct_seq
 apply ct_region
 apply seq_plain; exact do_fieldAddr rfl rfl; exact rfl
 apply seq_plain; exact do_load rfl (by exact ext_get_new rfl) rfl (by exact rfl); exact rfl
 apply seq_plain; exact do_binInt rfl rfl rfl trivial; exact rfl
 apply seq_plain; exact do_assign rfl; exact rfl
 apply seq_nil
 refine ct_cond_f rfl (by simpa using h0) ?_
 apply ct_skip
 apply ct_seq
 apply ct_draw (by assumption); decide +kernel
 apply sd_plain (hfree := rfl); intro _; exact do_fieldAddr rfl rfl; exact rfl
 apply sd_look (hfree := rfl); exact do_load rfl (by exact ext_get_new rfl) rfl (by exact rfl); exact rfl
 apply sd_plain (hfree := rfl); intro _; exact do_binInt rfl rfl rfl trivial; exact rfl
 apply sd_plain (hfree := rfl); intro _; exact do_fieldAddr rfl rfl; exact rfl
 apply sd_look (hfree := rfl); exact do_load rfl (by exact ext_get_new rfl) rfl (by exact rfl); exact rfl
 apply sd_call (ht := rfl); exact size_c (by assumption) (by assumption); exact rfl
 apply sd_newS (hfree := rfl); exact do_buildSlice rfl rfl rfl rfl rfl rfl rfl; exact rfl
 iterate 2 (apply sd_plain (hfree := rfl); intro _; exact do_assign rfl; exact rfl)
 apply sd_nil
 apply ct_ret
 exact fin_one (vs := [.bool (decide (n < 0)), .slice (some ⟨nb H 1, 0, none⟩) 1 1]) (k := 1) (cs := [.int .u64 (n.natAbs : Int)]) hc rfl rfl rfl (by simp [packA, renV, renL, renOf_new]) ⟨rfl, rfl⟩
def bitsN (n : Int) : Nat := if n = 0 then 0 else Lib.bitLen n.natAbs
theorem bitsN_le {n : Int} (h1 : -9223372036854775808 < n) (h2 : n ≤ 9223372036854775807) : bitsN n ≤ 64 := by
 unfold bitsN
 split
 ·omega
 ·exact Lib.bitLen_le _ 64 (Nat.le_refl _) (by omega)
theorem bits_c {H : AHeap} {n : Int} (h1 : -9223372036854775808 < n) (h2 : n ≤ 9223372036854775807) : Ret Tryz.prog 216 [.agg ⟨nI n⟩] H (I (bitsN n)) H := by
 refine fn_start Tryz.func216 rfl rfl rfl fun hc => ?_
 by_cases h0 : n = 0
 ·subst h0
  apply ct_seq
  apply ct_region
  apply seq_newP; exact do_box rfl rfl rfl; exact rfl
  apply seq_plain; exact do_assign rfl; exact rfl
  apply seq_nil
  apply ct_seq
  apply ct_region
  apply seq_plain; exact do_load rfl (by exact ext_get_new rfl) rfl (by exact rfl); exact rfl
  apply seq_call (ht := rfl); exact parts0_c; exact rfl
  apply seq_plain; exact do_move rfl; exact rfl
  iterate 2 (apply seq_plain; exact do_extract rfl rfl; exact rfl)
  iterate 2 (apply seq_plain; exact do_assign rfl; exact rfl)
  apply seq_nil
  iterate 2 (apply ct_seq)
  apply ct_region
  apply seq_plain; exact do_move rfl; exact rfl
  apply seq_plain; exact do_lenS rfl rfl rfl; exact rfl
  apply seq_plain; exact do_binInt rfl rfl rfl trivial; exact rfl
  apply seq_nil
  refine ct_cond_t rfl rfl ?_
  apply ct_seq
  apply ct_region
  apply seq_plain; exact do_assign rfl; exact rfl
  apply seq_nil
  apply ct_ret
  exact fin_flat hc rfl rfl ⟨rfl, rfl⟩
 ·have cp := fun L => parts_c (H := ext H H.fresh L) h1 h2 h0
  simp only [ext_fresh, ext_add] at cp
  have e : bitsN n = Lib.bitLen ((n.natAbs : Int)).toNat := by unfold bitsN; rw [if_neg h0]; simp
  have u1 : 0 ≤ (n.natAbs : Int) := by omega
  have u2 : (n.natAbs : Int) ≤ 18446744073709551615 := by omega
  apply ct_seq
  apply ct_region
  apply seq_newP; exact do_box rfl rfl rfl; exact rfl
  apply seq_plain; exact do_assign rfl; exact rfl
  apply seq_nil
  apply ct_seq
  apply ct_region
  apply seq_plain; exact do_load rfl (by exact ext_get_new rfl) rfl (by exact rfl); exact rfl
  apply seq_call (ht := rfl); exact cp _; exact rfl
  apply seq_plain; exact do_move rfl; exact rfl
  iterate 2 (apply seq_plain; exact do_extract rfl rfl; exact rfl)
  iterate 2 (apply seq_plain; exact do_assign rfl; exact rfl)
  apply seq_nil
  iterate 2 (apply ct_seq)
  apply ct_region
  apply seq_plain; exact do_move rfl; exact rfl
  apply seq_plain; exact do_lenS rfl rfl rfl; exact rfl
  apply seq_plain; exact do_binInt rfl rfl rfl trivial; exact rfl
  apply seq_nil
  refine ct_cond_f rfl rfl ?_
  apply ct_skip
  apply ct_seq
  apply ct_region
  apply seq_plain; exact do_move rfl; exact rfl
  apply seq_plain; exact do_lenS rfl rfl rfl; exact rfl
  apply seq_plain; exact do_predN rfl rfl (by omega) (by omega); exact rfl
  apply seq_plain; exact do_binInt rfl rfl rfl trivial; exact rfl
  iterate 2 (apply seq_plain; exact do_move rfl; exact rfl)
  apply seq_plain; exact do_lenS rfl rfl rfl; exact rfl
  apply seq_plain; exact do_predN rfl rfl (by omega) (by omega); exact rfl
  apply seq_plain; exact do_indexAddrS rfl rfl rfl (by exact rfl); exact rfl
  apply seq_plain; exact do_load rfl (by exact ext_get_new rfl) rfl (by exact rfl); exact rfl
  apply seq_call (ht := rfl); exact len64_c u1 u2; exact rfl
  apply seq_plain; exact do_binInt rfl rfl rfl trivial; exact rfl
  apply seq_plain; exact do_assign rfl; exact rfl
  apply seq_nil
  apply ct_ret
  have e2 : IntKind.i64.wrap (64 * ((1 - 1 : Nat) : Int)) = 0 := by decide
  have e3 := bitsN_le h1 h2
  refine fin_flat hc rfl rfl ⟨?_, rfl⟩
  rw [e2, Int.zero_add, ← e]
  show wrapI _ _ = _
  rw [wrapI, wrap_i64 (by omega)]
theorem long_c {H : AHeap} {n : Int} (h1 : -9223372036854775808 < n) (h2 : n ≤ 9223372036854775807) : Ret Tryz.prog 189 [.agg ⟨nI n⟩] H (.bool false) H := by
 refine fn_start Tryz.func189 rfl rfl rfl fun hc => ?_
 have e : decide ((bitsN n : Int) > 1800) = false := decide_eq_false (by have := bitsN_le h1 h2; omega)
 apply ct_seq
 apply ct_region
 apply seq_newP; exact do_box rfl rfl rfl; exact rfl
 apply seq_plain; exact do_assign rfl; exact rfl
 apply seq_nil
 apply ct_seq
 apply ct_region
 apply seq_plain; exact do_load rfl (by exact ext_get_new rfl) rfl (by exact rfl); exact rfl
 apply seq_call (ht := rfl); exact bits_c (by assumption) (by assumption); exact rfl
 apply seq_plain; exact do_binInt rfl rfl rfl trivial; exact rfl
 apply seq_plain; exact do_move rfl; exact rfl
 rw [e]
 iterate 5 (apply seq_passed (hd := rfl) (hl := rfl) (hb := rfl); exact rfl)
 apply seq_plain; exact do_pick_f rfl rfl; exact rfl
 apply seq_plain; exact do_assign rfl; exact rfl
 apply seq_nil
 apply ct_ret
 exact fin_flat hc rfl rfl ⟨rfl, rfl⟩
theorem large_c {H : AHeap} {n d : Int} (h1 : -9223372036854775808 < n) (h2 : n ≤ 9223372036854775807) (h3 : -9223372036854775808 < d) (h4 : d ≤ 9223372036854775807) : Ret Tryz.prog 141 [.agg ⟨fF n d⟩] H (.bool false) H := by
 refine fn_start Tryz.func141 rfl rfl rfl fun hc => ?_
 apply ct_seq
 apply ct_region
 apply seq_newP; exact do_box rfl rfl rfl; exact rfl
 apply seq_plain; exact do_assign rfl; exact rfl
 apply seq_nil
 apply ct_seq
 apply ct_region
 apply seq_plain; exact do_fieldAddr rfl rfl; exact rfl
 apply seq_plain; exact do_load rfl (by exact ext_get_new rfl) rfl (by exact rfl); exact rfl
 apply seq_call (ht := rfl); exact long_c (by assumption) (by assumption); exact rfl
 apply seq_plain; exact do_move rfl; exact rfl
 apply seq_guard (hd := rfl) (hl := rfl); exact do_fieldAddr rfl rfl; exact rfl
 apply seq_guard (hd := rfl) (hl := rfl); exact do_load rfl (by exact ext_get_new rfl) rfl (by exact rfl); exact rfl
 apply seq_gcall (hg := rfl) (hl := rfl) (ht := rfl); exact long_c (by assumption) (by assumption); exact rfl
 apply seq_plain; exact do_pick_f rfl rfl; exact rfl
 apply seq_plain; exact do_assign rfl; exact rfl
 apply seq_nil
 apply ct_ret
 exact fin_flat hc rfl rfl ⟨rfl, rfl⟩
theorem string_c {H : AHeap} {n : Int} (hG : Glo B0 H) (h0 : -9223372036854775808 ≤ n) (h1 : n ≤ 9223372036854775807) : Ret Tryz.prog 191 [.agg ⟨nI n⟩] H (.string (tx (Lib.itoa n))) H := by
 refine fn_start Tryz.func191 rfl rfl rfl fun hc => ?_
 have ci := fun lo L => itoa_c (H := ext H lo L) (Glo.ext hG) h0 h1
 apply ct_seq
 apply ct_region
 apply seq_newP; exact do_box rfl rfl rfl; exact rfl
 apply seq_plain; exact do_assign rfl; exact rfl
 apply seq_nil
 iterate 2 (apply ct_seq)
 apply ct_region
 apply seq_plain; exact do_fieldAddr rfl rfl; exact rfl
 apply seq_plain; exact do_load rfl (by exact ext_get_new rfl) rfl (by exact rfl); exact rfl
 apply seq_plain; exact do_eqlNilS rfl rfl rfl; exact rfl
 apply seq_nil
 refine ct_cond_t rfl rfl ?_
 apply ct_seq
 apply ct_region
 apply seq_plain; exact do_fieldAddr rfl rfl; exact rfl
 apply seq_plain; exact do_load rfl (by exact ext_get_new rfl) rfl (by exact rfl); exact rfl
 apply seq_call (ht := rfl); exact ci _ _; exact rfl
 apply seq_plain; exact do_assign rfl; exact rfl
 apply seq_nil
 apply ct_ret
 exact fin_flat hc rfl rfl ⟨rfl, rfl⟩
end Go.Proofs.YtmcecjplgalcgaaGreatDoor
