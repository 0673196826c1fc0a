/- Contracts: the first free table, its free ones as bits; whether bookings meet. -/
import Derived.Test.YtfjihdlpohljbaaGreatAsL
import Derived.Test.YtfjihdlpohljbaaGreatOpnD
noncomputable section
namespace Go.Proofs.YtfjihdlpohljbaaGreat
open Go Go.Den
set_option maxRecDepth 100000
abbrev U (n : Int) : Value := .int .u64 n
theorem wrap_u64 {n : Int} (h : 0 ≤ n ∧ n < 18446744073709551616) : IntKind.u64.wrap n = n := by
  show (if (false && decide (n % 18446744073709551616 ≥ 9223372036854775808)) = true then n % 18446744073709551616 - 18446744073709551616 else n % 18446744073709551616) = _
  simp only [Bool.false_and, Bool.false_eq_true, if_false]
  omega
theorem wrapU {n : Nat} (h : n < 18446744073709551616) : IntKind.u64.wrap (n : Int) = n := wrap_u64 (by omega)
theorem pow64 : (2 : Nat) ^ 64 = 18446744073709551616 := by decide
theorem pow_lt64 {i : Nat} (h : i < 64) : 2 ^ i < 18446744073709551616 := by
  rw [← pow64]; exact Nat.pow_lt_pow_right (by decide) h
section
variable {P : Program} {l : EL} {h : AHeap}
theorem do_shlU {t t' : TypeId} {y : Operand} {i : Nat} (hy : ev l y = some (I (i : Nat))) (hi : i < 64) : Does P l (.binOp .shl t (.const (U 1)) y t') h (U ((2 ^ i : Nat) : Int)) h := by
  have := do_shl (P := P) (t := t) (t' := t') (h := h) (x := .const (U 1)) (k := .u64) (a := 1) rfl hy (by omega)
  have hm : min (Int.toNat (i : Int)) (IntKind.bits .u64) = i := by show min i 64 = i; omega
  rw [hm] at this
  have hp := pow_lt64 hi
  have e : IntKind.u64.wrap (1 * 2 ^ i) = ((2 ^ i : Nat) : Int) := by
    have e1 : (1 : Int) * 2 ^ i = ((2 ^ i : Nat) : Int) := by rw [Int.one_mul]; simp
    rw [e1, wrapU hp]
  rw [e] at this
  exact this
theorem ofI {a : Nat} : BitVec.ofInt 64 (a : Int) = BitVec.ofNat 64 a := by simp
theorem do_orU {t t' : TypeId} {x y : Operand} {a b : Nat} (hx : ev l x = some (U (a : Nat))) (hy : ev l y = some (U (b : Nat))) (ha : a < 18446744073709551616) (hb : b < 18446744073709551616) : Does P l (.binOp .or t x y t') h (U ((a ||| b : Nat) : Int)) h := by
  refine do_binInt hx hy ?_ trivial
  have e : (BitVec.ofInt (IntKind.bits .u64) (a : Int) ||| BitVec.ofInt (IntKind.bits .u64) (b : Int)).toNat = a ||| b := by
    show (BitVec.ofInt 64 (a : Int) ||| BitVec.ofInt 64 (b : Int)).toNat = a ||| b
    rw [ofI, ofI, BitVec.toNat_or, BitVec.toNat_ofNat, BitVec.toNat_ofNat, Nat.mod_eq_of_lt (by omega), Nat.mod_eq_of_lt (by omega)]
  have hlt : a ||| b < 2 ^ 64 := Nat.or_lt_two_pow (by omega) (by omega)
  simp only [intBin, e, wrapI]
  rw [wrap_u64 (by omega)]
def clrN (a b : Nat) : Nat := (BitVec.ofNat 64 a &&& ~~~ BitVec.ofNat 64 b).toNat
theorem do_clrU {t t' : TypeId} {x y : Operand} {a b : Nat} (hx : ev l x = some (U (a : Nat))) (hy : ev l y = some (U (b : Nat))) : Does P l (.binOp .andNot t x y t') h (U ((clrN a b : Nat) : Int)) h := by
  refine do_binInt hx hy ?_ trivial
  have e : (BitVec.ofInt (IntKind.bits .u64) (a : Int) &&& ~~~ BitVec.ofInt (IntKind.bits .u64) (b : Int)).toNat = clrN a b := by
    show (BitVec.ofInt 64 (a : Int) &&& ~~~ BitVec.ofInt 64 (b : Int)).toNat = clrN a b
    rw [ofI, ofI]; rfl
  have hlt : clrN a b < 2 ^ 64 := BitVec.isLt _
  simp only [intBin, e, wrapI]
  rw [wrap_u64 (by omega)]
theorem do_shrU {t t' : TypeId} {x y : Operand} {a i : Nat} (hx : ev l x = some (U (a : Nat))) (hy : ev l y = some (I (i : Nat))) (hi : i < 64) : Does P l (.binOp .shr t x y t') h (U ((a >>> i : Nat) : Int)) h := by
  have := do_shr (P := P) (t := t) (t' := t') (h := h) hx hy (by omega)
  have hm : min (Int.toNat (i : Int)) (IntKind.bits .u64) = i := by show min i 64 = i; omega
  rw [hm] at this
  have e : ((a : Int)).fdiv (2 ^ i) = ((a >>> i : Nat) : Int) := by
    rw [Nat.shiftRight_eq_div_pow, Int.fdiv_eq_ediv_of_nonneg _ (by exact Int.le_of_lt (Int.pow_pos (by decide)))]
    simp
  rw [e] at this
  exact this
theorem do_oneU {t t' : TypeId} {x : Operand} {a : Nat} (hx : ev l x = some (U (a : Nat))) (ha : a < 18446744073709551616) : Does P l (.binOp .and t x (.const (U 1)) t') h (U ((a % 2 : Nat) : Int)) h := by
  refine do_binInt hx (y := .const (U 1)) rfl ?_ trivial
  have e : (BitVec.ofInt (IntKind.bits .u64) (a : Int) &&& BitVec.ofInt (IntKind.bits .u64) 1).toNat = a % 2 := by
    show (BitVec.ofInt 64 (a : Int) &&& 1#64).toNat = a % 2
    rw [ofI, BitVec.toNat_and, BitVec.toNat_ofNat, Nat.mod_eq_of_lt (by omega)]
    exact Nat.and_one_is_mod a
  simp only [intBin, e, wrapI]
  rw [wrap_u64 (by omega)]
end
structure BitP (B : Nat) (f : Nat → Bool) : Prop where
  lt : B < 18446744073709551616
  bit : ∀ j, j < 64 → B.testBit j = f j
theorem BitP.zero : BitP 0 fun _ => false := ⟨by decide, fun j _ => Nat.zero_testBit j⟩
theorem BitP.congr {B : Nat} {f g : Nat → Bool} (h : BitP B f) (e : ∀ j, j < 64 → f j = g j) : BitP B g := ⟨h.lt, fun j hj => by rw [h.bit j hj, e j hj]⟩
theorem BitP.set_ {B : Nat} {f : Nat → Bool} (h : BitP B f) {i : Nat} (hi : i < 64) : BitP (B ||| 2 ^ i) fun j => f j || decide (i = j) := by
  have hp := pow_lt64 hi
  have hB := h.lt
  refine ⟨?_, fun j hj => ?_⟩
  · have : B ||| 2 ^ i < 2 ^ 64 := Nat.or_lt_two_pow (by omega) (by omega)
    omega
  · rw [Nat.testBit_or, h.bit j hj, Nat.testBit_two_pow]
theorem BitP.clr {B : Nat} {f : Nat → Bool} (h : BitP B f) {i : Nat} (hi : i < 64) : BitP (clrN B (2 ^ i)) fun j => f j && !decide (i = j) := by
  have hB := h.lt
  refine ⟨?_, fun j hj => ?_⟩
  · have : clrN B (2 ^ i) < 2 ^ 64 := BitVec.isLt _
    omega
  · unfold clrN
    rw [BitVec.testBit_toNat, BitVec.getLsbD_and, BitVec.getLsbD_not, BitVec.getLsbD_ofNat, BitVec.getLsbD_ofNat, h.bit j hj, Nat.testBit_two_pow]
    simp [hj]
theorem BitP.test {B : Nat} {f : Nat → Bool} (h : BitP B f) {i : Nat} (hi : i < 64) : ((((B >>> i) % 2 : Nat) : Int) == 1) = f i := by
  rw [← h.bit i hi, Nat.testBit_eq_decide_div_mod_eq, Nat.shiftRight_eq_div_pow]
  rw [Bool.eq_iff_iff]
  simp only [beq_iff_eq, decide_eq_true_eq]
  omega
theorem meet_c {H : AHeap} {x y : Bk} : Ret Tryz.prog 64 [.agg ⟨bk x⟩, .agg ⟨bk y⟩] H (.bool (meetB x y)) H := by
  refine fn_start Tryz.func64 rfl rfl rfl fun hc => ?_
  apply ct_seq
  apply ct_region
  iterate 2 (apply seq_newP; exact do_box rfl rfl rfl; exact rfl)
  apply seq_plain; exact do_assign rfl; exact rfl
  apply seq_nil
  apply ct_seq
  apply ct_region
  apply seq_plain; exact do_fieldAddr rfl rfl; exact rfl
  apply seq_plain; exact do_load rfl (by exact ext_get_new rfl) rfl (by exact rfl); exact rfl
  apply seq_plain; exact do_fieldAddr rfl rfl; exact rfl
  apply seq_plain; exact do_load rfl (by exact ext_get_new rfl) rfl (by exact rfl); exact rfl
  apply seq_plain; exact do_binInt rfl rfl rfl trivial; exact rfl
  apply seq_plain; exact do_move rfl; exact rfl
  refine seq_gsplit rfl rfl (fun u => ?_) (fun u => ?_)
  · have u : decide (x.frm < y.to) = true := u
    apply seq_guard (hd := rfl) (hl := rfl); exact do_fieldAddr rfl rfl; exact rfl
    apply seq_guard (hd := rfl) (hl := rfl); exact do_load rfl (by exact ext_get_new rfl) rfl (by exact rfl); exact rfl
    apply seq_guard (hd := rfl) (hl := rfl); exact do_fieldAddr rfl rfl; exact rfl
    apply seq_guard (hd := rfl) (hl := rfl); exact do_load rfl (by exact ext_get_new rfl) rfl (by exact rfl); exact rfl
    apply seq_guard (hd := rfl) (hl := rfl); exact do_binInt rfl rfl rfl trivial; exact rfl
    apply seq_plain; exact do_pick_t rfl rfl; exact rfl
    apply seq_plain; exact do_assign rfl; exact rfl
    apply seq_nil
    apply ct_ret
    refine fin_flat hc rfl rfl ⟨?_, rfl⟩
    unfold meetB
    rw [u]; rfl
  · have u : decide (x.frm < y.to) = false := u
    iterate 5 (apply seq_passed (hd := rfl) (hl := rfl) (hb := rfl); exact rfl)
    apply seq_plain; exact do_pick_f rfl rfl; exact rfl
    apply seq_plain; exact do_assign rfl; exact rfl
    apply seq_nil
    apply ct_ret
    refine fin_flat hc rfl rfl ⟨?_, rfl⟩
    unfold meetB
    rw [u]; rfl
end Go.Proofs.YtfjihdlpohljbaaGreat
