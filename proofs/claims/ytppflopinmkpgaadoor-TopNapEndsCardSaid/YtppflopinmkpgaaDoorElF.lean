/- Bits of numbers; sets by their bits; the first best set. -/
import Derived.Test.YtppflopinmkpgaaDoorElD
noncomputable section
namespace Go.Proofs.YtppflopinmkpgaaDoor
open Go Go.Den
set_option maxRecDepth 10000

theorem wrap_nat {m : Nat} (h : m ≤ 9223372036854775807) : IntKind.i64.wrap (m : Int) = m := wrap_i64 (by omega)
section
variable {P : Program} {l : EL} {h : AHeap}
theorem do_shrN {t t' : TypeId} {x y : Operand} {a i : Nat} (hx : ev l x = some (I (a : Nat))) (hy : ev l y = some (I (i : Nat))) (hi : i ≤ 60) : Does P l (.binOp .shr t x y t') h (I ((a >>> i : Nat) : Int)) h := by
  have := do_shr (P := P) (t := t) (t' := t') (h := h) hx hy (by omega)
  have hm : min (Int.toNat (i : Int)) (IntKind.bits .i64) = i := by show min i 64 = i; omega
  rw [hm] at this
  have e : ((a : Int)).fdiv (2 ^ i) = ((a >>> i : Nat) : Int) := by
    rw [Nat.shiftRight_eq_div_pow, Int.fdiv_eq_ediv_of_nonneg _ (by exact Int.le_of_lt (Int.pow_pos (by decide)))]
    simp
  rw [e] at this
  exact this
theorem do_shl1 {t t' : TypeId} {y : Operand} {i : Nat} (hy : ev l y = some (I (i : Nat))) (hi : i ≤ 60) : Does P l (.binOp .shl t (.const (I 1)) y t') h (I ((2 ^ i : Nat) : Int)) h := by
  have := do_shl (P := P) (t := t) (t' := t') (h := h) (x := .const (I 1)) (k := .i64) (a := 1) rfl hy (by omega)
  have hm : min (Int.toNat (i : Int)) (IntKind.bits .i64) = i := by show min i 64 = i; omega
  rw [hm] at this
  have hp : 2 ^ i ≤ 2 ^ 60 := Nat.pow_le_pow_right (by decide) hi
  have h60 : (2 : Nat) ^ 60 = 1152921504606846976 := by decide
  have e : IntKind.i64.wrap (1 * 2 ^ i) = ((2 ^ i : Nat) : Int) := by
    have e1 : (1 : Int) * 2 ^ i = ((2 ^ i : Nat) : Int) := by rw [Int.one_mul]; simp
    rw [e1, wrap_nat (by omega)]
  rw [e] at this
  exact this
theorem do_and1 {t t' : TypeId} {x : Operand} {a : Nat} (hx : ev l x = some (I (a : Nat))) (ha : a < 2 ^ 60) : Does P l (.binOp .and t x (.const (I 1)) t') h (I ((a % 2 : Nat) : Int)) h := by
  refine do_binInt hx (y := .const (I 1)) rfl ?_ trivial
  have e : (BitVec.ofInt (IntKind.bits .i64) (a : Int) &&& BitVec.ofInt (IntKind.bits .i64) 1).toNat = a % 2 := by
    show (BitVec.ofInt 64 (a : Int) &&& 1#64).toNat = a % 2
    have h1 : BitVec.ofInt 64 (a : Int) = BitVec.ofNat 64 a := by simp
    rw [h1, BitVec.toNat_and, BitVec.toNat_ofNat]
    have h2 : a % 2 ^ 64 = a := Nat.mod_eq_of_lt (by omega)
    rw [h2]
    exact Nat.and_one_is_mod a
  simp only [intBin, e, wrapI]
  rw [wrap_i64 (by omega)]
end

/-- the numbers below k whose bit is set -/
def setTo (k bits : Nat) : List Int := ((List.range k).filter fun i => (bits >>> i) % 2 == 1).map fun (i : Nat) => (i : Int)
theorem setTo_succ {k bits : Nat} : setTo (k + 1) bits = setTo k bits ++ if (bits >>> k) % 2 == 1 then [(k : Int)] else [] := by
  unfold setTo
  rw [List.range_succ, List.filter_append, List.map_append]
  by_cases h : (bits >>> k) % 2 == 1 <;> simp [h]
theorem setTo_len {k bits : Nat} : (setTo k bits).length ≤ k := by
  unfold setTo
  rw [List.length_map]
  exact Nat.le_trans (List.length_filter_le ..) (by simp)
theorem setTo_mem {k bits : Nat} {x : Int} : x ∈ setTo k bits ↔ 0 ≤ x ∧ x < k ∧ (bits >>> x.toNat) % 2 = 1 := by
  unfold setTo
  simp only [List.mem_map, List.mem_filter, List.mem_range, beq_iff_eq]
  constructor
  · rintro ⟨i, ⟨h1, h2⟩, rfl⟩
    exact ⟨by omega, by omega, by simpa using h2⟩
  · rintro ⟨h1, h2, h3⟩
    exact ⟨x.toNat, ⟨by omega, h3⟩, by omega⟩
theorem setTo_sorted {k bits : Nat} : (setTo k bits).Pairwise (· < ·) := by
  unfold setTo
  rw [List.pairwise_map]
  refine List.Pairwise.imp ?_ ((List.pairwise_lt_range (n := k)).filter _)
  intro a b h; omega
def stepB (pts : List Int) (opn : List (Int × Int)) (team : Int) (best : List Int) (k : Nat) : List Int :=
  if ((best.isEmpty || beforeL (setTo pts.length k) best) && !(setTo pts.length k).isEmpty && ((k >>> team.toNat) % 2 == 0) && proveL pts opn team (setTo pts.length k)) = true then setTo pts.length k else best
def bestTo (pts : List Int) (opn : List (Int × Int)) (team : Int) : Nat → List Int
  | 0 => []
  | k + 1 => stepB pts opn team (bestTo pts opn team k) k
def bestL (pts : List Int) (opn : List (Int × Int)) (team : Int) : List Int := bestTo pts opn team (2 ^ pts.length)

theorem bestTo_len {pts : List Int} {opn : List (Int × Int)} {team : Int} : ∀ k, (bestTo pts opn team k).length ≤ pts.length
  | 0 => by simp [bestTo]
  | k + 1 => by
    simp only [bestTo, stepB]
    split
    · exact setTo_len
    · exact bestTo_len k

end Go.Proofs.YtppflopinmkpgaaDoor
