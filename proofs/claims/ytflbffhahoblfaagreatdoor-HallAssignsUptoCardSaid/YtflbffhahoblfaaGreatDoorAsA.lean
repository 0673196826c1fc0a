/- Contracts: a posting behind others. -/
import Derived.Test.YtflbffhahoblfaaGreatDoorHkB
import Derived.Test.YtflbffhahoblfaaGreatDoorHkC
import Derived.Test.YtflbffhahoblfaaGreatDoorSxM
import Derived.Test.YtflbffhahoblfaaGreatDoorSxP
import Derived.Test.YtflbffhahoblfaaGreatDoorTcH
import Derived.Test.YtflbffhahoblfaaGreatDoorSxQ
import Derived.Test.YtflbffhahoblfaaGreatDoorBkL
import Derived.Test.YtflbffhahoblfaaGreatDoorLaid
import Derived.Test.YtflbffhahoblfaaGreatDoorAsL
noncomputable section
namespace Go.Proofs.YtflbffhahoblfaaGreatDoor
open Go Go.Den
set_option maxRecDepth 100000
structure Po where
  debit : ByteArray
  credit : ByteArray
  amt : Int
def po (x : Po) : List Value := [.string x.debit, .string x.credit, I x.amt]
def acc : Nat → ByteArray
  | 0 => ⟨#[99, 97, 115, 104]⟩
  | 1 => ⟨#[100, 101, 112, 111, 115, 105, 116, 115]⟩
  | 2 => ⟨#[115, 97, 108, 101, 115]⟩
  | _ => ⟨#[102, 111, 114, 102, 101, 105, 116, 115]⟩
structure Posted (f : FuncId) (args : List Value) (H : AHeap) (L : List (Option ABlk)) (K : Nat) (l : List Po) (v' : Value) (K' : Nat) (L' : List (Option ABlk)) (l' : List Po) : Prop where
  ret : ∃ h', Ret Tryz.prog f args (ext H H.fresh L) v' h' ∧ HQ h' (ext H H.fresh L')
  lst : LstI H L' 3 po K' v' l'
  len : L.length ≤ L'.length
  keep : ∀ j, j < L.length → (l ≠ [] → j ≠ K) → L'[j]? = L[j]?
  last : l' ≠ [] → K' = K ∧ l' = l ∨ L.length ≤ K'
end Go.Proofs.YtflbffhahoblfaaGreatDoor
/- Contracts: charges; lists of postings are copied and compared. -/
noncomputable section
namespace Go.Proofs.YtflbffhahoblfaaGreatDoor
open Go Go.Den
set_option maxRecDepth 100000
def poB (x y : Po) : Bool := byteL x.debit.data.toList y.debit.data.toList && (byteL x.credit.data.toList y.credit.data.toList && (x.amt == y.amt))
theorem poB_eq {x y : Po} : poB x y = true ↔ x = y := by
  unfold poB
  rw [bytes_eq, bytes_eq]
  cases x; cases y
  simp
instance : DecidableEq Po := fun x y => decidable_of_iff (poB x y = true) poB_eq
end Go.Proofs.YtflbffhahoblfaaGreatDoor
/- Contracts: the bill of a booking, and what a cancellation posts. -/
noncomputable section
namespace Go.Proofs.YtflbffhahoblfaaGreatDoor
open Go Go.Den
set_option maxRecDepth 100000
theorem Posted.two {f : FuncId} {args : List Value} {H : AHeap} {L L' : List (Option ABlk)} {K K' : Nat} {l l' : List Po} {v' : Value} (p : Posted f args H L K l v' K' L' l') (h2 : 2 ≤ L.length) (hK : l ≠ [] → 2 ≤ K) : l' ≠ [] → 2 ≤ K' := fun h => by
  rcases p.last h with ⟨rfl, rfl⟩ | h3
  · exact hK h
  · omega
theorem Posted.box {f : FuncId} {args : List Value} {H : AHeap} {L L' : List (Option ABlk)} {K K' : Nat} {l l' : List Po} {v' : Value} (p : Posted f args H L K l v' K' L' l') (h2 : 2 ≤ L.length) (hK : l ≠ [] → 2 ≤ K) {j : Nat} (hj : j < 2) : L'[j]? = L[j]? :=
  p.keep j (by omega) fun h => by have := hK h; omega
end Go.Proofs.YtflbffhahoblfaaGreatDoor
/- Plain law: the queue of a hall. -/
noncomputable section
namespace Go.Proofs.YtflbffhahoblfaaGreatDoor
open Go Go.Den
theorem cntD_app {l r : List Bk} {k : ByteArray} {q : Int} : cntD (l ++ r) k q = cntD l k q + cntD r k q := List.countP_append
theorem cntD_one {b : Bk} {k : ByteArray} {q : Int} : cntD [b] k q = if isAt k q b = true then 1 else 0 := by
  unfold cntD
  by_cases h : isAt k q b = true <;> simp [h]
def RoomP (t : List Tb) (l : List Bk) (k : ByteArray) (s len : Int) : Prop := ∀ q, s ≤ q → q < s + len → cntD l k q < cntK t k
theorem fit_room {t : List Tb} {l : List Bk} {b : Bk} : FitP t (l ++ [b]) ↔ FitP t l ∧ RoomP t l b.kind b.frm (b.to - b.frm) := by
  constructor
  · intro h
    refine ⟨fun k q => ?_, fun q h1 h2 => ?_⟩
    · have := h k q
      rw [cntD_app] at this
      omega
    · have := h b.kind q
      rw [cntD_app, cntD_one, if_pos (isAt_iff.2 ⟨rfl, h1, by omega⟩)] at this
      omega
  · rintro ⟨h1, h2⟩ k q
    rw [cntD_app, cntD_one]
    have := h1 k q
    by_cases e : isAt k q b = true
    · rw [if_pos e]
      obtain ⟨e1, e2, e3⟩ := isAt_iff.1 e
      subst e1
      have := h2 q e2 (by omega)
      omega
    · rw [if_neg e]
      omega
structure Least (t : List Tb) (l : List Bk) (k : ByteArray) (fl len s : Int) : Prop where
  ge : fl ≤ s
  room : RoomP t l k s len
  low : ∀ q, fl ≤ q → q < s → ¬ RoomP t l k q len
section
variable {t : List Tb} {l : List Bk} {k : ByteArray} {fl len s : Int}
theorem Least.uniq {s' : Int} (h : Least t l k fl len s) (h' : Least t l k fl len s') : s = s' := by
  rcases Int.lt_trichotomy s s' with e | e | e
  · exact absurd h.room (h'.low s h.ge e)
  · exact e
  · exact absurd h'.room (h.low s' h'.ge e)
/-! ### the reference's next end -/
end
/-! ### the queue -/
def bkR (x : Rq) (s : Int) : Bk := ⟨x.name, x.kind, s, s + x.len⟩
def allB (l : List Bk) (r : List Rq) (out : List Int) (j : Nat) : List Bk := l ++ (List.zipWith bkR (r.take j) (out.take j))
def flrS (k : ByteArray) (m : Int) (p : Rq × Int) : Int := if p.1.kind = k then max m p.2 else m
def flrB (r : List Rq) (out : List Int) (k : ByteArray) (arr : Int) (j : Nat) : Int := ((r.take j).zip (out.take j)).foldl (flrS k) arr
structure SvI (t : List Tb) (l : List Bk) (r : List Rq) (out : List Int) : Prop where
  len : out.length ≤ r.length
  at_ : ∀ j (h : j < out.length) (h' : j < r.length), Least t (allB l r out j) r[j].kind (flrB r out r[j].kind r[j].arr j) r[j].len out[j] ∧ out[j] + r[j].len ≤ 99999
section
variable {t : List Tb} {l : List Bk} {r : List Rq} {out : List Int}
theorem allB_congr {out' : List Int} {j : Nat} (h : out.take j = out'.take j) : allB l r out j = allB l r out' j := by
  unfold allB; rw [h]
theorem flrB_congr {out' : List Int} {k : ByteArray} {arr : Int} {j : Nat} (h : out.take j = out'.take j) : flrB r out k arr j = flrB r out' k arr j := by
  unfold flrB; rw [h]
theorem SvI.nil : SvI t l r [] := ⟨by simp, fun j h => absurd h (by simp)⟩
theorem SvI.take {n : Nat} (h : SvI t l r out) : SvI t l r (out.take n) := by
  refine ⟨by simp; have := h.len; omega, fun j hj1 hj2 => ?_⟩
  have hjl : j < n ∧ j < out.length := by rw [List.length_take] at hj1; omega
  have e : (out.take n).take j = out.take j := by rw [List.take_take, Nat.min_eq_left (by omega)]
  rw [allB_congr e, flrB_congr e, List.getElem_take]
  exact h.at_ j hjl.2 hj2
end
end Go.Proofs.YtflbffhahoblfaaGreatDoor
/- Contracts: lists with a further booking; whether a booking fits. -/
noncomputable section
namespace Go.Den
structure BlkS (H : AHeap) (p : Option Addr) : Prop where
  out : ∀ x, p = some x → x.spot = none ∧ ∃ cs z s ro, H.get x.block = some (.cells cs z s ro)
theorem BlkS.nil {H : AHeap} : BlkS H none := ⟨fun _ h => by cases h⟩
theorem BlkS.ext {H H' : AHeap} {p : Option Addr} (h : BlkS H p) (hE : Ext H H') : BlkS H' p := ⟨fun x hx => by
  obtain ⟨h1, cs, z, s, ro, h2⟩ := h.out x hx
  exact ⟨h1, cs, z, s, ro, hE _ _ h2⟩⟩
theorem BlkS.at_ {H : AHeap} {b o : Nat} {cs : List Value} {z : Nat} {s ro : Bool} (h : H.get b = some (.cells cs z s ro)) : BlkS H (some ⟨b, o, none⟩) := ⟨fun x hx => by
  cases hx; exact ⟨rfl, cs, z, s, ro, h⟩⟩
section
variable {P : Program} {l : EL} {h : AHeap}
end
end Go.Den
namespace Go.Proofs.YtflbffhahoblfaaGreatDoor
open Go Go.Den
set_option maxRecDepth 100000
end Go.Proofs.YtflbffhahoblfaaGreatDoor
/- Contracts: whether a booking fits, as the program has it. -/
noncomputable section
namespace Go.Proofs.YtflbffhahoblfaaGreatDoor
open Go Go.Den
set_option maxRecDepth 100000
def fitsE (t : List Tb) (l : List Bk) (b : Bk) : Int := firstL [bothE t l, bookE b, whenL ((cntK t b.kind : Int) == 0) 10]
def fitsV (t : List Tb) (l : List Bk) (b : Bk) : Bool := if fitsE t l b ≠ 0 then false else fitB t (l ++ [b])
end Go.Proofs.YtflbffhahoblfaaGreatDoor
/- Contracts: the first free table, its free ones as bits; whether bookings meet. -/
noncomputable section
namespace Go.Proofs.YtflbffhahoblfaaGreatDoor
open Go Go.Den
set_option maxRecDepth 100000
abbrev U (n : Int) : Value := .int .u64 n
theorem wrap_u64 {n : Int} (h : 0 ≤ n ∧ n < 18446744073709551616) : IntKind.u64.wrap n = n := by
  show (if (false && decide (n % 18446744073709551616 ≥ 9223372036854775808)) = true then n % 18446744073709551616 - 18446744073709551616 else n % 18446744073709551616) = _
  simp only [Bool.false_and, Bool.false_eq_true, if_false]
  omega
theorem wrapU {n : Nat} (h : n < 18446744073709551616) : IntKind.u64.wrap (n : Int) = n := wrap_u64 (by omega)
theorem pow64 : (2 : Nat) ^ 64 = 18446744073709551616 := by decide
theorem pow_lt64 {i : Nat} (h : i < 64) : 2 ^ i < 18446744073709551616 := by
  rw [← pow64]; exact Nat.pow_lt_pow_right (by decide) h
section
variable {P : Program} {l : EL} {h : AHeap}
theorem do_shlU {t t' : TypeId} {y : Operand} {i : Nat} (hy : ev l y = some (I (i : Nat))) (hi : i < 64) : Does P l (.binOp .shl t (.const (U 1)) y t') h (U ((2 ^ i : Nat) : Int)) h := by
  have := do_shl (P := P) (t := t) (t' := t') (h := h) (x := .const (U 1)) (k := .u64) (a := 1) rfl hy (by omega)
  have hm : min (Int.toNat (i : Int)) (IntKind.bits .u64) = i := by show min i 64 = i; omega
  rw [hm] at this
  have hp := pow_lt64 hi
  have e : IntKind.u64.wrap (1 * 2 ^ i) = ((2 ^ i : Nat) : Int) := by
    have e1 : (1 : Int) * 2 ^ i = ((2 ^ i : Nat) : Int) := by rw [Int.one_mul]; simp
    rw [e1, wrapU hp]
  rw [e] at this
  exact this
theorem ofI {a : Nat} : BitVec.ofInt 64 (a : Int) = BitVec.ofNat 64 a := by simp
theorem do_orU {t t' : TypeId} {x y : Operand} {a b : Nat} (hx : ev l x = some (U (a : Nat))) (hy : ev l y = some (U (b : Nat))) (ha : a < 18446744073709551616) (hb : b < 18446744073709551616) : Does P l (.binOp .or t x y t') h (U ((a ||| b : Nat) : Int)) h := by
  refine do_binInt hx hy ?_ trivial
  have e : (BitVec.ofInt (IntKind.bits .u64) (a : Int) ||| BitVec.ofInt (IntKind.bits .u64) (b : Int)).toNat = a ||| b := by
    show (BitVec.ofInt 64 (a : Int) ||| BitVec.ofInt 64 (b : Int)).toNat = a ||| b
    rw [ofI, ofI, BitVec.toNat_or, BitVec.toNat_ofNat, BitVec.toNat_ofNat, Nat.mod_eq_of_lt (by omega), Nat.mod_eq_of_lt (by omega)]
  have hlt : a ||| b < 2 ^ 64 := Nat.or_lt_two_pow (by omega) (by omega)
  simp only [intBin, e, wrapI]
  rw [wrap_u64 (by omega)]
def clrN (a b : Nat) : Nat := (BitVec.ofNat 64 a &&& ~~~ BitVec.ofNat 64 b).toNat
theorem do_clrU {t t' : TypeId} {x y : Operand} {a b : Nat} (hx : ev l x = some (U (a : Nat))) (hy : ev l y = some (U (b : Nat))) : Does P l (.binOp .andNot t x y t') h (U ((clrN a b : Nat) : Int)) h := by
  refine do_binInt hx hy ?_ trivial
  have e : (BitVec.ofInt (IntKind.bits .u64) (a : Int) &&& ~~~ BitVec.ofInt (IntKind.bits .u64) (b : Int)).toNat = clrN a b := by
    show (BitVec.ofInt 64 (a : Int) &&& ~~~ BitVec.ofInt 64 (b : Int)).toNat = clrN a b
    rw [ofI, ofI]; rfl
  have hlt : clrN a b < 2 ^ 64 := BitVec.isLt _
  simp only [intBin, e, wrapI]
  rw [wrap_u64 (by omega)]
theorem do_shrU {t t' : TypeId} {x y : Operand} {a i : Nat} (hx : ev l x = some (U (a : Nat))) (hy : ev l y = some (I (i : Nat))) (hi : i < 64) : Does P l (.binOp .shr t x y t') h (U ((a >>> i : Nat) : Int)) h := by
  have := do_shr (P := P) (t := t) (t' := t') (h := h) hx hy (by omega)
  have hm : min (Int.toNat (i : Int)) (IntKind.bits .u64) = i := by show min i 64 = i; omega
  rw [hm] at this
  have e : ((a : Int)).fdiv (2 ^ i) = ((a >>> i : Nat) : Int) := by
    rw [Nat.shiftRight_eq_div_pow, Int.fdiv_eq_ediv_of_nonneg _ (by exact Int.le_of_lt (Int.pow_pos (by decide)))]
    simp
  rw [e] at this
  exact this
theorem do_oneU {t t' : TypeId} {x : Operand} {a : Nat} (hx : ev l x = some (U (a : Nat))) (ha : a < 18446744073709551616) : Does P l (.binOp .and t x (.const (U 1)) t') h (U ((a % 2 : Nat) : Int)) h := by
  refine do_binInt hx (y := .const (U 1)) rfl ?_ trivial
  have e : (BitVec.ofInt (IntKind.bits .u64) (a : Int) &&& BitVec.ofInt (IntKind.bits .u64) 1).toNat = a % 2 := by
    show (BitVec.ofInt 64 (a : Int) &&& 1#64).toNat = a % 2
    rw [ofI, BitVec.toNat_and, BitVec.toNat_ofNat, Nat.mod_eq_of_lt (by omega)]
    exact Nat.and_one_is_mod a
  simp only [intBin, e, wrapI]
  rw [wrap_u64 (by omega)]
end
structure BitP (B : Nat) (f : Nat → Bool) : Prop where
  lt : B < 18446744073709551616
  bit : ∀ j, j < 64 → B.testBit j = f j
theorem BitP.zero : BitP 0 fun _ => false := ⟨by decide, fun j _ => Nat.zero_testBit j⟩
theorem BitP.congr {B : Nat} {f g : Nat → Bool} (h : BitP B f) (e : ∀ j, j < 64 → f j = g j) : BitP B g := ⟨h.lt, fun j hj => by rw [h.bit j hj, e j hj]⟩
theorem BitP.set_ {B : Nat} {f : Nat → Bool} (h : BitP B f) {i : Nat} (hi : i < 64) : BitP (B ||| 2 ^ i) fun j => f j || decide (i = j) := by
  have hp := pow_lt64 hi
  have hB := h.lt
  refine ⟨?_, fun j hj => ?_⟩
  · have : B ||| 2 ^ i < 2 ^ 64 := Nat.or_lt_two_pow (by omega) (by omega)
    omega
  · rw [Nat.testBit_or, h.bit j hj, Nat.testBit_two_pow]
theorem BitP.clr {B : Nat} {f : Nat → Bool} (h : BitP B f) {i : Nat} (hi : i < 64) : BitP (clrN B (2 ^ i)) fun j => f j && !decide (i = j) := by
  have hB := h.lt
  refine ⟨?_, fun j hj => ?_⟩
  · have : clrN B (2 ^ i) < 2 ^ 64 := BitVec.isLt _
    omega
  · unfold clrN
    rw [BitVec.testBit_toNat, BitVec.getLsbD_and, BitVec.getLsbD_not, BitVec.getLsbD_ofNat, BitVec.getLsbD_ofNat, h.bit j hj, Nat.testBit_two_pow]
    simp [hj]
theorem BitP.test {B : Nat} {f : Nat → Bool} (h : BitP B f) {i : Nat} (hi : i < 64) : ((((B >>> i) % 2 : Nat) : Int) == 1) = f i := by
  rw [← h.bit i hi, Nat.testBit_eq_decide_div_mod_eq, Nat.shiftRight_eq_div_pow]
  rw [Bool.eq_iff_iff]
  simp only [beq_iff_eq, decide_eq_true_eq]
  omega
theorem meet_c {H : AHeap} {x y : Bk} : Ret Tryz.prog 45 [.agg ⟨bk x⟩, .agg ⟨bk y⟩] H (.bool (meetB x y)) H := by
  refine fn_start Tryz.func45 rfl rfl rfl fun hc => ?_
  apply ct_seq
  apply ct_region
  iterate 2 (apply seq_newP; exact do_box rfl rfl rfl; exact rfl)
  apply seq_plain; exact do_assign rfl; exact rfl
  apply seq_nil
  apply ct_seq
  apply ct_region
  apply seq_plain; exact do_fieldAddr rfl rfl; exact rfl
  apply seq_plain; exact do_load rfl (by exact ext_get_new rfl) rfl (by exact rfl); exact rfl
  apply seq_plain; exact do_fieldAddr rfl rfl; exact rfl
  apply seq_plain; exact do_load rfl (by exact ext_get_new rfl) rfl (by exact rfl); exact rfl
  apply seq_plain; exact do_binInt rfl rfl rfl trivial; exact rfl
  apply seq_plain; exact do_move rfl; exact rfl
  refine seq_gsplit rfl rfl (fun u => ?_) (fun u => ?_)
  · have u : decide (x.frm < y.to) = true := u
    apply seq_guard (hd := rfl) (hl := rfl); exact do_fieldAddr rfl rfl; exact rfl
    apply seq_guard (hd := rfl) (hl := rfl); exact do_load rfl (by exact ext_get_new rfl) rfl (by exact rfl); exact rfl
    apply seq_guard (hd := rfl) (hl := rfl); exact do_fieldAddr rfl rfl; exact rfl
    apply seq_guard (hd := rfl) (hl := rfl); exact do_load rfl (by exact ext_get_new rfl) rfl (by exact rfl); exact rfl
    apply seq_guard (hd := rfl) (hl := rfl); exact do_binInt rfl rfl rfl trivial; exact rfl
    apply seq_plain; exact do_pick_t rfl rfl; exact rfl
    apply seq_plain; exact do_assign rfl; exact rfl
    apply seq_nil
    apply ct_ret
    refine fin_flat hc rfl rfl ⟨?_, rfl⟩
    unfold meetB
    rw [u]; rfl
  · have u : decide (x.frm < y.to) = false := u
    iterate 5 (apply seq_passed (hd := rfl) (hl := rfl) (hb := rfl); exact rfl)
    apply seq_plain; exact do_pick_f rfl rfl; exact rfl
    apply seq_plain; exact do_assign rfl; exact rfl
    apply seq_nil
    apply ct_ret
    refine fin_flat hc rfl rfl ⟨?_, rfl⟩
    unfold meetB
    rw [u]; rfl
theorem overlap_c {H : AHeap} {x y : Bk} : Ret Tryz.prog 46 [.agg ⟨bk x⟩, .agg ⟨bk y⟩] H (.bool (meetB x y)) H := by
  refine fn_start Tryz.func46 rfl rfl rfl fun hc => ?_
  apply ct_seq
  apply ct_region
  iterate 2 (apply seq_newP; exact do_box rfl rfl rfl; exact rfl)
  apply seq_plain; exact do_assign rfl; exact rfl
  apply seq_nil
  apply ct_seq
  apply ct_region
  apply seq_plain; exact do_fieldAddr rfl rfl; exact rfl
  apply seq_plain; exact do_load rfl (by exact ext_get_new rfl) rfl (by exact rfl); exact rfl
  apply seq_plain; exact do_fieldAddr rfl rfl; exact rfl
  apply seq_plain; exact do_load rfl (by exact ext_get_new rfl) rfl (by exact rfl); exact rfl
  apply seq_plain; exact do_binInt rfl rfl rfl trivial; exact rfl
  apply seq_plain; exact do_move rfl; exact rfl
  refine seq_gsplit rfl rfl (fun u => ?_) (fun u => ?_)
  · have u : decide (x.frm < y.to) = true := u
    apply seq_guard (hd := rfl) (hl := rfl); exact do_fieldAddr rfl rfl; exact rfl
    apply seq_guard (hd := rfl) (hl := rfl); exact do_load rfl (by exact ext_get_new rfl) rfl (by exact rfl); exact rfl
    apply seq_guard (hd := rfl) (hl := rfl); exact do_fieldAddr rfl rfl; exact rfl
    apply seq_guard (hd := rfl) (hl := rfl); exact do_load rfl (by exact ext_get_new rfl) rfl (by exact rfl); exact rfl
    apply seq_guard (hd := rfl) (hl := rfl); exact do_binInt rfl rfl rfl trivial; exact rfl
    apply seq_plain; exact do_pick_t rfl rfl; exact rfl
    apply seq_plain; exact do_assign rfl; exact rfl
    apply seq_nil
    apply ct_ret
    refine fin_flat hc rfl rfl ⟨?_, rfl⟩
    unfold meetB
    rw [u]; rfl
  · have u : decide (x.frm < y.to) = false := u
    iterate 5 (apply seq_passed (hd := rfl) (hl := rfl) (hb := rfl); exact rfl)
    apply seq_plain; exact do_pick_f rfl rfl; exact rfl
    apply seq_plain; exact do_assign rfl; exact rfl
    apply seq_nil
    apply ct_ret
    refine fin_flat hc rfl rfl ⟨?_, rfl⟩
    unfold meetB
    rw [u]; rfl
end Go.Proofs.YtflbffhahoblfaaGreatDoor
