/- Contracts: lists of fixtures that are the same, small numbers. -/
import Derived.Test.YtppflopinmkpgaaDoorFnL
import Derived.Test.YtppflopinmkpgaaDoorSxK
import Derived.Test.YtppflopinmkpgaaDoorTcB
noncomputable section
namespace Go.Proofs.YtppflopinmkpgaaDoor
open Go Go.Den
set_option maxRecDepth 100000

/-- n, made even -/
def evenN (n : Nat) : Nat := n + n % 2
theorem even_c {H : AHeap} {n : Nat} (hn : n ≤ 1000000) : Ret Tryd.prog 18 [I n] H (I (evenN n)) H := by
  have e : ((n : Int)).tmod 2 = ((n % 2 : Nat) : Int) := by rw [Int.tmod_eq_emod_of_nonneg (by omega)]; rfl
  refine fn_start Tryd.func18 rfl rfl rfl fun hc => ?_
  apply ct_seq
  apply ct_region
  apply seq_plain; exact do_assign rfl; exact rfl
  apply seq_nil
  apply ct_seq
  apply ct_region
  apply seq_plain; exact do_move rfl; exact rfl
  apply seq_plain; exact do_move rfl; exact rfl
  apply seq_plain; exact do_rem rfl rfl (by decide); exact rfl
  apply seq_plain; exact do_add rfl rfl (by omega); exact rfl
  apply seq_plain; exact do_assign rfl; exact rfl
  apply seq_nil
  apply ct_ret
  refine fin_flat hc rfl rfl ⟨?_, rfl⟩
  show I ((n : Int) + (n : Int).tmod 2) = _
  rw [e]
  simp [evenN]
theorem tyI : ∃ ti, (ctxOf Tryd.prog).ty.get 3 = some ti ∧ ti.und = .int .i64 ∧ ti.size = 1 ∧ isAggD ti.und = false := ⟨_, ctx_ty rfl, rfl, rfl, rfl⟩
end Go.Proofs.YtppflopinmkpgaaDoor
/- Contracts: the reference's fixtures. -/
noncomputable section
namespace Go.Proofs.YtppflopinmkpgaaDoor
open Go Go.Den
set_option maxRecDepth 100000

/-- the k-th pair of a round, but for the first one -/
def pairF (n r k : Nat) : Fx :=
  let c := evenN n - 1
  if k % 2 = 0 then ⟨r, ((r + c - k) % c : Nat), ((r + k) % c : Nat)⟩ else ⟨r, ((r + k) % c : Nat), ((r + c - k) % c : Nat)⟩
def headF (n r : Nat) : List Fx := if n = evenN n then [if r % 2 = 1 then ⟨r, r, (evenN n - 1 : Nat)⟩ else ⟨r, (evenN n - 1 : Nat), r⟩] else []
def rowTo (n r k : Nat) : List Fx := headF n r ++ (List.range (k - 1)).map fun j => pairF n r (j + 1)
def rowF (n r : Nat) : List Fx := rowTo n r (evenN n / 2)
def genF (n : Nat) : List Fx := (List.range (evenN n - 1)).flatMap (rowF n)
theorem tmod_n {a b : Nat} : ((a : Int)).tmod (b : Int) = ((a % b : Nat) : Int) := by
  rw [Int.tmod_eq_emod_of_nonneg (by omega)]; rfl
theorem even_ge {n : Nat} (h : 2 ≤ n) (h2 : n ≤ 24) : 2 ≤ evenN n ∧ evenN n ≤ 24 ∧ n ≤ evenN n ∧ evenN n % 2 = 0 := by
  unfold evenN; omega
theorem quo2 {P : Program} {l : EL} {h : AHeap} {t t' : TypeId} {x y : Operand} {a : Nat} (hx : ev l x = some (.int .i64 (a : Int))) (hy : ev l y = some (.int .i64 2)) (hlt : a < 9223372036854775808) : Does P l (.binOp .quo t x y t') h (.int .i64 ((a / 2 : Nat) : Int)) h := by
  have := do_binInt (P := P) (h := h) (t := t) (t' := t') (op := .quo) (v := wrapI .i64 ((a : Int).tdiv 2)) hx hy rfl trivial
  have e : wrapI .i64 ((a : Int).tdiv 2) = .int .i64 ((a / 2 : Nat) : Int) := by
    have e1 : (a : Int).tdiv 2 = ((a / 2 : Nat) : Int) := by rw [Int.tdiv_eq_ediv_of_nonneg (by omega)]; rfl
    rw [e1]
    show Value.int .i64 (IntKind.i64.wrap _) = _
    rw [wrap_i64 (by omega)]
  rwa [e] at this
theorem row_len {n r k : Nat} (h : evenN n ≤ 24) (hk : k ≤ 24) : (rowTo n r k).length ≤ 30 := by
  unfold rowTo headF
  rw [List.length_append, List.length_map, List.length_range]
  split <;> simp <;> omega
end Go.Proofs.YtppflopinmkpgaaDoor
