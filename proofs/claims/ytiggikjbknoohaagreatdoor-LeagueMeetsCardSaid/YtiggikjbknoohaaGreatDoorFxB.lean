/- Contracts: the reference's fixtures. -/
import Derived.Test.YtiggikjbknoohaaGreatDoorFxA
import Derived.Test.YtiggikjbknoohaaGreatDoorStB
noncomputable section
namespace Go.Proofs.YtiggikjbknoohaaGreatDoor
open Go Go.Den
set_option maxRecDepth 100000

/-- the k-th pair of a round, but for the first one -/
def pairF (n r k : Nat) : Fx :=
  let c := evenN n - 1
  if k % 2 = 0 then ⟨r, ((r + c - k) % c : Nat), ((r + k) % c : Nat)⟩ else ⟨r, ((r + k) % c : Nat), ((r + c - k) % c : Nat)⟩
def headF (n r : Nat) : List Fx := if n = evenN n then [if r % 2 = 1 then ⟨r, r, (evenN n - 1 : Nat)⟩ else ⟨r, (evenN n - 1 : Nat), r⟩] else []
def rowTo (n r k : Nat) : List Fx := headF n r ++ (List.range (k - 1)).map fun j => pairF n r (j + 1)
def rowF (n r : Nat) : List Fx := rowTo n r (evenN n / 2)
def genF (n : Nat) : List Fx := (List.range (evenN n - 1)).flatMap (rowF n)
theorem tmod_n {a b : Nat} : ((a : Int)).tmod (b : Int) = ((a % b : Nat) : Int) := by
  rw [Int.tmod_eq_emod_of_nonneg (by omega)]; rfl
theorem even_ge {n : Nat} (h : 2 ≤ n) (h2 : n ≤ 24) : 2 ≤ evenN n ∧ evenN n ≤ 24 ∧ n ≤ evenN n ∧ evenN n % 2 = 0 := by
  unfold evenN; omega
theorem quo2 {P : Program} {l : EL} {h : AHeap} {t t' : TypeId} {x y : Operand} {a : Nat} (hx : ev l x = some (.int .i64 (a : Int))) (hy : ev l y = some (.int .i64 2)) (hlt : a < 9223372036854775808) : Does P l (.binOp .quo t x y t') h (.int .i64 ((a / 2 : Nat) : Int)) h := by
  have := do_binInt (P := P) (h := h) (t := t) (t' := t') (op := .quo) (v := wrapI .i64 ((a : Int).tdiv 2)) hx hy rfl trivial
  have e : wrapI .i64 ((a : Int).tdiv 2) = .int .i64 ((a / 2 : Nat) : Int) := by
    have e1 : (a : Int).tdiv 2 = ((a / 2 : Nat) : Int) := by rw [Int.tdiv_eq_ediv_of_nonneg (by omega)]; rfl
    rw [e1]
    show Value.int .i64 (IntKind.i64.wrap _) = _
    rw [wrap_i64 (by omega)]
  rwa [e] at this
theorem row_len {n r k : Nat} (h : evenN n ≤ 24) (hk : k ≤ 24) : (rowTo n r k).length ≤ 30 := by
  unfold rowTo headF
  rw [List.length_append, List.length_map, List.length_range]
  split <;> simp <;> omega
end Go.Proofs.YtiggikjbknoohaaGreatDoor
