/- TopNapEnds: the law's own walk. -/
import Derived.Test.YtppflopinmkpgaaDoorEiA
import Derived.Test.YtppflopinmkpgaaDoorSxT
import Derived.Test.YtppflopinmkpgaaDoorSxQ
import Derived.Test.YtppflopinmkpgaaDoorTcG
noncomputable section
namespace Go.Proofs.YtppflopinmkpgaaDoor
open Go Go.Den Go.Den.Title
set_option maxRecDepth 100000

theorem do_quo {P : Program} {l : EL} {h : AHeap} {x y : Operand} {t t' : TypeId} {a b : Nat} (hx : ev l x = some (.int .i64 (a : Int))) (hy : ev l y = some (.int .i64 (b : Int))) (ha : a < 9223372036854775808) (hr : b ≠ 0) : Does P l (.binOp .quo t x y t') h (.int .i64 ((a / b : Nat) : Int)) h := by
  refine do_binInt hx hy ?_ trivial
  have := Nat.div_le_self a b
  simp only [intBin]
  rw [if_neg (by omega), ← Int.ofNat_tdiv, wrapI, wrap_i64]
  generalize a / b = z at this
  omega
theorem do_remN {P : Program} {l : EL} {h : AHeap} {x y : Operand} {t t' : TypeId} {a b : Nat} (hx : ev l x = some (.int .i64 (a : Int))) (hy : ev l y = some (.int .i64 (b : Int))) (hr : b ≠ 0) : Does P l (.binOp .rem t x y t') h (.int .i64 ((a % b : Nat) : Int)) h := by
  refine do_binInt hx hy ?_ trivial
  simp only [intBin]
  rw [if_neg (by omega), ← Int.ofNat_tmod]
end Go.Proofs.YtppflopinmkpgaaDoor
