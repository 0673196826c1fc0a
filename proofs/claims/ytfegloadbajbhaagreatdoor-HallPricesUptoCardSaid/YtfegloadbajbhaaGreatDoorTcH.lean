/- Contracts: rows are sorted by insertion. -/
import Derived.Test.YtfegloadbajbhaaGreatDoorTcB
import Derived.Test.YtfegloadbajbhaaGreatDoorFnF
import Derived.Test.YtfegloadbajbhaaGreatDoorLaid
import Derived.Test.YtfegloadbajbhaaGreatDoorSxM
import Derived.Test.YtfegloadbajbhaaGreatDoorSxQ
import Derived.Test.YtfegloadbajbhaaGreatDoorTbN
noncomputable section
namespace Go.Proofs.YtfegloadbajbhaaGreatDoor
open Go Go.Den
set_option maxRecDepth 100000

theorem do_pred {P : Program} {l : EL} {h : AHeap} {x : Operand} {t t' : TypeId} {i : Nat} (hx : ev l x = some (.int .i64 ((i + 1 : Nat) : Int))) (hr : i < 9223372036854775807) : Does P l (.binOp .sub t x (.const (.int .i64 1)) t') h (.int .i64 (i : Int)) h := by
  have := do_sub (P := P) (l := l) (h := h) (t := t) (t' := t') (y := .const (.int .i64 1)) hx rfl (by omega)
  have e : ((i + 1 : Nat) : Int) - 1 = (i : Int) := by omega
  rw [e] at this
  exact this
end Go.Proofs.YtfegloadbajbhaaGreatDoor
