/- Contracts: the first kind with too many bookings, as the reference has it. -/
import Derived.Test.YtflbffhahoblfaaGreatDoorBgC
import Derived.Test.YtflbffhahoblfaaGreatDoorHkC
noncomputable section
namespace Go.Proofs.YtflbffhahoblfaaGreatDoor
open Go Go.Den
set_option maxRecDepth 100000
abbrev Ovb := ByteArray × Int × Bool
def roB (a : Ovb) (x : Bk) : Bool := (!a.2.2 || Op.bytesLess x.kind.data.toList a.1.data.toList) || (decide (x.kind = a.1) && decide (x.frm < a.2.1))
def roS (t : List Tb) (l : List Bk) (a : Ovb) (x : Bk) : Ovb := if (cntD l x.kind x.frm : Int) ≤ cntK t x.kind then a else if roB a x = true then (x.kind, x.frm, true) else a
def roA (t : List Tb) (l : List Bk) (i : Nat) : Ovb := (l.take i).foldl (roS t l) (strB [], 0, false)
theorem roA_succ {t : List Tb} {l : List Bk} {i : Nat} (h : i < l.length) : roA t l (i + 1) = roS t l (roA t l i) l[i] := by
  unfold roA
  rw [take_snoc h, List.foldl_append]; rfl
end Go.Proofs.YtflbffhahoblfaaGreatDoor
