/- Contracts: fixtures, what is wrong with a list of them. -/
import Derived.Test.YtfegloadbajbhaaGreatDoorFnA
import Derived.Test.YtfegloadbajbhaaGreatDoorSxA
import Derived.Deep.Slices
import Derived.Deep.Strs
noncomputable section
namespace Go.Proofs.YtfegloadbajbhaaGreatDoor
open Go Go.Den
set_option maxRecDepth 10000

structure Fx where
  day : Int
  home : Int
  away : Int
end Go.Proofs.YtfegloadbajbhaaGreatDoor
/- Contracts: counts of home matches; same lists; copies. -/
noncomputable section
namespace Go.Proofs.YtfegloadbajbhaaGreatDoor
open Go Go.Den
set_option maxRecDepth 10000

theorem take_snoc {α : Type} {l : List α} {i : Nat} (h : i < l.length) : l.take (i + 1) = l.take i ++ [l[i]] := by
  rw [List.take_add_one, List.getElem?_eq_getElem h]; rfl
end Go.Proofs.YtfegloadbajbhaaGreatDoor
/- Opening a list of fixtures. -/
noncomputable section
namespace Go.Proofs.YtfegloadbajbhaaGreatDoor
open Go Go.Den Go.ChangeShapes Go.Deep
set_option maxRecDepth 10000
noncomputable instance : Inhabited Fx := ⟨⟨0, 0, 0⟩⟩

theorem trod_i64 {H : Type} {enc : TypeId × Value → H} {W : World} {b : Nat} {sp hd} {fuel : Nat} {cs : List Value} {x : DataW H × List MemPlace} (h : DataW.trod enc Tryz.prog W b sp hd fuel 3 cs = some x) : ∃ n, cs = [I n] := by
  have hu : Tryz.prog.underlying 3 = some (.int .i64) := rfl
  cases fuel with
  | zero => simp [DataW.trod] at h
  | succ fuel =>
    unfold DataW.trod at h
    rw [hu] at h
    match cs, h with
    | [.int k n], h =>
      simp only at h
      split at h
      · rename_i hk
        obtain ⟨rfl, _⟩ := hk
        exact ⟨n, rfl⟩
      · cases h
theorem add_none (b o n : Nat) : (⟨b, o, none⟩ : Addr).add n = ⟨b, o + n, none⟩ := by
  unfold Addr.add
  split
  · rename_i h; subst h; rfl
  · rfl