/- Contracts: the reference's word on a list of fixtures. -/
import Derived.Test.YtiggikjbknoohaaGreatDoorFnC
import Derived.Test.YtiggikjbknoohaaGreatDoorSxA
import Derived.Deep.Slices
import Derived.Deep.Strs
noncomputable section
namespace Go.Proofs.YtiggikjbknoohaaGreatDoor
open Go Go.Den
set_option maxRecDepth 10000

theorem outL_f {n a b : Int} (h : outL n a b = false) : a ≤ n ∧ n ≤ b := by simp [outL] at h; omega
end Go.Proofs.YtiggikjbknoohaaGreatDoor
/- Contracts: counts of home matches; same lists; copies. -/
noncomputable section
namespace Go.Proofs.YtiggikjbknoohaaGreatDoor
open Go Go.Den
set_option maxRecDepth 10000

theorem take_snoc {α : Type} {l : List α} {i : Nat} (h : i < l.length) : l.take (i + 1) = l.take i ++ [l[i]] := by
  rw [List.take_add_one, List.getElem?_eq_getElem h]; rfl
end Go.Proofs.YtiggikjbknoohaaGreatDoor
/- Plain law: all pairs met are counted. -/
noncomputable section
namespace Go.Proofs.YtiggikjbknoohaaGreatDoor
open Go Go.Den

theorem nodup_len {α : Type} [DecidableEq α] : ∀ {k m : List α}, k.Nodup → (∀ x ∈ k, x ∈ m) → k.length ≤ m.length
  | [], _, _, _ => by simp
  | a :: r, m, hn, hs => by
    rw [List.nodup_cons] at hn
    have ha := hs a (List.mem_cons_self ..)
    have := nodup_len (k := r) (m := m.erase a) hn.2 (fun x hx => (List.mem_erase_of_ne (fun e => hn.1 (by rw [← e]; exact hx))).2 (hs x (List.mem_cons_of_mem _ hx)))
    rw [List.length_erase_of_mem ha] at this
    have := List.length_pos_of_mem ha
    simp only [List.length_cons]
    omega
theorem mem_addK {α : Type} [DecidableEq α] {k : List α} {a x : α} : x ∈ addK k a ↔ x ∈ k ∨ x = a := by
  unfold addK
  split
  · rename_i h
    constructor
    · exact .inl
    · rintro (h' | rfl)
      · exact h'
      · exact h
  · simp
end Go.Proofs.YtiggikjbknoohaaGreatDoor
/- Opening a list of fixtures. -/
noncomputable section
namespace Go.Proofs.YtiggikjbknoohaaGreatDoor
open Go Go.Den Go.ChangeShapes Go.Deep
set_option maxRecDepth 10000
noncomputable instance : Inhabited Fx := ⟨⟨0, 0, 0⟩⟩

theorem trod_i64 {H : Type} {enc : TypeId × Value → H} {W : World} {b : Nat} {sp hd} {fuel : Nat} {cs : List Value} {x : DataW H × List MemPlace} (h : DataW.trod enc Tryz.prog W b sp hd fuel 3 cs = some x) : ∃ n, cs = [I n] := by
  have hu : Tryz.prog.underlying 3 = some (.int .i64) := rfl
  cases fuel with
  | zero => simp [DataW.trod] at h
  | succ fuel =>
    unfold DataW.trod at h
    rw [hu] at h
    match cs, h with
    | [.int k n], h =>
      simp only at h
      split at h
      · rename_i hk
        obtain ⟨rfl, _⟩ := hk
        exact ⟨n, rfl⟩
      · cases h
theorem add_none (b o n : Nat) : (⟨b, o, none⟩ : Addr).add n = ⟨b, o + n, none⟩ := by
  unfold Addr.add
  split
  · rename_i h; subst h; rfl
  · rfl