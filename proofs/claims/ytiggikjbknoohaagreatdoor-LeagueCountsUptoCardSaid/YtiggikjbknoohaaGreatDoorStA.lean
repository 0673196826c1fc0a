/- The symbolic layer: sets are asked, strings are gone through. -/
import Derived.Test.YtiggikjbknoohaaGreatDoorFnL
import Derived.Test.YtiggikjbknoohaaGreatDoorSxK
import Derived.Laws.RangeString
import Derived.Laws.RangeAny
noncomputable section
namespace Go.Den
section
variable {P : Program} {α : Type} [DecidableEq α] {f : α → Value} {kt : TypeId} {l : EL} {h : AHeap}

/-- the zero of a type -/
def zeroOf (P : Program) (t : TypeId) : Option Value := match tyOf P t with
  | some ti => match ti.zero with
    | some z => if z.cells.toList.all constOk then some z else none
    | none => none
  | none => none
theorem zeroV_of {t : TypeId} {v : Value} (h : zeroOf P t = some v) : zeroV (ctxOf P) t = some v := by
  unfold zeroOf at h
  split at h
  · rename_i ti hti
    unfold zeroV
    rw [ctx_ty hti]
    exact h
  · cases h
/-- a is a key -/
def memK (ks : List α) (a : α) : Bool := ks.any fun x => decide (x = a)
theorem memK_iff {ks : List α} {a : α} : memK ks a = true ↔ a ∈ ks := by
  unfold memK
  rw [List.any_eq_true]
  constructor
  · rintro ⟨x, hx, h⟩
    rw [← of_decide_eq_true h]; exact hx
  · exact fun h => ⟨a, h, decide_eq_true rfl⟩
theorem memK_f {ks : List α} {a : α} (h : a ∉ ks) : memK ks a = false := by
  cases e : memK ks a
  · rfl
  · exact absurd (memK_iff.1 e) h
/-- a set is asked -/
theorem do_setGet {t et : TypeId} {m k : Operand} {r : Nat} {ks : List α} {a : α} (hm : ev l m = some (.map (some r))) (hkv : ev l k = some (f a)) (hh : h.get r = some (setM f ks)) (ht : mapKE P t = some (kt, et)) (hz : zeroOf P et = some (.bool false)) (hk : KeyOk P kt f) :
    Does P l (.lookup t m k false) h (.bool (memK ks a)) h := by
  refine ⟨?_⟩
  have key : lookupA P (ctxOf P) h t (.map (some r)) (f a) false = some (.bool (memK ks a)) := by
    simp only [lookupA, mapTypes_of ht, entriesOf, hh, setM, hk.key, if_true, findA_set hk]
    by_cases hmem : a ∈ ks
    · obtain ⟨n, hn⟩ := findIdx_mem hmem
      simp only [if_pos hmem, hn, Option.map_some]
      simp [memK_iff.2 hmem]
    · simp only [if_neg hmem, zeroV_of hz]
      simp [memK_f hmem]
  simp only [opA, evalA_ofA, hm, hkv, key]; rfl

theorem bytes_eq {a b : ByteArray} : byteL a.data.toList b.data.toList = decide (a = b) := by
  rw [byteL_eq, Bool.eq_iff_iff, beq_iff_eq, decide_eq_true_iff]
  constructor
  · intro e
    cases a; cases b
    simp only [ByteArray.mk.injEq]
    exact Array.toList_inj.1 e
  · intro e; rw [e]
end
section
variable {P : Program} {rd : Option Nat} {nt : Nat} {ops : Array Oper} {l : EL} {ds : List Nat} {K : St → Prop} {i : Nat} {r : List Oper} {ty : TypeId} {pos : String} {af : Array Edge} {H : AHeap} {lo : Nat}
end
end Go.Den
namespace Go.Proofs.YtiggikjbknoohaaGreatDoor
open Go Go.Den
set_option maxRecDepth 100000
theorem zeroBool : zeroOf Tryz.prog 4 = some (.bool false) := rfl
end Go.Proofs.YtiggikjbknoohaaGreatDoor
