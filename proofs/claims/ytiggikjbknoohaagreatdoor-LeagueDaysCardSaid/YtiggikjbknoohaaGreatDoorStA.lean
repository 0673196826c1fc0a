/- The symbolic layer: sets are asked, strings are gone through. -/
import Derived.Test.YtiggikjbknoohaaGreatDoorFnL
import Derived.Test.YtiggikjbknoohaaGreatDoorSxK
import Derived.Laws.RangeString
import Derived.Laws.RangeAny
noncomputable section
namespace Go.Den
section
variable {P : Program} {α : Type} [DecidableEq α] {f : α → Value} {kt : TypeId} {l : EL} {h : AHeap}

/-- the zero of a type -/
def zeroOf (P : Program) (t : TypeId) : Option Value := match tyOf P t with
  | some ti => match ti.zero with
    | some z => if z.cells.toList.all constOk then some z else none
    | none => none
  | none => none
theorem zeroV_of {t : TypeId} {v : Value} (h : zeroOf P t = some v) : zeroV (ctxOf P) t = some v := by
  unfold zeroOf at h
  split at h
  · rename_i ti hti
    unfold zeroV
    rw [ctx_ty hti]
    exact h
  · cases h
/-- a is a key -/
def memK (ks : List α) (a : α) : Bool := ks.any fun x => decide (x = a)
theorem memK_iff {ks : List α} {a : α} : memK ks a = true ↔ a ∈ ks := by
  unfold memK
  rw [List.any_eq_true]
  constructor
  · rintro ⟨x, hx, h⟩
    rw [← of_decide_eq_true h]; exact hx
  · exact fun h => ⟨a, h, decide_eq_true rfl⟩
theorem memK_f {ks : List α} {a : α} (h : a ∉ ks) : memK ks a = false := by
  cases e : memK ks a
  · rfl
  · exact absurd (memK_iff.1 e) h
/-- a set is asked -/
theorem do_setGet {t et : TypeId} {m k : Operand} {r : Nat} {ks : List α} {a : α} (hm : ev l m = some (.map (some r))) (hkv : ev l k = some (f a)) (hh : h.get r = some (setM f ks)) (ht : mapKE P t = some (kt, et)) (hz : zeroOf P et = some (.bool false)) (hk : KeyOk P kt f) :
    Does P l (.lookup t m k false) h (.bool (memK ks a)) h := by
  refine ⟨?_⟩
  have key : lookupA P (ctxOf P) h t (.map (some r)) (f a) false = some (.bool (memK ks a)) := by
    simp only [lookupA, mapTypes_of ht, entriesOf, hh, setM, hk.key, if_true, findA_set hk]
    by_cases hmem : a ∈ ks
    · obtain ⟨n, hn⟩ := findIdx_mem hmem
      simp only [if_pos hmem, hn, Option.map_some]
      simp [memK_iff.2 hmem]
    · simp only [if_neg hmem, zeroV_of hz]
      simp [memK_f hmem]
  simp only [opA, evalA_ofA, hm, hkv, key]; rfl

/-- a key is new: its entry is made -/
def entM {α : Type} (f : α → Value) (ks : List α) (a : α) : ABlk := .map (setEs f ks 0 ++ [{ key := f a, val := .bool false, born := ks.length }]) (ks.length + 1) false
theorem do_entNew {t et : TypeId} {m k : Operand} {r : Nat} {ks : List α} {a : α} (hm : ev l m = some (.map (some r))) (hkv : ev l k = some (f a)) (hh : h.get r = some (setM f ks)) (ht : mapKE P t = some (kt, et)) (hz : zeroOf P et = some (.bool false)) (hk : KeyOk P kt f) (hor : own r = true) (hn : a ∉ ks) :
    Does P l (.mapEntry t m k) h (.tuple #[.bool false, .int .i64 ks.length]) (h.put r (entM f ks a)) := by
  have key : mapEntryA P (ctxOf P) h t (.map (some r)) (f a) = some (.tuple #[.bool false, .int .i64 ks.length], h.put r (entM f ks a)) := by
    simp only [mapEntryA, mapTypes_of ht, hh, setM, hk.key, hor, Bool.and_self, if_true, findA_set hk, if_neg hn, zeroV_of hz]; rfl
  refine ⟨?_⟩
  simp only [opA, evalA_ofA, hm, hkv, key]; rfl
omit [DecidableEq α] in
theorem findBorn_set {rest : List MapEntry} : ∀ {ks : List α} {i j : Nat} {n : Int}, n = ((i + ks.length : Nat) : Int) → findBorn (setEs f ks i ++ rest) n j = findBorn rest n (j + ks.length)
  | [], i, j, n, _ => rfl
  | b :: r, i, j, n, h => by
    rw [List.length_cons] at h
    have hne : (((i : Nat) : Int) == n) = false := by simp; omega
    simp only [setEs, List.cons_append, findBorn, hne, Bool.false_eq_true, if_false]
    rw [findBorn_set (ks := r) (i := i + 1) (by omega), List.length_cons]
    congr 1; omega
theorem modE_app {e : MapEntry} {g : MapEntry → MapEntry} : ∀ {es : List MapEntry} {n : Nat}, n = es.length → modE (es ++ [e]) n g = es ++ [g e]
  | [], n, h => by subst h; rfl
  | b :: r, n, h => by
    subst h
    simp only [List.length_cons, List.cons_append, modE, modE_app (es := r) rfl]
omit [DecidableEq α] in
theorem do_entStore {t : TypeId} {m s x : Operand} {r : Nat} {ks : List α} {a : α} (hm : ev l m = some (.map (some r))) (hs : ev l s = some (.int .i64 ks.length)) (hx : ev l x = some (.bool true)) (hh : h.get r = some (entM f ks a)) (hor : own r = true) :
    Does P l (.entryStore t m s x) h undefV (h.put r (setM f (ks ++ [a]))) := by
  have key : entryStoreA h (.map (some r)) (.int .i64 ks.length) (.bool true) = some (h.put r (setM f (ks ++ [a]))) := by
    simp only [entryStoreA, hh, entM, hor, if_true]
    rw [findBorn_set (by omega)]
    simp only [findBorn, beq_self_eq_true, if_true]
    rw [modE_app (by rw [setEs_len]; omega)]
    unfold setM
    rw [setEs_snoc, List.length_append, List.length_singleton, Nat.zero_add]
  refine ⟨?_⟩
  simp only [opA, evalA_ofA, hm, hs, hx, key]; rfl

end
section
variable {P : Program} {rd : Option Nat} {nt : Nat} {ops : Array Oper} {l : EL} {ds : List Nat} {K : St → Prop} {i : Nat} {r : List Oper} {ty : TypeId} {pos : String} {af : Array Edge} {H : AHeap} {lo : Nat}
end
end Go.Den
namespace Go.Proofs.YtiggikjbknoohaaGreatDoor
open Go Go.Den
set_option maxRecDepth 100000
theorem zeroBool : zeroOf Tryz.prog 4 = some (.bool false) := rfl
end Go.Proofs.YtiggikjbknoohaaGreatDoor
