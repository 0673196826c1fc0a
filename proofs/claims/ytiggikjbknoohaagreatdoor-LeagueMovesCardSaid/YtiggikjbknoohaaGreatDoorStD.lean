/- The symbolic layer: maps to numbers. -/
import Derived.Test.YtiggikjbknoohaaGreatDoorStC
noncomputable section
namespace Go.Den
section
variable {P : Program} {α : Type} [DecidableEq α] {f : α → Value} {kt : TypeId} {l : EL} {h : AHeap}

def numEs (f : α → Value) : List (α × Int) → Nat → List MapEntry
  | [], _ => []
  | a :: r, i => { key := f a.1, val := .int .i64 a.2, born := i } :: numEs f r (i + 1)
/-- a map to numbers -/
def numM (f : α → Value) (ks : List (α × Int)) : ABlk := .map (numEs f ks 0) ks.length false
omit [DecidableEq α] in
theorem numEs_len : ∀ {ks : List (α × Int)} {i : Nat}, (numEs f ks i).length = ks.length
  | [], _ => rfl
  | _ :: r, i => by simp [numEs, numEs_len (ks := r)]
omit [DecidableEq α] in
theorem numEs_snoc : ∀ {ks : List (α × Int)} {i : Nat} {a : α × Int}, numEs f (ks ++ [a]) i = numEs f ks i ++ [{ key := f a.1, val := .int .i64 a.2, born := i + ks.length }]
  | [], i, a => by simp [numEs]
  | b :: r, i, a => by
    simp only [List.cons_append, numEs, numEs_snoc (ks := r)]
    simp; omega
theorem findA_none (hk : KeyOk P kt f) (a : α) : ∀ {ks : List (α × Int)} (i j : Nat), (∀ x ∈ ks, x.1 ≠ a) → findA P (ctxOf P) kt (f a) (numEs f ks i) j = some none
  | [], i, j, _ => rfl
  | b :: r, i, j, h => by
    have hfl : (!(f b.1).cells.toList.all flatC) = false := by rw [hk.flat]; rfl
    simp only [numEs, findA, hfl, Bool.false_eq_true, if_false, hk.eq]
    rw [decide_eq_false fun e => h b (List.mem_cons_self ..) e.symm]
    simp only
    exact findA_none hk a _ _ fun x hx => h x (List.mem_cons_of_mem _ hx)
theorem findA_some (hk : KeyOk P kt f) {a : α} {n : Int} : ∀ {ks : List (α × Int)} (i j : Nat), (ks.map (·.1)).Nodup → (a, n) ∈ ks → ∃ m b, findA P (ctxOf P) kt (f a) (numEs f ks i) j = some (some (m, { key := f a, val := .int .i64 n, born := b }))
  | [], i, j, _, h => by cases h
  | b :: r, i, j, hnd, h => by
    have hfl : (!(f b.1).cells.toList.all flatC) = false := by rw [hk.flat]; rfl
    rw [List.map_cons, List.nodup_cons] at hnd
    simp only [numEs, findA, hfl, Bool.false_eq_true, if_false, hk.eq]
    rcases List.mem_cons.1 h with h | h
    · subst h
      exact ⟨j, i, by simp⟩
    · have hne : ¬ a = b.1 := fun e => hnd.1 (List.mem_map.2 ⟨(a, n), h, e⟩)
      rw [decide_eq_false hne]
      simp only
      exact findA_some hk _ _ hnd.2 h

/-- a key is new: its entry is made -/
def entN (f : α → Value) (ks : List (α × Int)) (a : α) : ABlk := .map (numEs f ks 0 ++ [{ key := f a, val := .int .i64 0, born := ks.length }]) (ks.length + 1) false
theorem do_numNew {t et : TypeId} {m k : Operand} {r : Nat} {ks : List (α × Int)} {a : α} (hm : ev l m = some (.map (some r))) (hkv : ev l k = some (f a)) (hh : h.get r = some (numM f ks)) (ht : mapKE P t = some (kt, et)) (hz : zeroOf P et = some (.int .i64 0)) (hk : KeyOk P kt f) (hor : own r = true) (hn : ∀ x ∈ ks, x.1 ≠ a) :
    Does P l (.mapEntry t m k) h (.tuple #[.int .i64 0, .int .i64 ks.length]) (h.put r (entN f ks a)) := by
  have key : mapEntryA P (ctxOf P) h t (.map (some r)) (f a) = some (.tuple #[.int .i64 0, .int .i64 ks.length], h.put r (entN f ks a)) := by
    simp only [mapEntryA, mapTypes_of ht, hh, numM, hk.key, hor, Bool.and_self, if_true, findA_none hk a 0 0 hn, zeroV_of hz]; rfl
  refine ⟨?_⟩
  simp only [opA, evalA_ofA, hm, hkv, key]; rfl
omit [DecidableEq α] in
theorem findBorn_num {rest : List MapEntry} : ∀ {ks : List (α × Int)} {i j : Nat} {n : Int}, n = ((i + ks.length : Nat) : Int) → findBorn (numEs f ks i ++ rest) n j = findBorn rest n (j + ks.length)
  | [], i, j, n, _ => rfl
  | b :: r, i, j, n, h => by
    rw [List.length_cons] at h
    have hne : (((i : Nat) : Int) == n) = false := by simp; omega
    simp only [numEs, List.cons_append, findBorn, hne, Bool.false_eq_true, if_false]
    rw [findBorn_num (ks := r) (i := i + 1) (by omega), List.length_cons]
    congr 1; omega
omit [DecidableEq α] in
theorem do_numStore {t : TypeId} {m s x : Operand} {r : Nat} {ks : List (α × Int)} {a : α} {n : Int} (hm : ev l m = some (.map (some r))) (hs : ev l s = some (.int .i64 ks.length)) (hx : ev l x = some (.int .i64 n)) (hh : h.get r = some (entN f ks a)) (hor : own r = true) :
    Does P l (.entryStore t m s x) h undefV (h.put r (numM f (ks ++ [(a, n)]))) := by
  have key : entryStoreA h (.map (some r)) (.int .i64 ks.length) (.int .i64 n) = some (h.put r (numM f (ks ++ [(a, n)]))) := by
    simp only [entryStoreA, hh, entN, hor, if_true]
    rw [findBorn_num (by omega)]
    simp only [findBorn, beq_self_eq_true, if_true]
    rw [modE_app (by rw [numEs_len]; omega)]
    unfold numM
    rw [numEs_snoc, List.length_append, List.length_singleton, Nat.zero_add]
  refine ⟨?_⟩
  simp only [opA, evalA_ofA, hm, hs, hx, key]; rfl
/-- a number is asked -/
theorem do_numGet {t et : TypeId} {m k : Operand} {r : Nat} {ks : List (α × Int)} {a : α} {n : Int} (hm : ev l m = some (.map (some r))) (hkv : ev l k = some (f a)) (hh : h.get r = some (numM f ks)) (ht : mapKE P t = some (kt, et)) (hk : KeyOk P kt f) (hnd : (ks.map (·.1)).Nodup) (hmem : (a, n) ∈ ks) :
    Does P l (.lookup t m k true) h (.tuple #[.int .i64 n, .bool true]) h := by
  obtain ⟨j, b, hf⟩ := findA_some hk 0 0 hnd hmem
  refine ⟨?_⟩
  have key : lookupA P (ctxOf P) h t (.map (some r)) (f a) true = some (.tuple #[.int .i64 n, .bool true]) := by
    simp only [lookupA, mapTypes_of ht, entriesOf, hh, numM, hk.key, if_true, hf]
  simp only [opA, evalA_ofA, hm, hkv, key]; rfl
omit [DecidableEq α] in
theorem bi_lenNum {t : TypeId} {rest : List TypeId} {r : Nat} {ks : List (α × Int)} {vs : List Value} {kt et : TypeId} (ht : mapKE P t = some (kt, et)) (hh : h.get r = some (numM f ks)) : biA (ctxOf P) h .len (t :: rest) (.map (some r) :: vs) = some (.int .i64 ks.length, h) := by
  unfold mapKE at ht
  split at ht
  · rename_i ti hti
    split at ht
    · rename_i k e hu
      simp only [biA, lenA, ctx_ty hti, hu, hh, numM]
      simp [numEs_len]
    · cases ht
  · cases ht
end
end Go.Den
