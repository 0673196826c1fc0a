/- The symbolic layer: sets are asked, strings are gone through. -/
import Derived.Test.YtiggikjbknoohaaGreatDoorFnL
import Derived.Test.YtiggikjbknoohaaGreatDoorSxK
import Derived.Laws.RangeString
import Derived.Laws.RangeAny
noncomputable section
namespace Go.Den
section
variable {P : Program} {α : Type} [DecidableEq α] {f : α → Value} {kt : TypeId} {l : EL} {h : AHeap}

/-- the zero of a type -/
def zeroOf (P : Program) (t : TypeId) : Option Value := match tyOf P t with
  | some ti => match ti.zero with
    | some z => if z.cells.toList.all constOk then some z else none
    | none => none
  | none => none
theorem zeroV_of {t : TypeId} {v : Value} (h : zeroOf P t = some v) : zeroV (ctxOf P) t = some v := by
  unfold zeroOf at h
  split at h
  · rename_i ti hti
    unfold zeroV
    rw [ctx_ty hti]
    exact h
  · cases h
/-- a is a key -/
def memK (ks : List α) (a : α) : Bool := ks.any fun x => decide (x = a)
theorem memK_iff {ks : List α} {a : α} : memK ks a = true ↔ a ∈ ks := by
  unfold memK
  rw [List.any_eq_true]
  constructor
  · rintro ⟨x, hx, h⟩
    rw [← of_decide_eq_true h]; exact hx
  · exact fun h => ⟨a, h, decide_eq_true rfl⟩
theorem memK_f {ks : List α} {a : α} (h : a ∉ ks) : memK ks a = false := by
  cases e : memK ks a
  · rfl
  · exact absurd (memK_iff.1 e) h
/-- a set is asked -/
theorem do_setGet {t et : TypeId} {m k : Operand} {r : Nat} {ks : List α} {a : α} (hm : ev l m = some (.map (some r))) (hkv : ev l k = some (f a)) (hh : h.get r = some (setM f ks)) (ht : mapKE P t = some (kt, et)) (hz : zeroOf P et = some (.bool false)) (hk : KeyOk P kt f) :
    Does P l (.lookup t m k false) h (.bool (memK ks a)) h := by
  refine ⟨?_⟩
  have key : lookupA P (ctxOf P) h t (.map (some r)) (f a) false = some (.bool (memK ks a)) := by
    simp only [lookupA, mapTypes_of ht, entriesOf, hh, setM, hk.key, if_true, findA_set hk]
    by_cases hmem : a ∈ ks
    · obtain ⟨n, hn⟩ := findIdx_mem hmem
      simp only [if_pos hmem, hn, Option.map_some]
      simp [memK_iff.2 hmem]
    · simp only [if_neg hmem, zeroV_of hz]
      simp [memK_f hmem]
  simp only [opA, evalA_ofA, hm, hkv, key]; rfl

theorem modE_app {e : MapEntry} {g : MapEntry → MapEntry} : ∀ {es : List MapEntry} {n : Nat}, n = es.length → modE (es ++ [e]) n g = es ++ [g e]
  | [], n, h => by subst h; rfl
  | b :: r, n, h => by
    subst h
    simp only [List.length_cons, List.cons_append, modE, modE_app (es := r) rfl]
theorem do_rangeStr {t : TypeId} {x : Operand} {s : ByteArray} (hx : ev l x = some (.string s)) (ht : strOf P t = true) : Does P l (.range t x) h (.pointer (some ⟨h.fresh, 0, none⟩)) (h.add (.siter s 0)) := by
  unfold strOf at ht
  split at ht
  · rename_i ti hti
    split at ht
    · rename_i hk
      refine ⟨?_⟩
      simp only [opA, evalA_ofA, hx, rangeA, ctx_ty hti, hk]; rfl
    · cases ht
  · cases ht
theorem do_nextStr {it : Operand} {r pos : Nat} {s : ByteArray} (hi : ev l it = some (.pointer (some ⟨r, 0, none⟩))) (hg : h.get r = some (.siter s pos)) (ho : own r = true) (hp : pos < s.size) :
    Does P l (.next it true) h (.tuple #[.bool true, .int .i64 pos, .int .i32 (Utf8.decode s pos).1]) (h.put r (.siter s (pos + (Utf8.decode s pos).2))) := by
  refine ⟨?_⟩
  simp only [opA, evalA_ofA, hi, nextA, hg, ho]
  simp [hp]; rfl
theorem do_nextEnd {it : Operand} {r pos : Nat} {s : ByteArray} (hi : ev l it = some (.pointer (some ⟨r, 0, none⟩))) (hg : h.get r = some (.siter s pos)) (ho : own r = true) (hp : ¬ pos < s.size) :
    Does P l (.next it true) h (.tuple #[.bool false]) h := by
  refine ⟨?_⟩
  simp only [opA, evalA_ofA, hi, nextA, hg, ho]
  simp [hp]; rfl

/-- the bytes of a text -/
def byteI (s : ByteArray) (i : Nat) : Int := ((s.data.toList[i]?.map fun b => ((b.toNat : Nat) : Int))).getD 0
theorem byte_at {s : ByteArray} {i : Nat} (h : i < s.size) : ∃ b : UInt8, s.data.toList[i]? = some b ∧ s[i]'h = b ∧ byteI s i = ((b.toNat : Nat) : Int) := by
  have hl : i < s.data.toList.length := by simpa using h
  refine ⟨s.data.toList[i], List.getElem?_eq_getElem hl, by simp; rfl, ?_⟩
  unfold byteI
  rw [List.getElem?_eq_getElem hl]; rfl
theorem bytes_eq {a b : ByteArray} : byteL a.data.toList b.data.toList = decide (a = b) := by
  rw [byteL_eq, Bool.eq_iff_iff, beq_iff_eq, decide_eq_true_iff]
  constructor
  · intro e
    cases a; cases b
    simp only [ByteArray.mk.injEq]
    exact Array.toList_inj.1 e
  · intro e; rw [e]
end
section
variable {P : Program} {rd : Option Nat} {nt : Nat} {ops : Array Oper} {l : EL} {ds : List Nat} {K : St → Prop} {i : Nat} {r : List Oper} {ty : TypeId} {pos : String} {af : Array Edge} {H : AHeap} {lo : Nat}
/-- a new block is turned, and something told -/
theorem seq_putV [PC P] {o : Oper} {L : List (Option ABlk)} {d k : Nat} {op : Op} {v : Value} {x : ABlk} (hc : Closed H) (hlt : k < L.length) (hop : Does P l op (ext H lo L) v ((ext H lo L).put (nb H k) x)) (hd : Nat.blt d nt = true)
    (hk : SeqL P rd nt ops (o :: r) (i + 1) ⟨ofA ((d, v) :: l), ds, ext H lo (L.set k (some x))⟩ K) : SeqL P rd nt ops (⟨some d, op, ty, pos, af, none⟩ :: o :: r) i ⟨ofA l, ds, ext H lo L⟩ K :=
  seq_plain hop hd (seqL_to sub_refl (ext_put hc hlt x) (by simp) hk)
end
end Go.Den
namespace Go.Proofs.YtiggikjbknoohaaGreatDoor
open Go Go.Den
set_option maxRecDepth 100000
theorem tyStr : ∃ ti, (ctxOf Tryz.prog).ty.get 9 = some ti ∧ ti.und = .string := ⟨_, ctx_ty rfl, rfl⟩
abbrev strV (s : ByteArray) : Value := .string s
theorem keyStr : KeyOk Tryz.prog 9 strV := by
  obtain ⟨ti, h1, h2⟩ := tyStr
  refine ⟨fun a => ?_, fun a => ?_, fun a b => ?_, fun a => ?_⟩
  · simp [keyOk, chkV, h1, h2, flatC, Value.cells]
  · simp [flatC, Value.cells]
  · simp only [eqV, h1, h2, bytes_eq]
  · simp [sameKey, eqFlat, byteL_eq]
theorem zeroBool : zeroOf Tryz.prog 4 = some (.bool false) := rfl
end Go.Proofs.YtiggikjbknoohaaGreatDoor
