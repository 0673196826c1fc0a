/- LeagueChecks: the contract over every input. -/
import Derived.Test.YtflbffhahoblfaaGreatDoorLaid
import Derived.WalkKit
import Derived.ProofKit
import Derived.OpenShut
import Derived.Deep.DeepHandedRow
import Derived.Lib.LaidTab
import Derived.Test.YtflbffhahoblfaaGreatDoorSxP
import Derived.Laws.RangeString
import Derived.Laws.RangeAny
noncomputable section
namespace Go.Proofs.YtflbffhahoblfaaGreatDoor
open Go Go.Den Go.ChangeShapes Go.WideShapes Go.ChangeAt Go.RowKit
set_option maxRecDepth 10000
def B1 (i : BI) (cs : List Value) : Nat → Option BB := fun k => if k = 1000 then some ⟨i, cs⟩ else B0 k
theorem b0_high {k : Nat} {x : BB} (h : B0 k = some x) : k < 1000 := by
  have h2 := (bOf_ok bl0_ok k x h).1
  first | exact h2 | omega | exact h2.1
theorem glo_ext {B : Nat → Option BB} {H : AHeap} (hB : ∀ k x, B0 k = some x → B k = some x) (hE : Ext (heapOf B) H) : Glo B0 H := by
  intro k x hx
  have := hE _ _ (heapOf_get (hB k x hx))
  rw [AHeap.get_odd _ (by omega)] at this
  rw [show (2 * k + 1) / 2 = k by omega] at this
  exact this
end Go.Proofs.YtflbffhahoblfaaGreatDoor
/- The symbolic layer: sets are asked, strings are gone through. -/
noncomputable section
namespace Go.Den
section
variable {P : Program} {α : Type} [DecidableEq α] {f : α → Value} {kt : TypeId} {l : EL} {h : AHeap}
theorem do_rangeStr {t : TypeId} {x : Operand} {s : ByteArray} (hx : ev l x = some (.string s)) (ht : strOf P t = true) : Does P l (.range t x) h (.pointer (some ⟨h.fresh, 0, none⟩)) (h.add (.siter s 0)) := by
  unfold strOf at ht
  split at ht
  · rename_i ti hti
    split at ht
    · rename_i hk
      refine ⟨?_⟩
      simp only [opA, evalA_ofA, hx, rangeA, ctx_ty hti, hk]; rfl
    · cases ht
  · cases ht
theorem do_nextStr {it : Operand} {r pos : Nat} {s : ByteArray} (hi : ev l it = some (.pointer (some ⟨r, 0, none⟩))) (hg : h.get r = some (.siter s pos)) (ho : own r = true) (hp : pos < s.size) :
    Does P l (.next it true) h (.tuple #[.bool true, .int .i64 pos, .int .i32 (Utf8.decode s pos).1]) (h.put r (.siter s (pos + (Utf8.decode s pos).2))) := by
  refine ⟨?_⟩
  simp only [opA, evalA_ofA, hi, nextA, hg, ho]
  simp [hp]; rfl
theorem do_nextEnd {it : Operand} {r pos : Nat} {s : ByteArray} (hi : ev l it = some (.pointer (some ⟨r, 0, none⟩))) (hg : h.get r = some (.siter s pos)) (ho : own r = true) (hp : ¬ pos < s.size) :
    Does P l (.next it true) h (.tuple #[.bool false]) h := by
  refine ⟨?_⟩
  simp only [opA, evalA_ofA, hi, nextA, hg, ho]
  simp [hp]; rfl
def byteI (s : ByteArray) (i : Nat) : Int := ((s.data.toList[i]?.map fun b => ((b.toNat : Nat) : Int))).getD 0
theorem byte_at {s : ByteArray} {i : Nat} (h : i < s.size) : ∃ b : UInt8, s.data.toList[i]? = some b ∧ s[i]'h = b ∧ byteI s i = ((b.toNat : Nat) : Int) := by
  have hl : i < s.data.toList.length := by simpa using h
  refine ⟨s.data.toList[i], List.getElem?_eq_getElem hl, by simp; rfl, ?_⟩
  unfold byteI
  rw [List.getElem?_eq_getElem hl]; rfl
theorem bytes_eq {a b : ByteArray} : byteL a.data.toList b.data.toList = decide (a = b) := by
  rw [byteL_eq, Bool.eq_iff_iff, beq_iff_eq, decide_eq_true_iff]
  constructor
  · intro e
    cases a; cases b
    simp only [ByteArray.mk.injEq]
    exact Array.toList_inj.1 e
  · intro e; rw [e]
end
section
variable {P : Program} {rd : Option Nat} {nt : Nat} {ops : Array Oper} {l : EL} {ds : List Nat} {K : St → Prop} {i : Nat} {r : List Oper} {ty : TypeId} {pos : String} {af : Array Edge} {H : AHeap} {lo : Nat}
theorem seq_putV [PC P] {o : Oper} {L : List (Option ABlk)} {d k : Nat} {op : Op} {v : Value} {x : ABlk} (hc : Closed H) (hlt : k < L.length) (hop : Does P l op (ext H lo L) v ((ext H lo L).put (nb H k) x)) (hd : Nat.blt d nt = true)
    (hk : SeqL P rd nt ops (o :: r) (i + 1) ⟨ofA ((d, v) :: l), ds, ext H lo (L.set k (some x))⟩ K) : SeqL P rd nt ops (⟨some d, op, ty, pos, af, none⟩ :: o :: r) i ⟨ofA l, ds, ext H lo L⟩ K :=
  seq_plain hop hd (seqL_to sub_refl (ext_put hc hlt x) (by simp) hk)
end
end Go.Den
namespace Go.Proofs.YtflbffhahoblfaaGreatDoor
open Go Go.Den
set_option maxRecDepth 100000
end Go.Proofs.YtflbffhahoblfaaGreatDoor
/- The symbolic layer: ranges over maps that stay as they are. -/
noncomputable section
namespace Go.Den
section
variable {P : Program} {rd : Option Nat} {nt : Nat} {ops : Array Oper} {l : EL} {ds : List Nat} {h : AHeap} {K : St → Prop} {i : Nat} {r : List Oper} {ty : TypeId} {pos : String} {af : Array Edge}
section
variable {α β : Type} {f : α → Value} {g : β → Value}
end
end
/-! ### maps from keys to values -/
section
variable {P : Program} {α β : Type} [DecidableEq α] {f : α → Value} {g : β → Value} {kt : TypeId} {l : EL} {h : AHeap}
def getK (ks : List (α × β)) (a : α) : Option β := (ks.find? fun p => decide (p.1 = a)).map (·.2)
def putK : List (α × β) → α → β → List (α × β)
  | [], a, v => [(a, v)]
  | p :: r, a, v => if p.1 = a then (a, v) :: r else p :: putK r a v
theorem putK_keys {a : α} {v : β} : ∀ {ks : List (α × β)}, (putK ks a v).map (·.1) = addK (ks.map (·.1)) a
  | [] => rfl
  | p :: r => by
    simp only [putK]
    by_cases h : p.1 = a
    · rw [if_pos h]
      simp [addK, h]
    · rw [if_neg h]
      have ih := putK_keys (a := a) (v := v) (ks := r)
      simp only [List.map_cons, ih, addK]
      by_cases h2 : a ∈ r.map (·.1)
      · rw [if_pos h2, if_pos (List.mem_cons_of_mem _ h2)]
      · rw [if_neg h2, if_neg (by simp only [List.mem_cons]; rintro (e | e); exact h e.symm; exact h2 e)]; rfl
theorem getK_put {a b : α} {v : β} : ∀ {ks : List (α × β)}, getK (putK ks a v) b = if a = b then some v else getK ks b
  | [] => by simp [putK, getK]
  | p :: r => by
    have ih := getK_put (a := a) (b := b) (v := v) (ks := r)
    simp only [putK]
    by_cases h : p.1 = a
    · rw [if_pos h]
      by_cases h2 : a = b
      · subst h2; simp [getK]
      · have h3 : ¬ p.1 = b := fun e => h2 (h.symm.trans e)
        simp [getK, h2, h3]
    · rw [if_neg h]
      by_cases h3 : p.1 = b
      · have h2 : ¬ a = b := fun e => h (h3.trans e.symm)
        simp [getK, h2, h3]
      · simp only [getK, List.find?_cons, h3, decide_false] at ih ⊢
        exact ih
end
/-! ### stores, the list behind them told -/
section
variable {P : Program} {rd : Option Nat} {nt : Nat} {ops : Array Oper} {l : EL} {ds : List Nat} {K : St → Prop} {i : Nat} {r : List Oper} {o : Oper} {ty : TypeId} {pos : String} {af : Array Edge} {H : AHeap} {lo : Nat} {L L' : List (Option ABlk)} {Qn : St → Prop} {Qe : Nat → St → Prop} {Qr : St → Prop}
theorem set_mid {α : Type} {p r : List α} {a b : α} {n : Nat} (h : n = p.length) : (p ++ a :: r).set n b = p ++ b :: r := by
  subst h; simp
theorem get_mid {α : Type} {p r : List α} {a : α} {n : Nat} (h : n = p.length) : (p ++ a :: r)[n]? = some a := by
  subst h; simp
end
section
variable {P : Program} {rd : Option Nat} {nt : Nat} {ops : Array Oper} {ds : List Nat} {l : EL} {H : AHeap} {lo : Nat} {L : List (Option ABlk)} {k i : Nat} {tj lc : List Nat} {K : St → Prop} {r : List Oper} {ty : TypeId} {pos : String} {af : Array Edge}
end
end Go.Den
