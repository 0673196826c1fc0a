/- Contracts: openings, as the reference has them. -/
import Derived.Test.YtfegloadbajbhaaGreatDoorOpnL
import Derived.Test.YtfegloadbajbhaaGreatDoorHkC
import Derived.Test.YtfegloadbajbhaaGreatDoorSxW
import Derived.Test.YtfegloadbajbhaaGreatDoorSxP
import Derived.Test.YtfegloadbajbhaaGreatDoorDeL
import Derived.Test.YtfegloadbajbhaaGreatDoorHkO
import Derived.Test.YtfegloadbajbhaaGreatDoorFnL
import Derived.Test.YtfegloadbajbhaaGreatDoorSxK
import Derived.Test.YtfegloadbajbhaaGreatDoorStC
import Derived.Test.YtfegloadbajbhaaGreatDoorSxM
import Derived.Test.YtfegloadbajbhaaGreatDoorSxX
noncomputable section
namespace Go.Den
section
variable {P : Program} {rd : Option Nat} {nt : Nat} {ops : Array Oper} {l : EL} {ds : List Nat} {i : Nat} {ty : TypeId} {pos : String} {af : Array Edge} {H : AHeap} {lo : Nat} {L : List (Option ABlk)} {α : Type} {E : α → EL} {hh : α → AHeap} {J : α → Prop}
end
end Go.Den
namespace Go.Proofs.YtfegloadbajbhaaGreatDoor
open Go Go.Den
set_option maxRecDepth 100000
theorem asc_len {a : Int} : ∀ {o : List Spn} {lo : Int}, OpAsc o → (∀ s ∈ o, lo ≤ s.1 ∧ s.2 ≤ a) → lo ≤ a → (o.length : Int) ≤ a - lo
  | [], _, _, _, h => by simp; omega
  | s :: o, lo, h, hs, hl => by
    obtain ⟨h', ht⟩ := h.tail
    have h1 := hs s (by simp)
    have h2 := h.pos s (by simp)
    have := asc_len (lo := s.2) h' (fun u hu => ⟨by have := ht u hu; omega, (hs u (List.mem_cons_of_mem _ hu)).2⟩) h1.2
    rw [List.length_cons]
    omega
theorem OpI.len {f : Int → Bool} {a : Int} {o : List Spn} (h : OpI f a o) (h0 : 0 ≤ a) : (o.length : Int) ≤ a := by
  have := asc_len (lo := 0) h.asc (fun s hs => h.lo s hs) h0
  omega
end Go.Proofs.YtfegloadbajbhaaGreatDoor
/- Contracts: openings, as the program has them. -/
noncomputable section
namespace Go.Den
section
variable {P : Program} {l : EL} {h : AHeap}
/-- an append to a list whose room is known -/
theorem do_append2 {args : Array Operand} {tys : Array TypeId} {st : TypeId} {r : List TypeId} {b o n c m by' z sl b0 : Nat} {ag k ro ro0 : Bool} {e : TypeId} {zs cs new old : List Value} (ha : evs l args.toList = some [.slice (some ⟨b0, 0, none⟩) sl sl, .slice (some ⟨b, o, none⟩) n c]) (hty : tys.toList = st :: st :: r)
    (hs : selOf P st = some (m, ag)) (he : (tyOf P st).map (·.und) = some (.slice e)) (hz : zerOf P e = some zs) (hby : (tyOf P e).map (·.bytes) = some by')
    (hb : h.get b = some (.cells cs z k ro)) (hn : sliceIn cs o (n * m) = some new) (h0 : h.get b0 = some (.cells old m false ro0)) (hl : old.length = sl * m) (h1 : (2 * (sl + n) + 1000) * by' ≤ 2 ^ 48) (h2 : by' ≠ 0) (h3 : m ≠ 0) (h4 : 0 < n) :
    Does P l (.call ⟨.builtin .append, args, tys⟩) h (.slice (some ⟨h.fresh, 0, none⟩) (sl + n) (sl + n)) (h.add (.cells (old ++ new) m true false)) := by
  refine do_builtin ha ?_
  rw [hty]
  obtain ⟨ei, e1, e2⟩ := appendA_of (r := r) (c := c) hs he hz hby hb hn (s := .slice (some ⟨b0, 0, none⟩) sl sl) rfl h1 h2 h3
  simp only [biA, e2, pushA]
  rw [if_neg (by omega)]
  have hold : sliceIn old 0 (sl * m) = some old := by rw [← hl]; exact sliceIn_all
  have hx : exactCap h b0 0 sl = true := by simp [exactCap, h0]
  simp [h0, e1, hold, hx]
end
/-- block K holds a list, its room known or not -/
structure LstX {α : Type} (H : AHeap) (L : List (Option ABlk)) (m : Nat) (f : α → List Value) (K : Nat) (l : List α) : Prop where
  out : ∃ s, L[K]? = some (some (.cells (l.flatMap f) m s false))
section
variable {α : Type} {H : AHeap} {lo K m : Nat} {L L' : List (Option ABlk)} {f : α → List Value} {l : List α}
theorem LstX.app (h : LstX H L m f K l) (M : List (Option ABlk)) : LstX H (L ++ M) m f K l := by
  obtain ⟨s, hs⟩ := h.out
  exact ⟨s, getApp hs⟩
theorem LstX.lt (h : LstX H L m f K l) : K < L.length := by
  obtain ⟨s, hs⟩ := h.out
  exact (List.getElem?_eq_some_iff.1 hs).1
end
section
variable {P : Program} {rd : Option Nat} {nt : Nat} {ops : Array Oper} {l : EL} {ds : List Nat} {K : St → Prop} {i : Nat} {r : List Oper} {o : Oper} {ty : TypeId} {pos : String} {af : Array Edge} {H : AHeap} {lo : Nat} {L : List (Option ABlk)} {α : Type} {f : α → List Value}
/-- a list grows, its room known or not; its block moves to the end, the others stay -/
theorem seq_growX [PC P] {lst xs : List α} {m k0 d : Nat} {args : Array Operand} {tys : Array TypeId} {st : TypeId} {tr : List TypeId} {b o' c by' z : Nat} {ag k ro : Bool} {e : TypeId} {zs cs : List Value}
    (hc : Closed H) (hv : LstX H L m f k0 lst) (hf : ∀ x, (f x).length = m) (hone : ∀ x, (f x).all oneCell = true)
    (ha : evs l args.toList = some [.slice (some ⟨nb H k0, 0, none⟩) lst.length lst.length, .slice (some ⟨b, o', none⟩) xs.length c]) (hty : tys.toList = st :: st :: tr)
    (hs : selOf P st = some (m, ag)) (he : (tyOf P st).map (·.und) = some (.slice e)) (hz : zerOf P e = some zs) (hby : (tyOf P e).map (·.bytes) = some by')
    (hb : (ext H lo L).get b = some (.cells cs z k ro)) (hn : sliceIn cs o' (xs.length * m) = some (xs.flatMap f)) (hxs : xs ≠ []) (h1 : (2 * (lst.length + xs.length) + 1000) * by' ≤ 2 ^ 48) (h2 : by' ≠ 0) (h3 : m ≠ 0) (hd : Nat.blt d nt = true)
    (hk : ∀ L', LstX H L' m f L.length (lst ++ xs) → (∀ j, j < L.length → j ≠ k0 → L'[j]? = L[j]?) → L'.length = L.length + 1 → SeqL P rd nt ops (o :: r) (i + 1) ⟨ofA ((d, .slice (some ⟨nb H L.length, 0, none⟩) (lst ++ xs).length (lst ++ xs).length) :: l), ds, ext H lo L'⟩ K) :
    SeqL P rd nt ops (⟨some d, .call ⟨.builtin .append, args, tys⟩, ty, pos, af, none⟩ :: o :: r) i ⟨ofA l, ds, ext H lo L⟩ K := by
  have hx0 : 0 < xs.length := by cases xs with | nil => exact absurd rfl hxs | cons _ _ => simp
  have hall : (xs.flatMap f).all oneCell = true := by
    rw [List.all_eq_true]
    intro x hx
    obtain ⟨y, _, hy⟩ := List.mem_flatMap.1 hx
    exact List.all_eq_true.1 (hone y) x hy
  obtain ⟨s, hL⟩ := hv.out
  have hlt := hv.lt
  simp only [List.length_append] at hk
  cases s with
  | false =>
    refine seq_newS (do_append2 ha hty hs he hz hby hb hn (ext_get_new hL) (len_flat hf lst) h1 h2 h3 hx0) hd (hk _ ⟨true, by rw [List.flatMap_append]; exact List.getElem?_concat_length⟩ (fun j hj _ => List.getElem?_append_left hj) (by simp))
  | true =>
    refine seq_push hc hlt (do_append1 ha hty hs he hz hby hb hn (ext_get_new hL) (len_flat hf lst) (nb_own _) hall h1 h2 h3 hx0) hd (hk _ ⟨true, ?_⟩ ?_ (by simp))
    · have e2 : (L.set k0 none).length = L.length := List.length_set
      rw [← e2, List.flatMap_append]
      exact List.getElem?_concat_length
    · intro j hj hjk
      rw [List.getElem?_append_left (by rw [List.length_set]; exact hj), List.getElem?_set_ne (fun e => hjk e.symm)]
end
end Go.Den
namespace Go.Proofs.YtfegloadbajbhaaGreatDoor
open Go Go.Den
set_option maxRecDepth 100000
/-- the error of Openings -/
def opnE (t : List Tb) (l : List Bk) (k : ByteArray) : Int := firstL [bothE t l, nameE [k], whenL ((cntK t k : Int) == 0) 10]
def opnX (t : List Tb) (l : List Bk) (k : ByteArray) : Int := if opnE t l k ≠ 0 then opnE t l k else if fitB t l = true then 0 else 23
end Go.Proofs.YtfegloadbajbhaaGreatDoor
/- Contracts: charges; lists of postings are copied and compared. -/
noncomputable section
namespace Go.Proofs.YtfegloadbajbhaaGreatDoor
open Go Go.Den
set_option maxRecDepth 100000

def poB (x y : Po) : Bool := byteL x.debit.data.toList y.debit.data.toList && (byteL x.credit.data.toList y.credit.data.toList && (x.amt == y.amt))
theorem poB_eq {x y : Po} : poB x y = true ↔ x = y := by
  unfold poB
  rw [bytes_eq, bytes_eq]
  cases x; cases y
  simp
instance : DecidableEq Po := fun x y => decidable_of_iff (poB x y = true) poB_eq
end Go.Proofs.YtfegloadbajbhaaGreatDoor
/- Contracts: the bill of a booking, and what a cancellation posts. -/
noncomputable section
namespace Go.Proofs.YtfegloadbajbhaaGreatDoor
open Go Go.Den
set_option maxRecDepth 100000

theorem Posted.two {f : FuncId} {args : List Value} {H : AHeap} {L L' : List (Option ABlk)} {K K' : Nat} {l l' : List Po} {v' : Value} (p : Posted f args H L K l v' K' L' l') (h2 : 2 ≤ L.length) (hK : l ≠ [] → 2 ≤ K) : l' ≠ [] → 2 ≤ K' := fun h => by
  rcases p.last h with ⟨rfl, rfl⟩ | h3
  · exact hK h
  · omega
theorem Posted.box {f : FuncId} {args : List Value} {H : AHeap} {L L' : List (Option ABlk)} {K K' : Nat} {l l' : List Po} {v' : Value} (p : Posted f args H L K l v' K' L' l') (h2 : 2 ≤ L.length) (hK : l ≠ [] → 2 ≤ K) {j : Nat} (hj : j < 2) : L'[j]? = L[j]? :=
  p.keep j (by omega) fun h => by have := hK h; omega
end Go.Proofs.YtfegloadbajbhaaGreatDoor
