/- Contracts: openings, as the reference has them. -/
import Derived.Test.YtfjihdlpohljbaaGreatOpnL
import Derived.Test.YtfjihdlpohljbaaGreatHkC
import Derived.Test.YtfjihdlpohljbaaGreatSxW
import Derived.Test.YtfjihdlpohljbaaGreatElJ
import Derived.Test.YtfjihdlpohljbaaGreatDeL
import Derived.Test.YtfjihdlpohljbaaGreatHkO
import Derived.Test.YtfjihdlpohljbaaGreatSxK
import Derived.Test.YtfjihdlpohljbaaGreatHaC
import Derived.Test.YtfjihdlpohljbaaGreatSxZ
import Derived.Test.YtfjihdlpohljbaaGreatSxQ
import Derived.Test.YtfjihdlpohljbaaGreatSxU
import Derived.Test.YtfjihdlpohljbaaGreatBkL
noncomputable section
namespace Go.Den
section
variable {P : Program} {rd : Option Nat} {nt : Nat} {ops : Array Oper} {l : EL} {ds : List Nat} {i : Nat} {ty : TypeId} {pos : String} {af : Array Edge} {H : AHeap} {lo : Nat} {L : List (Option ABlk)} {α : Type} {E : α → EL} {hh : α → AHeap} {J : α → Prop}
end
theorem LstI.set_ {α : Type} {H : AHeap} {K m : Nat} {L : List (Option ABlk)} {f : α → List Value} {l l' : List α} {v : Value} (h : LstI H L m f K v l) (hl : l'.length = l.length) : LstI H (L.set K (some (.cells (l'.flatMap f) m true false))) m f K v l' := by
  rcases h.out with ⟨rfl, rfl⟩ | ⟨hne, rfl, hL⟩
  · have : l' = [] := List.length_eq_zero_iff.1 hl
    subst this; exact .nil
  · refine ⟨.inr ⟨fun e => hne ?_, by rw [hl], List.getElem?_set_self (List.getElem?_eq_some_iff.1 hL).1⟩⟩
    rw [e] at hl
    exact List.length_eq_zero_iff.1 hl.symm
end Go.Den
namespace Go.Proofs.YtfjihdlpohljbaaGreat
open Go Go.Den
set_option maxRecDepth 100000
theorem asc_len {a : Int} : ∀ {o : List Spn} {lo : Int}, OpAsc o → (∀ s ∈ o, lo ≤ s.1 ∧ s.2 ≤ a) → lo ≤ a → (o.length : Int) ≤ a - lo
  | [], _, _, _, h => by simp; omega
  | s :: o, lo, h, hs, hl => by
    obtain ⟨h', ht⟩ := h.tail
    have h1 := hs s (by simp)
    have h2 := h.pos s (by simp)
    have := asc_len (lo := s.2) h' (fun u hu => ⟨by have := ht u hu; omega, (hs u (List.mem_cons_of_mem _ hu)).2⟩) h1.2
    rw [List.length_cons]
    omega
theorem OpI.len {f : Int → Bool} {a : Int} {o : List Spn} (h : OpI f a o) (h0 : 0 ≤ a) : (o.length : Int) ≤ a := by
  have := asc_len (lo := 0) h.asc (fun s hs => h.lo s hs) h0
  omega
end Go.Proofs.YtfjihdlpohljbaaGreat
/- Contracts: openings, as the program has them. -/
noncomputable section
namespace Go.Den
section
variable {P : Program} {l : EL} {h : AHeap}
end
/-- block K holds a list, its room known or not -/
structure LstX {α : Type} (H : AHeap) (L : List (Option ABlk)) (m : Nat) (f : α → List Value) (K : Nat) (l : List α) : Prop where
  out : ∃ s, L[K]? = some (some (.cells (l.flatMap f) m s false))
section
variable {α : Type} {H : AHeap} {lo K m : Nat} {L L' : List (Option ABlk)} {f : α → List Value} {l : List α}
theorem LstX.app (h : LstX H L m f K l) (M : List (Option ABlk)) : LstX H (L ++ M) m f K l := by
  obtain ⟨s, hs⟩ := h.out
  exact ⟨s, getApp hs⟩
theorem LstX.lt (h : LstX H L m f K l) : K < L.length := by
  obtain ⟨s, hs⟩ := h.out
  exact (List.getElem?_eq_some_iff.1 hs).1
end
section
variable {P : Program} {rd : Option Nat} {nt : Nat} {ops : Array Oper} {l : EL} {ds : List Nat} {K : St → Prop} {i : Nat} {r : List Oper} {o : Oper} {ty : TypeId} {pos : String} {af : Array Edge} {H : AHeap} {lo : Nat} {L : List (Option ABlk)} {α : Type} {f : α → List Value}
end
end Go.Den
namespace Go.Proofs.YtfjihdlpohljbaaGreat
open Go Go.Den
set_option maxRecDepth 100000
/-- the error of Openings -/
def opnE (t : List Tb) (l : List Bk) (k : ByteArray) : Int := firstL [bothE t l, nameE [k], whenL ((cntK t k : Int) == 0) 10]
def opnX (t : List Tb) (l : List Bk) (k : ByteArray) : Int := if opnE t l k ≠ 0 then opnE t l k else if fitB t l = true then 0 else 23
end Go.Proofs.YtfjihdlpohljbaaGreat
/- Contracts: charges; lists of postings are copied and compared. -/
noncomputable section
namespace Go.Proofs.YtfjihdlpohljbaaGreat
open Go Go.Den
set_option maxRecDepth 100000

def poB (x y : Po) : Bool := byteL x.debit.data.toList y.debit.data.toList && (byteL x.credit.data.toList y.credit.data.toList && (x.amt == y.amt))
theorem poB_eq {x y : Po} : poB x y = true ↔ x = y := by
  unfold poB
  rw [bytes_eq, bytes_eq]
  cases x; cases y
  simp
instance : DecidableEq Po := fun x y => decidable_of_iff (poB x y = true) poB_eq
end Go.Proofs.YtfjihdlpohljbaaGreat
/- Contracts: the bill of a booking, and what a cancellation posts. -/
noncomputable section
namespace Go.Proofs.YtfjihdlpohljbaaGreat
open Go Go.Den
set_option maxRecDepth 100000

theorem Posted.two {f : FuncId} {args : List Value} {H : AHeap} {L L' : List (Option ABlk)} {K K' : Nat} {l l' : List Po} {v' : Value} (p : Posted f args H L K l v' K' L' l') (h2 : 2 ≤ L.length) (hK : l ≠ [] → 2 ≤ K) : l' ≠ [] → 2 ≤ K' := fun h => by
  rcases p.last h with ⟨rfl, rfl⟩ | h3
  · exact hK h
  · omega
theorem Posted.box {f : FuncId} {args : List Value} {H : AHeap} {L L' : List (Option ABlk)} {K K' : Nat} {l l' : List Po} {v' : Value} (p : Posted f args H L K l v' K' L' l') (h2 : 2 ≤ L.length) (hK : l ≠ [] → 2 ≤ K) {j : Nat} (hj : j < 2) : L'[j]? = L[j]? :=
  p.keep j (by omega) fun h => by have := hK h; omega
end Go.Proofs.YtfjihdlpohljbaaGreat
/- Plain law: the queue of a hall. -/
noncomputable section
namespace Go.Proofs.YtfjihdlpohljbaaGreat
open Go Go.Den

theorem cntD_app {l r : List Bk} {k : ByteArray} {q : Int} : cntD (l ++ r) k q = cntD l k q + cntD r k q := List.countP_append
theorem cntD_one {b : Bk} {k : ByteArray} {q : Int} : cntD [b] k q = if isAt k q b = true then 1 else 0 := by
  unfold cntD
  by_cases h : isAt k q b = true <;> simp [h]
/-- there is a table of the kind at each of the quarters -/
def RoomP (t : List Tb) (l : List Bk) (k : ByteArray) (s len : Int) : Prop := ∀ q, s ≤ q → q < s + len → cntD l k q < cntK t k
theorem fit_room {t : List Tb} {l : List Bk} {b : Bk} : FitP t (l ++ [b]) ↔ FitP t l ∧ RoomP t l b.kind b.frm (b.to - b.frm) := by
  constructor
  · intro h
    refine ⟨fun k q => ?_, fun q h1 h2 => ?_⟩
    · have := h k q
      rw [cntD_app] at this
      omega
    · have := h b.kind q
      rw [cntD_app, cntD_one, if_pos (isAt_iff.2 ⟨rfl, h1, by omega⟩)] at this
      omega
  · rintro ⟨h1, h2⟩ k q
    rw [cntD_app, cntD_one]
    have := h1 k q
    by_cases e : isAt k q b = true
    · rw [if_pos e]
      obtain ⟨e1, e2, e3⟩ := isAt_iff.1 e
      subst e1
      have := h2 q e2 (by omega)
      omega
    · rw [if_neg e]
      omega
/-- the first quarter with room -/
structure Least (t : List Tb) (l : List Bk) (k : ByteArray) (fl len s : Int) : Prop where
  ge : fl ≤ s
  room : RoomP t l k s len
  low : ∀ q, fl ≤ q → q < s → ¬ RoomP t l k q len
section
variable {t : List Tb} {l : List Bk} {k : ByteArray} {fl len s : Int}
theorem Least.uniq {s' : Int} (h : Least t l k fl len s) (h' : Least t l k fl len s') : s = s' := by
  rcases Int.lt_trichotomy s s' with e | e | e
  · exact absurd h.room (h'.low s h.ge e)
  · exact e
  · exact absurd h'.room (h.low s' h'.ge e)
/-! ### the reference's next end -/
end
/-! ### the queue -/
def bkR (x : Rq) (s : Int) : Bk := ⟨x.name, x.kind, s, s + x.len⟩
/-- all bookings, with the first j of the queue -/
def allB (l : List Bk) (r : List Rq) (out : List Int) (j : Nat) : List Bk := l ++ (List.zipWith bkR (r.take j) (out.take j))
/-- not before the arrival, nor before somebody of the kind who came earlier -/
def flrS (k : ByteArray) (m : Int) (p : Rq × Int) : Int := if p.1.kind = k then max m p.2 else m
def flrB (r : List Rq) (out : List Int) (k : ByteArray) (arr : Int) (j : Nat) : Int := ((r.take j).zip (out.take j)).foldl (flrS k) arr
structure SvI (t : List Tb) (l : List Bk) (r : List Rq) (out : List Int) : Prop where
  len : out.length ≤ r.length
  at_ : ∀ j (h : j < out.length) (h' : j < r.length), Least t (allB l r out j) r[j].kind (flrB r out r[j].kind r[j].arr j) r[j].len out[j] ∧ out[j] + r[j].len ≤ 99999
section
variable {t : List Tb} {l : List Bk} {r : List Rq} {out : List Int}
theorem allB_congr {out' : List Int} {j : Nat} (h : out.take j = out'.take j) : allB l r out j = allB l r out' j := by
  unfold allB; rw [h]
theorem flrB_congr {out' : List Int} {k : ByteArray} {arr : Int} {j : Nat} (h : out.take j = out'.take j) : flrB r out k arr j = flrB r out' k arr j := by
  unfold flrB; rw [h]
theorem SvI.nil : SvI t l r [] := ⟨by simp, fun j h => absurd h (by simp)⟩
theorem SvI.take {n : Nat} (h : SvI t l r out) : SvI t l r (out.take n) := by
  refine ⟨by simp; have := h.len; omega, fun j hj1 hj2 => ?_⟩
  have hjl : j < n ∧ j < out.length := by rw [List.length_take] at hj1; omega
  have e : (out.take n).take j = out.take j := by rw [List.take_take, Nat.min_eq_left (by omega)]
  rw [allB_congr e, flrB_congr e, List.getElem_take]
  exact h.at_ j hjl.2 hj2
end
end Go.Proofs.YtfjihdlpohljbaaGreat
/- Contracts: lists with a further booking; whether a booking fits. -/
noncomputable section
namespace Go.Den
/-- the block of a slice is there -/
structure BlkS (H : AHeap) (p : Option Addr) : Prop where
  out : ∀ x, p = some x → x.spot = none ∧ ∃ cs z s ro, H.get x.block = some (.cells cs z s ro)
theorem BlkS.nil {H : AHeap} : BlkS H none := ⟨fun _ h => by cases h⟩
theorem BlkS.ext {H H' : AHeap} {p : Option Addr} (h : BlkS H p) (hE : Ext H H') : BlkS H' p := ⟨fun x hx => by
  obtain ⟨h1, cs, z, s, ro, h2⟩ := h.out x hx
  exact ⟨h1, cs, z, s, ro, hE _ _ h2⟩⟩
theorem BlkS.at_ {H : AHeap} {b o : Nat} {cs : List Value} {z : Nat} {s ro : Bool} (h : H.get b = some (.cells cs z s ro)) : BlkS H (some ⟨b, o, none⟩) := ⟨fun x hx => by
  cases hx; exact ⟨rfl, cs, z, s, ro, h⟩⟩
section
variable {P : Program} {l : EL} {h : AHeap}
end
end Go.Den
namespace Go.Proofs.YtfjihdlpohljbaaGreat
open Go Go.Den
set_option maxRecDepth 100000
end Go.Proofs.YtfjihdlpohljbaaGreat
/- Contracts: whether a booking fits, as the program has it. -/
noncomputable section
namespace Go.Proofs.YtfjihdlpohljbaaGreat
open Go Go.Den
set_option maxRecDepth 100000
/-- the error of Fits -/
def fitsE (t : List Tb) (l : List Bk) (b : Bk) : Int := firstL [bothE t l, bookE b, whenL ((cntK t b.kind : Int) == 0) 10]
def fitsV (t : List Tb) (l : List Bk) (b : Bk) : Bool := if fitsE t l b ≠ 0 then false else fitB t (l ++ [b])
end Go.Proofs.YtfjihdlpohljbaaGreat
