/- Plain law: bookings without an error. -/
import Derived.Test.YtfjihdlpohljbaaGreatDeM
import Derived.Test.YtfjihdlpohljbaaGreatHkC
import Derived.Test.YtfjihdlpohljbaaGreatSxW
import Derived.Test.YtfjihdlpohljbaaGreatElJ
import Derived.Test.YtfjihdlpohljbaaGreatDeL
import Derived.Test.YtfjihdlpohljbaaGreatHkO
import Derived.Test.YtfjihdlpohljbaaGreatSxK
noncomputable section
namespace Go.Proofs.YtfjihdlpohljbaaGreat
open Go Go.Den
structure BkOk (x : Bk) : Prop where
  nm : x.kind ≠ strB []
  f0 : 0 ≤ x.frm
  f1 : x.frm ≤ 99999
  t0 : 0 ≤ x.to
  t1 : x.to ≤ 99999
  lt : x.frm < x.to
theorem nameB_nil : nameB (strB []) = false := by decide +kernel
theorem bookE_ok {x : Bk} (h : bookE x = 0) : BkOk x := by
  unfold bookE at h
  have ha := firstL_allZ h
  have h1 : nameE [x.name, x.kind] = 0 := ha _ (by simp)
  have h2 := whenL_z (ha (whenL (outL x.frm 0 99999) 3) (by simp)) (by decide)
  have h3 := whenL_z (ha (whenL (outL x.to 0 99999) 3) (by simp)) (by decide)
  have h4 := whenL_z (ha (whenL (decide (x.to ≤ x.frm)) 11) (by simp)) (by decide)
  have h1 := whenL_z h1 (by decide)
  simp only [outL, decide_eq_false_iff_not] at h2 h3 h4
  refine ⟨fun e => ?_, by omega, by omega, by omega, by omega, by omega⟩
  rw [e, List.any_cons, List.any_cons, nameB_nil] at h1
  simp at h1
theorem books_ok {l : List Bk} (h : booksE l = 0) : l.length ≤ 256 ∧ ∀ x ∈ l, BkOk x := by
  unfold booksE at h
  by_cases hl : l.length > 256
  · rw [if_pos hl] at h; exact absurd h (by decide)
  · rw [if_neg hl] at h
    refine ⟨by omega, fun x hx => ?_⟩
    obtain ⟨i, hi, rfl⟩ := List.getElem_of_mem hx
    exact bookE_ok (restG_zero (err := fun _ x => bookE x) h hi)
structure BothOk (t : List Tb) (l : List Bk) : Prop where
  unk : unkB t l = false
  ok : ∀ x ∈ l, BkOk x
  len : l.length ≤ 256
  tlen : t.length ≤ 64
theorem both_ok {t : List Tb} {l : List Bk} (h : bothE t l = 0) : BothOk t l := by
  unfold bothE at h
  have ha := firstL_allZ h
  have h1 : tabsE t = 0 := ha _ (by simp)
  have h2 : booksE l = 0 := ha _ (by simp)
  have h3 := whenL_z (ha (whenL (unkB t l) 10) (by simp)) (by decide)
  obtain ⟨h4, h5⟩ := books_ok h2
  refine ⟨h3, h5, h4, ?_⟩
  unfold tabsE at h1
  by_cases hl : t.length > 64
  · rw [if_pos hl] at h1; exact absurd h1 (by decide)
  · omega
section
variable {t : List Tb} {l : List Bk}
theorem BothOk.ov (h : BothOk t l) : ovV t l = ((roA t l l.length).1, (roA t l l.length).2.1) ∧ fitB t l = !(roA t l l.length).2.2 := ov_eq h.unk fun x hx => (h.ok x hx).nm
def FitP (t : List Tb) (l : List Bk) : Prop := ∀ k q, cntD l k q ≤ cntK t k
theorem fit_beg : (∀ x ∈ l, ¬ badB t l x) → FitP t l := fun h k q => by
  by_cases h0 : cntD l k q = 0
  · omega
  obtain ⟨f, hf, _, h2⟩ := depth_key (l := l) (k := k) (q := q) (by omega)
  obtain ⟨x, hx, e1, e2⟩ := mem_froms.1 hf
  have := h x hx
  unfold badB at this
  rw [e1, e2] at this
  omega
theorem BothOk.fit (h : BothOk t l) : fitB t l = true ↔ FitP t l := by
  have hr := roA_inv t l l.length (Nat.le_refl _)
  rw [h.ov.2]
  constructor
  · intro e
    have e : (roA t l l.length).2.2 = false := by simpa using e
    have := (hr.none e).2
    rw [List.take_length] at this
    exact fit_beg this
  · intro hf
    cases e : (roA t l l.length).2.2
    · rfl
    · obtain ⟨⟨x, x1, x2, _⟩, _⟩ := hr.some e
      have := hf x.kind x.frm
      unfold badB at x2
      omega
end
end Go.Proofs.YtfjihdlpohljbaaGreat
/- Plain law: openings. -/
noncomputable section
namespace Go.Proofs.YtfjihdlpohljbaaGreat
open Go Go.Den
abbrev Spn := Int × Int
section
variable {f : Int → Bool} {a b : Int} {o : List Spn}
end
def opF (t : List Tb) (l : List Bk) (k : ByteArray) (q : Int) : Bool := decide ((cntD l k q : Int) < (cntK t k : Int))
/-! ### the reference's next quarter -/
/-! ### the program's quarters -/
def endF (l : List Bk) (k : ByteArray) : List Int := (l.filter fun x => decide (x.kind = k)).flatMap fun x => [x.frm, x.to]
def endL (l : List Bk) (k : ByteArray) : List Int := Lib.compact (srtI ([0, 99999] ++ endF l k))
end Go.Proofs.YtfjihdlpohljbaaGreat
/- Contracts: openings, as the reference has them. -/
noncomputable section
namespace Go.Den
section
variable {P : Program} {rd : Option Nat} {nt : Nat} {ops : Array Oper} {l : EL} {ds : List Nat} {i : Nat} {ty : TypeId} {pos : String} {af : Array Edge} {H : AHeap} {lo : Nat} {L : List (Option ABlk)} {α : Type} {E : α → EL} {hh : α → AHeap} {J : α → Prop}
end
theorem LstI.set_ {α : Type} {H : AHeap} {K m : Nat} {L : List (Option ABlk)} {f : α → List Value} {l l' : List α} {v : Value} (h : LstI H L m f K v l) (hl : l'.length = l.length) : LstI H (L.set K (some (.cells (l'.flatMap f) m true false))) m f K v l' := by
  rcases h.out with ⟨rfl, rfl⟩ | ⟨hne, rfl, hL⟩
  · have : l' = [] := List.length_eq_zero_iff.1 hl
    subst this; exact .nil
  · refine ⟨.inr ⟨fun e => hne ?_, by rw [hl], List.getElem?_set_self (List.getElem?_eq_some_iff.1 hL).1⟩⟩
    rw [e] at hl
    exact List.length_eq_zero_iff.1 hl.symm
end Go.Den
namespace Go.Proofs.YtfjihdlpohljbaaGreat
open Go Go.Den
set_option maxRecDepth 100000
end Go.Proofs.YtfjihdlpohljbaaGreat
/- Contracts: openings, as the program has them. -/
noncomputable section
namespace Go.Den
section
variable {P : Program} {l : EL} {h : AHeap}
theorem do_append2 {args : Array Operand} {tys : Array TypeId} {st : TypeId} {r : List TypeId} {b o n c m by' z sl b0 : Nat} {ag k ro ro0 : Bool} {e : TypeId} {zs cs new old : List Value} (ha : evs l args.toList = some [.slice (some ⟨b0, 0, none⟩) sl sl, .slice (some ⟨b, o, none⟩) n c]) (hty : tys.toList = st :: st :: r)
    (hs : selOf P st = some (m, ag)) (he : (tyOf P st).map (·.und) = some (.slice e)) (hz : zerOf P e = some zs) (hby : (tyOf P e).map (·.bytes) = some by')
    (hb : h.get b = some (.cells cs z k ro)) (hn : sliceIn cs o (n * m) = some new) (h0 : h.get b0 = some (.cells old m false ro0)) (hl : old.length = sl * m) (h1 : (2 * (sl + n) + 1000) * by' ≤ 2 ^ 48) (h2 : by' ≠ 0) (h3 : m ≠ 0) (h4 : 0 < n) :
    Does P l (.call ⟨.builtin .append, args, tys⟩) h (.slice (some ⟨h.fresh, 0, none⟩) (sl + n) (sl + n)) (h.add (.cells (old ++ new) m true false)) := by
  refine do_builtin ha ?_
  rw [hty]
  obtain ⟨ei, e1, e2⟩ := appendA_of (r := r) (c := c) hs he hz hby hb hn (s := .slice (some ⟨b0, 0, none⟩) sl sl) rfl h1 h2 h3
  simp only [biA, e2, pushA]
  rw [if_neg (by omega)]
  have hold : sliceIn old 0 (sl * m) = some old := by rw [← hl]; exact sliceIn_all
  have hx : exactCap h b0 0 sl = true := by simp [exactCap, h0]
  simp [h0, e1, hold, hx]
end
structure LstX {α : Type} (H : AHeap) (L : List (Option ABlk)) (m : Nat) (f : α → List Value) (K : Nat) (l : List α) : Prop where
  out : ∃ s, L[K]? = some (some (.cells (l.flatMap f) m s false))
section
variable {α : Type} {H : AHeap} {lo K m : Nat} {L L' : List (Option ABlk)} {f : α → List Value} {l : List α}
theorem LstX.app (h : LstX H L m f K l) (M : List (Option ABlk)) : LstX H (L ++ M) m f K l := by
  obtain ⟨s, hs⟩ := h.out
  exact ⟨s, getApp hs⟩
theorem LstX.lt (h : LstX H L m f K l) : K < L.length := by
  obtain ⟨s, hs⟩ := h.out
  exact (List.getElem?_eq_some_iff.1 hs).1
end
section
variable {P : Program} {rd : Option Nat} {nt : Nat} {ops : Array Oper} {l : EL} {ds : List Nat} {K : St → Prop} {i : Nat} {r : List Oper} {o : Oper} {ty : TypeId} {pos : String} {af : Array Edge} {H : AHeap} {lo : Nat} {L : List (Option ABlk)} {α : Type} {f : α → List Value}
theorem seq_growX [PC P] {lst xs : List α} {m k0 d : Nat} {args : Array Operand} {tys : Array TypeId} {st : TypeId} {tr : List TypeId} {b o' c by' z : Nat} {ag k ro : Bool} {e : TypeId} {zs cs : List Value}
    (hc : Closed H) (hv : LstX H L m f k0 lst) (hf : ∀ x, (f x).length = m) (hone : ∀ x, (f x).all oneCell = true)
    (ha : evs l args.toList = some [.slice (some ⟨nb H k0, 0, none⟩) lst.length lst.length, .slice (some ⟨b, o', none⟩) xs.length c]) (hty : tys.toList = st :: st :: tr)
    (hs : selOf P st = some (m, ag)) (he : (tyOf P st).map (·.und) = some (.slice e)) (hz : zerOf P e = some zs) (hby : (tyOf P e).map (·.bytes) = some by')
    (hb : (ext H lo L).get b = some (.cells cs z k ro)) (hn : sliceIn cs o' (xs.length * m) = some (xs.flatMap f)) (hxs : xs ≠ []) (h1 : (2 * (lst.length + xs.length) + 1000) * by' ≤ 2 ^ 48) (h2 : by' ≠ 0) (h3 : m ≠ 0) (hd : Nat.blt d nt = true)
    (hk : ∀ L', LstX H L' m f L.length (lst ++ xs) → (∀ j, j < L.length → j ≠ k0 → L'[j]? = L[j]?) → L'.length = L.length + 1 → SeqL P rd nt ops (o :: r) (i + 1) ⟨ofA ((d, .slice (some ⟨nb H L.length, 0, none⟩) (lst ++ xs).length (lst ++ xs).length) :: l), ds, ext H lo L'⟩ K) :
    SeqL P rd nt ops (⟨some d, .call ⟨.builtin .append, args, tys⟩, ty, pos, af, none⟩ :: o :: r) i ⟨ofA l, ds, ext H lo L⟩ K := by
  have hx0 : 0 < xs.length := by cases xs with | nil => exact absurd rfl hxs | cons _ _ => simp
  have hall : (xs.flatMap f).all oneCell = true := by
    rw [List.all_eq_true]
    intro x hx
    obtain ⟨y, _, hy⟩ := List.mem_flatMap.1 hx
    exact List.all_eq_true.1 (hone y) x hy
  obtain ⟨s, hL⟩ := hv.out
  have hlt := hv.lt
  simp only [List.length_append] at hk
  cases s with
  | false =>
    refine seq_newS (do_append2 ha hty hs he hz hby hb hn (ext_get_new hL) (len_flat hf lst) h1 h2 h3 hx0) hd (hk _ ⟨true, by rw [List.flatMap_append]; exact List.getElem?_concat_length⟩ (fun j hj _ => List.getElem?_append_left hj) (by simp))
  | true =>
    refine seq_push hc hlt (do_append1 ha hty hs he hz hby hb hn (ext_get_new hL) (len_flat hf lst) (nb_own _) hall h1 h2 h3 hx0) hd (hk _ ⟨true, ?_⟩ ?_ (by simp))
    · have e2 : (L.set k0 none).length = L.length := List.length_set
      rw [← e2, List.flatMap_append]
      exact List.getElem?_concat_length
    · intro j hj hjk
      rw [List.getElem?_append_left (by rw [List.length_set]; exact hj), List.getElem?_set_ne (fun e => hjk e.symm)]
end
end Go.Den
namespace Go.Proofs.YtfjihdlpohljbaaGreat
open Go Go.Den
set_option maxRecDepth 100000
end Go.Proofs.YtfjihdlpohljbaaGreat
/- Contracts: charges; lists of postings are copied and compared. -/
noncomputable section
namespace Go.Proofs.YtfjihdlpohljbaaGreat
open Go Go.Den
set_option maxRecDepth 100000
def poB (x y : Po) : Bool := byteL x.debit.data.toList y.debit.data.toList && (byteL x.credit.data.toList y.credit.data.toList && (x.amt == y.amt))
theorem poB_eq {x y : Po} : poB x y = true ↔ x = y := by
  unfold poB
  rw [bytes_eq, bytes_eq]
  cases x; cases y
  simp
instance : DecidableEq Po := fun x y => decidable_of_iff (poB x y = true) poB_eq
end Go.Proofs.YtfjihdlpohljbaaGreat
