/- Contracts: a queue that is examined. -/
import Derived.Test.YtfegloadbajbhaaGreatDoorHkC
import Derived.Test.YtfegloadbajbhaaGreatDoorBgH
import Derived.Test.YtfegloadbajbhaaGreatDoorDeM
import Derived.Test.YtfegloadbajbhaaGreatDoorHkA
import Derived.Test.YtfegloadbajbhaaGreatDoorSxW
import Derived.Test.YtfegloadbajbhaaGreatDoorBaL
import Derived.Test.YtfegloadbajbhaaGreatDoorHaF
import Derived.Test.YtfegloadbajbhaaGreatDoorSxZ
import Derived.Test.YtfegloadbajbhaaGreatDoorSxU
import Derived.Test.YtfegloadbajbhaaGreatDoorAwake
noncomputable section
namespace Go.Proofs.YtfegloadbajbhaaGreatDoor
open Go Go.Den
set_option maxRecDepth 100000
/-- somebody came later before -/
def lateB (pre : List Rq) (x : Rq) : Bool := pre.getLast?.elim false fun y => decide (x.arr < y.arr)
/-- the error of a request, and of a queue -/
def queE (t : List Tb) (pre : List Rq) (x : Rq) : Int := firstL [nameE [x.name, x.kind], whenL ((cntK t x.kind : Int) == 0) 10, whenL (outL x.len 1 96) 3, whenL (outL x.arr 0 99999) 3, whenL (lateB pre x) 11]
def quesE (t : List Tb) (r : List Rq) : Int := if r.length > 256 then 5 else restG (queE t) r

end Go.Proofs.YtfegloadbajbhaaGreatDoor
/- HallDepths: the law's own walk. -/
noncomputable section
namespace Go.Proofs.YtfegloadbajbhaaGreatDoor
open Go Go.Den
set_option maxRecDepth 100000
theorem ext_more {H : AHeap} (hc : Closed H) {lo lo' : Nat} {L M : List (Option ABlk)} : Ext (ext H lo L) (ext H lo' (L ++ M)) := fun b y hb => by
  rw [ext_get hc] at hb ⊢
  by_cases h : b % 2 = 0 ∧ H.fresh ≤ b
  · rw [if_pos h] at hb ⊢
    cases e : L[b / 2 - H.next]? with
    | none => rw [e] at hb; cases hb
    | some x => rw [getApp e]; rw [e] at hb; exact hb
  · rw [if_neg h] at hb ⊢; exact hb
end Go.Proofs.YtfegloadbajbhaaGreatDoor
/- HallFits: the law's own walk. -/
noncomputable section
namespace Go.Proofs.YtfegloadbajbhaaGreatDoor
open Go Go.Den
set_option maxRecDepth 100000
theorem books_one {b : Bk} : booksE [b] = bookE b := by
  unfold booksE
  rw [if_neg (by simp)]
  by_cases h : bookE b = 0
  · simp [restG, errG, firstL, h]
  · simp [restG, errG, firstL, h]
theorem seq_anyLo {P : Program} {rd : Option Nat} {nt : Nat} {ops : Array Oper} {r : List Oper} {i : Nat} {ds : List Nat} {e : Env} {H : AHeap} {lo : Nat} {L : List (Option ABlk)} {K : St → Prop} (hk : ∀ lo' : Nat, SeqL P rd nt ops r i ⟨e, ds, ext H lo' L⟩ K) : SeqL P rd nt ops r i ⟨e, ds, ext H lo L⟩ K := hk lo
end Go.Proofs.YtfegloadbajbhaaGreatDoor
/- HallOpens: the plain law. -/
noncomputable section
namespace Go.Proofs.YtfegloadbajbhaaGreatDoor
open Go Go.Den

structure OpsIn (t : List Tb) (l : List Bk) (b : Bk) : Prop where
  tl : t.length ≤ 4
  ll : l.length ≤ 8
  both : bothE t l = 0
  book : booksE [b] = 0
  to_ : b.to ≤ 60
  kind : cntK t b.kind ≠ 0
section
variable {t : List Tb} {l : List Bk} {b : Bk}
theorem OpsIn.bk (h : OpsIn t l b) : BkOk b := bookE_ok (by have := h.book; rwa [books_one] at this)
theorem firstL_z {l : List Int} (h : ∀ x ∈ l, x = 0) : firstL l = 0 := firstL_none fun j hj => h _ (List.getElem_mem hj)
theorem OpsIn.k0 (h : OpsIn t l b) : whenL ((cntK t b.kind : Int) == 0) 10 = 0 := by
  have : ((cntK t b.kind : Int) == 0) = false := by
    have := h.kind
    simp only [beq_eq_false_iff_ne, ne_eq]; omega
  rw [this]; rfl
theorem OpsIn.fitsE (h : OpsIn t l b) : fitsE t l b = 0 := by
  refine firstL_z fun x hx => ?_
  simp only [List.mem_cons, List.not_mem_nil, or_false] at hx
  rcases hx with rfl | rfl | rfl
  · exact h.both
  · have := h.book; rwa [books_one] at this
  · exact h.k0
theorem OpsIn.opnE (h : OpsIn t l b) : opnE t l b.kind = 0 := by
  refine firstL_z fun x hx => ?_
  simp only [List.mem_cons, List.not_mem_nil, or_false] at hx
  rcases hx with rfl | rfl | rfl
  · exact h.both
  · have hb : bookE b = 0 := by have := h.book; rwa [books_one] at this
    unfold bookE at hb
    have h1 : nameE [b.name, b.kind] = 0 := firstL_allZ hb _ (by simp)
    have h1 := whenL_z h1 (by decide)
    simp only [List.any_cons, List.any_nil, Bool.or_false, Bool.or_eq_false_iff] at h1
    unfold nameE
    simp [h1.2, whenL]
  · exact h.k0
/-- bookings that do not fit fit with none more -/
theorem OpsIn.bad (h : OpsIn t l b) (hx : opnX t l b.kind ≠ 0) : opnX t l b.kind = 23 ∧ fitsV t l b = false := by
  have e : opnX t l b.kind = if fitB t l = true then 0 else 23 := by
    unfold opnX
    rw [if_neg (by rw [h.opnE]; simp)]
  by_cases hf : fitB t l = true
  · rw [e, if_pos hf] at hx; exact absurd rfl hx
  · rw [if_neg hf] at e
    refine ⟨e, ?_⟩
    have ev : fitsV t l b = fitB t (l ++ [b]) := if_neg (by rw [h.fitsE]; simp)
    have ok := both_ok h.both
    have ok2 := ok.grow h.bk (by have := h.kind; omega) (by have := h.ll; omega)
    rw [ev]
    cases e2 : fitB t (l ++ [b])
    · rfl
    · exact absurd (ok.fit.2 (fit_room.1 (ok2.fit.1 e2)).1) hf
end
/-- the quarters that are free, as far as the openings were gone through -/
structure FrI (F : List Bool) (o : List Spn) : Prop where
  len : F.length = 61
  iff : ∀ n (h : n < F.length), F[n] = true ↔ OpCov o (n : Int)
theorem FrI.zero : FrI (List.replicate 61 false) [] := ⟨by simp, fun n h => by
  rw [List.getElem_replicate]
  exact ⟨fun e => (by cases e), fun ⟨s, hs, _⟩ => (by cases hs)⟩⟩
/-- within an opening -/
structure FrJ (F : List Bool) (o : List Spn) (s : Spn) (n : Nat) : Prop where
  len : F.length = 61
  lo : s.1 ≤ n
  hi : (n : Int) ≤ s.2
  iff : ∀ m (h : m < F.length), F[m] = true ↔ OpCov o (m : Int) ∨ (s.1 ≤ m ∧ m < n)
theorem FrI.start {F : List Bool} {o : List Spn} {s : Spn} {n : Nat} (h : FrI F o) (e : s.1 = n) (hlt : s.1 < s.2) : FrJ F o s n :=
  ⟨h.len, by omega, by omega, fun m hm => by
    rw [h.iff m hm]
    exact ⟨.inl, fun h => h.elim id fun h => by omega⟩⟩
theorem FrJ.step {F : List Bool} {o : List Spn} {s : Spn} {n : Nat} (h : FrJ F o s n) (hn : n ≤ 60) (hlt : (n : Int) < s.2) : FrJ (F.set n true) o s (n + 1) := by
  refine ⟨by rw [List.length_set]; exact h.len, by have := h.lo; omega, by omega, fun m hm => ?_⟩
  rw [List.length_set] at hm
  rw [List.getElem_set]
  by_cases e : n = m
  · subst e
    rw [if_pos rfl]
    exact ⟨fun _ => .inr ⟨h.lo, by omega⟩, fun _ => rfl⟩
  · rw [if_neg e, h.iff m hm]
    constructor
    · rintro (h1 | ⟨h1, h2⟩)
      · exact .inl h1
      · exact .inr ⟨h1, by omega⟩
    · rintro (h1 | ⟨h1, h2⟩)
      · exact .inl h1
      · exact .inr ⟨h1, by omega⟩
theorem FrJ.done {F : List Bool} {o : List Spn} {s : Spn} {n : Nat} (h : FrJ F o s n) (hx : ¬ ((n : Int) < s.2 ∧ n ≤ 60)) : FrI F (o ++ [s]) :=
  ⟨h.len, fun m hm => by
    rw [h.iff m hm, cov_app, cov_one]
    have h1 := h.hi
    have h2 := h.len
    constructor
    · rintro (h3 | ⟨h3, h4⟩)
      · exact .inl h3
      · exact .inr ⟨h3, by omega⟩
    · rintro (h3 | ⟨h3, h4⟩)
      · exact .inl h3
      · exact .inr ⟨h3, by omega⟩⟩
theorem FrI.opF {F : List Bool} {o : List Spn} {f : Int → Bool} (h : FrI F o) (ho : OpI f 99999 o) {n : Nat} (hn : n < F.length) : F[n] = f n := by
  have h1 := h.len
  have h2 := (h.iff n hn).trans (ho.cov n)
  cases e : f n
  · rw [e] at h2
    cases e2 : F[n]
    · rfl
    · exact absurd (h2.1 e2).2.2 (by simp)
  · exact h2.2 ⟨by omega, by omega, e⟩
end Go.Proofs.YtfegloadbajbhaaGreatDoor
