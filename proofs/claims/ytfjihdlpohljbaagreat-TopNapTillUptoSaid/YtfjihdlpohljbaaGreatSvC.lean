/- Contracts: a queue that is examined. -/
import Derived.Test.YtfjihdlpohljbaaGreatHkC
import Derived.Test.YtfjihdlpohljbaaGreatOpnE
import Derived.Test.YtfjihdlpohljbaaGreatDeM
import Derived.Test.YtfjihdlpohljbaaGreatBgH
import Derived.Test.YtfjihdlpohljbaaGreatHkA
import Derived.Test.YtfjihdlpohljbaaGreatSxW
import Derived.Test.YtfjihdlpohljbaaGreatBaL
import Derived.Test.YtfjihdlpohljbaaGreatHaF
import Derived.Test.YtfjihdlpohljbaaGreatSxZ
import Derived.Test.YtfjihdlpohljbaaGreatSxU
import Derived.Test.YtfjihdlpohljbaaGreatAwake
import Derived.Test.YtfjihdlpohljbaaGreatStC
noncomputable section
namespace Go.Proofs.YtfjihdlpohljbaaGreat
open Go Go.Den
set_option maxRecDepth 100000
/-- somebody came later before -/
def lateB (pre : List Rq) (x : Rq) : Bool := pre.getLast?.elim false fun y => decide (x.arr < y.arr)
/-- the error of a request, and of a queue -/
def queE (t : List Tb) (pre : List Rq) (x : Rq) : Int := firstL [nameE [x.name, x.kind], whenL ((cntK t x.kind : Int) == 0) 10, whenL (outL x.len 1 96) 3, whenL (outL x.arr 0 99999) 3, whenL (lateB pre x) 11]
def quesE (t : List Tb) (r : List Rq) : Int := if r.length > 256 then 5 else restG (queE t) r

end Go.Proofs.YtfjihdlpohljbaaGreat
/- HallDepths: the law's own walk. -/
noncomputable section
namespace Go.Proofs.YtfjihdlpohljbaaGreat
open Go Go.Den
set_option maxRecDepth 100000
theorem ext_more {H : AHeap} (hc : Closed H) {lo lo' : Nat} {L M : List (Option ABlk)} : Ext (ext H lo L) (ext H lo' (L ++ M)) := fun b y hb => by
  rw [ext_get hc] at hb ⊢
  by_cases h : b % 2 = 0 ∧ H.fresh ≤ b
  · rw [if_pos h] at hb ⊢
    cases e : L[b / 2 - H.next]? with
    | none => rw [e] at hb; cases hb
    | some x => rw [getApp e]; rw [e] at hb; exact hb
  · rw [if_neg h] at hb ⊢; exact hb
end Go.Proofs.YtfjihdlpohljbaaGreat
/- HallFits: the law's own walk. -/
noncomputable section
namespace Go.Proofs.YtfjihdlpohljbaaGreat
open Go Go.Den
set_option maxRecDepth 100000
theorem blk_lst {α : Type} {H : AHeap} {lo m : Nat} {L : List (Option ABlk)} {f : α → List Value} {l : List α} : BlkS (ext H lo (L ++ lstL m f l)) (lstP (nb H L.length) l) := by
  cases l with
  | nil => exact .nil
  | cons a l => exact .at_ (ext_get_new List.getElem?_concat_length)
theorem books_one {b : Bk} : booksE [b] = bookE b := by
  unfold booksE
  rw [if_neg (by simp)]
  by_cases h : bookE b = 0
  · simp [restG, errG, firstL, h]
  · simp [restG, errG, firstL, h]
theorem seq_anyLo {P : Program} {rd : Option Nat} {nt : Nat} {ops : Array Oper} {r : List Oper} {i : Nat} {ds : List Nat} {e : Env} {H : AHeap} {lo : Nat} {L : List (Option ABlk)} {K : St → Prop} (hk : ∀ lo' : Nat, SeqL P rd nt ops r i ⟨e, ds, ext H lo' L⟩ K) : SeqL P rd nt ops r i ⟨e, ds, ext H lo L⟩ K := hk lo
end Go.Proofs.YtfjihdlpohljbaaGreat
/- HallOpens: the plain law. -/
noncomputable section
namespace Go.Proofs.YtfjihdlpohljbaaGreat
open Go Go.Den

structure OpsIn (t : List Tb) (l : List Bk) (b : Bk) : Prop where
  tl : t.length ≤ 4
  ll : l.length ≤ 8
  both : bothE t l = 0
  book : booksE [b] = 0
  to_ : b.to ≤ 60
  kind : cntK t b.kind ≠ 0
section
variable {t : List Tb} {l : List Bk} {b : Bk}
theorem OpsIn.bk (h : OpsIn t l b) : BkOk b := bookE_ok (by have := h.book; rwa [books_one] at this)
theorem firstL_z {l : List Int} (h : ∀ x ∈ l, x = 0) : firstL l = 0 := firstL_none fun j hj => h _ (List.getElem_mem hj)
theorem OpsIn.k0 (h : OpsIn t l b) : whenL ((cntK t b.kind : Int) == 0) 10 = 0 := by
  have : ((cntK t b.kind : Int) == 0) = false := by
    have := h.kind
    simp only [beq_eq_false_iff_ne, ne_eq]; omega
  rw [this]; rfl
theorem OpsIn.fitsE (h : OpsIn t l b) : fitsE t l b = 0 := by
  refine firstL_z fun x hx => ?_
  simp only [List.mem_cons, List.not_mem_nil, or_false] at hx
  rcases hx with rfl | rfl | rfl
  · exact h.both
  · have := h.book; rwa [books_one] at this
  · exact h.k0
theorem OpsIn.opnE (h : OpsIn t l b) : opnE t l b.kind = 0 := by
  refine firstL_z fun x hx => ?_
  simp only [List.mem_cons, List.not_mem_nil, or_false] at hx
  rcases hx with rfl | rfl | rfl
  · exact h.both
  · have hb : bookE b = 0 := by have := h.book; rwa [books_one] at this
    unfold bookE at hb
    have h1 : nameE [b.name, b.kind] = 0 := firstL_allZ hb _ (by simp)
    have h1 := whenL_z h1 (by decide)
    simp only [List.any_cons, List.any_nil, Bool.or_false, Bool.or_eq_false_iff] at h1
    unfold nameE
    simp [h1.2, whenL]
  · exact h.k0
/-- bookings that do not fit fit with none more -/
theorem OpsIn.bad (h : OpsIn t l b) (hx : opnX t l b.kind ≠ 0) : opnX t l b.kind = 23 ∧ fitsV t l b = false := by
  have e : opnX t l b.kind = if fitB t l = true then 0 else 23 := by
    unfold opnX
    rw [if_neg (by rw [h.opnE]; simp)]
  by_cases hf : fitB t l = true
  · rw [e, if_pos hf] at hx; exact absurd rfl hx
  · rw [if_neg hf] at e
    refine ⟨e, ?_⟩
    have ev : fitsV t l b = fitB t (l ++ [b]) := if_neg (by rw [h.fitsE]; simp)
    have ok := both_ok h.both
    have ok2 := ok.grow h.bk (by have := h.kind; omega) (by have := h.ll; omega)
    rw [ev]
    cases e2 : fitB t (l ++ [b])
    · rfl
    · exact absurd (ok.fit.2 (fit_room.1 (ok2.fit.1 e2)).1) hf
end
/-- the quarters that are free, as far as the openings were gone through -/
structure FrI (F : List Bool) (o : List Spn) : Prop where
  len : F.length = 61
  iff : ∀ n (h : n < F.length), F[n] = true ↔ OpCov o (n : Int)
theorem FrI.zero : FrI (List.replicate 61 false) [] := ⟨by simp, fun n h => by
  rw [List.getElem_replicate]
  exact ⟨fun e => (by cases e), fun ⟨s, hs, _⟩ => (by cases hs)⟩⟩
/-- within an opening -/
structure FrJ (F : List Bool) (o : List Spn) (s : Spn) (n : Nat) : Prop where
  len : F.length = 61
  lo : s.1 ≤ n
  hi : (n : Int) ≤ s.2
  iff : ∀ m (h : m < F.length), F[m] = true ↔ OpCov o (m : Int) ∨ (s.1 ≤ m ∧ m < n)
theorem FrI.start {F : List Bool} {o : List Spn} {s : Spn} {n : Nat} (h : FrI F o) (e : s.1 = n) (hlt : s.1 < s.2) : FrJ F o s n :=
  ⟨h.len, by omega, by omega, fun m hm => by
    rw [h.iff m hm]
    exact ⟨.inl, fun h => h.elim id fun h => by omega⟩⟩
theorem FrJ.step {F : List Bool} {o : List Spn} {s : Spn} {n : Nat} (h : FrJ F o s n) (hn : n ≤ 60) (hlt : (n : Int) < s.2) : FrJ (F.set n true) o s (n + 1) := by
  refine ⟨by rw [List.length_set]; exact h.len, by have := h.lo; omega, by omega, fun m hm => ?_⟩
  rw [List.length_set] at hm
  rw [List.getElem_set]
  by_cases e : n = m
  · subst e
    rw [if_pos rfl]
    exact ⟨fun _ => .inr ⟨h.lo, by omega⟩, fun _ => rfl⟩
  · rw [if_neg e, h.iff m hm]
    constructor
    · rintro (h1 | ⟨h1, h2⟩)
      · exact .inl h1
      · exact .inr ⟨h1, by omega⟩
    · rintro (h1 | ⟨h1, h2⟩)
      · exact .inl h1
      · exact .inr ⟨h1, by omega⟩
theorem FrJ.done {F : List Bool} {o : List Spn} {s : Spn} {n : Nat} (h : FrJ F o s n) (hx : ¬ ((n : Int) < s.2 ∧ n ≤ 60)) : FrI F (o ++ [s]) :=
  ⟨h.len, fun m hm => by
    rw [h.iff m hm, cov_app, cov_one]
    have h1 := h.hi
    have h2 := h.len
    constructor
    · rintro (h3 | ⟨h3, h4⟩)
      · exact .inl h3
      · exact .inr ⟨h3, by omega⟩
    · rintro (h3 | ⟨h3, h4⟩)
      · exact .inl h3
      · exact .inr ⟨h3, by omega⟩⟩
theorem FrI.opF {F : List Bool} {o : List Spn} {f : Int → Bool} (h : FrI F o) (ho : OpI f 99999 o) {n : Nat} (hn : n < F.length) : F[n] = f n := by
  have h1 := h.len
  have h2 := (h.iff n hn).trans (ho.cov n)
  cases e : f n
  · rw [e] at h2
    cases e2 : F[n]
    · rfl
    · exact absurd (h2.1 e2).2.2 (by simp)
  · exact h2.2 ⟨by omega, by omega, e⟩
end Go.Proofs.YtfjihdlpohljbaaGreat
/- Serve: the state of its walk; plain facts of a queue. -/
noncomputable section
namespace Go.Den
/-- a list whose room is known or not, or no list -/
structure AllA {α : Type} (H : AHeap) (L : List (Option ABlk)) (m : Nat) (f : α → List Value) (K : Nat) (v : Value) (l : List α) : Prop where
  out : (l = [] ∧ v = .slice none 0 0) ∨ (v = .slice (some ⟨nb H K, 0, none⟩) l.length l.length ∧ LstX H L m f K l)
section
variable {α : Type} {H : AHeap} {lo K m : Nat} {L L' : List (Option ABlk)} {f : α → List Value} {l : List α} {v : Value}
theorem AllA.stay (h : AllA H L m f K v l) (hs : Stay L.length L L') : AllA H L' m f K v l := by
  rcases h.out with h | ⟨h1, h2⟩
  · exact ⟨.inl h⟩
  · obtain ⟨s, h3⟩ := h2.out
    exact ⟨.inr ⟨h1, s, hs.to h2.lt h3⟩⟩
theorem AllA.app (h : AllA H L m f K v l) (M : List (Option ABlk)) : AllA H (L ++ M) m f K v l := by
  rcases h.out with h | ⟨h1, h2⟩
  · exact ⟨.inl h⟩
  · exact ⟨.inr ⟨h1, h2.app M⟩⟩
theorem AllA.slice (h : AllA H L m f K v l) : ∃ p, v = .slice p l.length l.length ∧ (p = none ∨ p = some ⟨nb H K, 0, none⟩) := by
  rcases h.out with ⟨rfl, rfl⟩ | ⟨rfl, _⟩
  · exact ⟨none, rfl, .inl rfl⟩
  · exact ⟨_, rfl, .inr rfl⟩
theorem AllA.at_ {p : Option Addr} {n c : Nat} (hf : ∀ x, (f x).length = m) (h : AllA H L m f K (.slice p n c) l) : SlAt (ext H lo L) m f p l := by
  rcases h.out with ⟨rfl, e⟩ | ⟨e, h2⟩
  · exact .nil
  · cases e
    obtain ⟨s, h3⟩ := h2.out
    exact slAt_flat hf (ext_get_new h3)
end
section
variable {P : Program} {rd : Option Nat} {nt : Nat} {ops : Array Oper} {ds : List Nat} {l : EL} {H : AHeap} {lo : Nat} {L : List (Option ABlk)} {ks : List Nat} {i : Nat} {tj lc : List Nat} {K : St → Prop} {r : List Oper} {ty : TypeId} {pos : String} {af : Array Edge} {α : Type} {f : α → List Value}
end
end Go.Den
namespace Go.Proofs.YtfjihdlpohljbaaGreat
open Go Go.Den
set_option maxRecDepth 100000
/-! ### requests without an error -/
structure RqOk (t : List Tb) (x : Rq) : Prop where
  l1 : 1 ≤ x.len
  l2 : x.len ≤ 96
  a1 : 0 ≤ x.arr
  a2 : x.arr ≤ 99999
  k : 0 < cntK t x.kind
theorem queE_ok {t : List Tb} {p : List Rq} {x : Rq} (h : queE t p x = 0) : RqOk t x := by
  unfold queE at h
  have ha := firstL_allZ h
  have h1 := whenL_z (ha (whenL ((cntK t x.kind : Int) == 0) 10) (by simp)) (by decide)
  have h2 := whenL_z (ha (whenL (outL x.len 1 96) 3) (by simp)) (by decide)
  have h3 := whenL_z (ha (whenL (outL x.arr 0 99999) 3) (by simp)) (by decide)
  simp only [outL, decide_eq_false_iff_not] at h2 h3
  simp only [beq_eq_false_iff_ne, ne_eq] at h1
  exact ⟨by omega, by omega, by omega, by omega, by omega⟩
theorem ques_ok {t : List Tb} {r : List Rq} (h : quesE t r = 0) : r.length ≤ 256 ∧ ∀ x ∈ r, RqOk t x := by
  unfold quesE at h
  by_cases hl : r.length > 256
  · rw [if_pos hl] at h; exact absurd h (by decide)
  · rw [if_neg hl] at h
    refine ⟨by omega, fun x hx => ?_⟩
    obtain ⟨i, hi, rfl⟩ := List.getElem_of_mem hx
    exact queE_ok (restG_zero (err := queE t) h hi)
/-! ### the floor of a request -/
theorem flr_fold {k : ByteArray} : ∀ {ps : List (Rq × Int)} {a b : Int}, ps.foldl (flrS k) (max a b) = max a (ps.foldl (flrS k) b)
  | [], _, _ => rfl
  | p :: ps, a, b => by
    rw [List.foldl_cons, List.foldl_cons]
    have e : flrS k (max a b) p = max a (flrS k b p) := by
      unfold flrS
      split
      · omega
      · rfl
    rw [e]; exact flr_fold
theorem flrB_max {r : List Rq} {out : List Int} {k : ByteArray} {arr : Int} {j : Nat} (h : 0 ≤ arr) : flrB r out k arr j = max arr (flrB r out k 0 j) := by
  unfold flrB
  rw [← flr_fold]
  congr 1
  omega
section
variable {t : List Tb} {l : List Bk} {r : List Rq} {out : List Int}
theorem SvI.bd (h : SvI t l r out) (hr : ∀ x ∈ r, RqOk t x) {j : Nat} (hj : j < out.length) : 0 ≤ out[j] ∧ out[j] ≤ 99998 := by
  have hjr : j < r.length := by have := h.len; omega
  obtain ⟨h1, h2⟩ := h.at_ j hj hjr
  have ok := hr _ (List.getElem_mem hjr)
  have h3 := h1.ge
  rw [flrB_max ok.a1] at h3
  have := ok.a1
  have := ok.l1
  omega
/-- all bookings end in time -/
theorem SvI.to_ (h : SvI t l r out) (hr : ∀ x ∈ r, RqOk t x) (hl : ∀ x ∈ l, BkOk x) : ∀ x ∈ allB l r out out.length, 0 ≤ x.to ∧ x.to ≤ 99999 := fun x hx => by
  unfold allB at hx
  rcases List.mem_append.1 hx with hx | hx
  · have := hl x hx; exact ⟨this.t0, this.t1⟩
  · obtain ⟨i, hi, e⟩ := List.getElem_of_mem hx
    rw [List.length_zipWith, List.length_take, List.length_take] at hi
    have hl := h.len
    have hj : i < out.length := by omega
    have hjr : i < r.length := by omega
    rw [List.getElem_zipWith, List.getElem_take, List.getElem_take] at e
    subst e
    have b1 := h.bd hr hj
    have b2 := (h.at_ i hj hjr).2
    have b3 := (hr _ (List.getElem_mem hjr)).l1
    exact ⟨by simp only [bkR]; omega, by simp only [bkR]; omega⟩
end
/-! ### what Serve answers -/
section
variable {H : AHeap} {q : Option Addr} {c K9 Km : Nat} {t : List Tb} {l : List Bk} {w : List Rq} {out : List Int} {ms : List (ByteArray × Int)} {L : List (Option ABlk)} {Ka : Nat} {va : Value} {Ko : Nat} {vo : Value}
end
end Go.Proofs.YtfjihdlpohljbaaGreat
