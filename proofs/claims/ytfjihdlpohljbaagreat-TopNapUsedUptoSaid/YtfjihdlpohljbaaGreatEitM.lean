/- HallDepths: the law's own walk. -/
import Derived.Test.YtfjihdlpohljbaaGreatBkL
import Derived.Test.YtfjihdlpohljbaaGreatBgH
import Derived.Test.YtfjihdlpohljbaaGreatHkA
import Derived.Test.YtfjihdlpohljbaaGreatSxW
import Derived.Test.YtfjihdlpohljbaaGreatHaC
import Derived.Test.YtfjihdlpohljbaaGreatSxZ
import Derived.Test.YtfjihdlpohljbaaGreatSxQ
import Derived.Test.YtfjihdlpohljbaaGreatSxU
import Derived.Test.YtfjihdlpohljbaaGreatElJ
import Derived.Test.YtfjihdlpohljbaaGreatOpnE
import Derived.Test.YtfjihdlpohljbaaGreatAsF
import Derived.Test.YtfjihdlpohljbaaGreatDyL
import Derived.Test.YtfjihdlpohljbaaGreatPnH
import Derived.Test.YtfjihdlpohljbaaGreatSxK
noncomputable section
namespace Go.Proofs.YtfjihdlpohljbaaGreat
open Go Go.Den
set_option maxRecDepth 100000
theorem ovb_ref {t : List Tb} {l : List Bk} (h : bothE t l = 0) : OvbV t l = ((roA t l l.length).1, (roA t l l.length).2.1, whenL (!(roA t l l.length).2.2) 7) := by
  unfold OvbV
  rw [if_neg (by rw [h]; simp), (both_ok h).ov.1, (both_ok h).ov.2]
theorem ext_more {H : AHeap} (hc : Closed H) {lo lo' : Nat} {L M : List (Option ABlk)} : Ext (ext H lo L) (ext H lo' (L ++ M)) := fun b y hb => by
  rw [ext_get hc] at hb ⊢
  by_cases h : b % 2 = 0 ∧ H.fresh ≤ b
  · rw [if_pos h] at hb ⊢
    cases e : L[b / 2 - H.next]? with
    | none => rw [e] at hb; cases hb
    | some x => rw [getApp e]; rw [e] at hb; exact hb
  · rw [if_neg h] at hb ⊢; exact hb
end Go.Proofs.YtfjihdlpohljbaaGreat
/- HallFits: the law's own walk. -/
noncomputable section
namespace Go.Proofs.YtfjihdlpohljbaaGreat
open Go Go.Den
set_option maxRecDepth 100000
theorem books_one {b : Bk} : booksE [b] = bookE b := by
  unfold booksE
  rw [if_neg (by simp)]
  by_cases h : bookE b = 0
  · simp [restG, errG, firstL, h]
  · simp [restG, errG, firstL, h]
theorem seq_anyLo {P : Program} {rd : Option Nat} {nt : Nat} {ops : Array Oper} {r : List Oper} {i : Nat} {ds : List Nat} {e : Env} {H : AHeap} {lo : Nat} {L : List (Option ABlk)} {K : St → Prop} (hk : ∀ lo' : Nat, SeqL P rd nt ops r i ⟨e, ds, ext H lo' L⟩ K) : SeqL P rd nt ops r i ⟨e, ds, ext H lo L⟩ K := hk lo
end Go.Proofs.YtfjihdlpohljbaaGreat
/- HallOpens: the plain law. -/
noncomputable section
namespace Go.Proofs.YtfjihdlpohljbaaGreat
open Go Go.Den

structure OpsIn (t : List Tb) (l : List Bk) (b : Bk) : Prop where
  tl : t.length ≤ 4
  ll : l.length ≤ 8
  both : bothE t l = 0
  book : booksE [b] = 0
  to_ : b.to ≤ 60
  kind : cntK t b.kind ≠ 0
section
variable {t : List Tb} {l : List Bk} {b : Bk}
theorem OpsIn.bk (h : OpsIn t l b) : BkOk b := bookE_ok (by have := h.book; rwa [books_one] at this)
theorem firstL_z {l : List Int} (h : ∀ x ∈ l, x = 0) : firstL l = 0 := firstL_none fun j hj => h _ (List.getElem_mem hj)
theorem OpsIn.k0 (h : OpsIn t l b) : whenL ((cntK t b.kind : Int) == 0) 10 = 0 := by
  have : ((cntK t b.kind : Int) == 0) = false := by
    have := h.kind
    simp only [beq_eq_false_iff_ne, ne_eq]; omega
  rw [this]; rfl
theorem OpsIn.fitsE (h : OpsIn t l b) : fitsE t l b = 0 := by
  refine firstL_z fun x hx => ?_
  simp only [List.mem_cons, List.not_mem_nil, or_false] at hx
  rcases hx with rfl | rfl | rfl
  · exact h.both
  · have := h.book; rwa [books_one] at this
  · exact h.k0
theorem OpsIn.opnE (h : OpsIn t l b) : opnE t l b.kind = 0 := by
  refine firstL_z fun x hx => ?_
  simp only [List.mem_cons, List.not_mem_nil, or_false] at hx
  rcases hx with rfl | rfl | rfl
  · exact h.both
  · have hb : bookE b = 0 := by have := h.book; rwa [books_one] at this
    unfold bookE at hb
    have h1 : nameE [b.name, b.kind] = 0 := firstL_allZ hb _ (by simp)
    have h1 := whenL_z h1 (by decide)
    simp only [List.any_cons, List.any_nil, Bool.or_false, Bool.or_eq_false_iff] at h1
    unfold nameE
    simp [h1.2, whenL]
  · exact h.k0
/-- bookings that do not fit fit with none more -/
theorem OpsIn.bad (h : OpsIn t l b) (hx : opnX t l b.kind ≠ 0) : opnX t l b.kind = 23 ∧ fitsV t l b = false := by
  have e : opnX t l b.kind = if fitB t l = true then 0 else 23 := by
    unfold opnX
    rw [if_neg (by rw [h.opnE]; simp)]
  by_cases hf : fitB t l = true
  · rw [e, if_pos hf] at hx; exact absurd rfl hx
  · rw [if_neg hf] at e
    refine ⟨e, ?_⟩
    have ev : fitsV t l b = fitB t (l ++ [b]) := if_neg (by rw [h.fitsE]; simp)
    have ok := both_ok h.both
    have ok2 := ok.grow h.bk (by have := h.kind; omega) (by have := h.ll; omega)
    rw [ev]
    cases e2 : fitB t (l ++ [b])
    · rfl
    · exact absurd (ok.fit.2 (fit_room.1 (ok2.fit.1 e2)).1) hf
end
/-- the quarters that are free, as far as the openings were gone through -/
structure FrI (F : List Bool) (o : List Spn) : Prop where
  len : F.length = 61
  iff : ∀ n (h : n < F.length), F[n] = true ↔ OpCov o (n : Int)
theorem FrI.zero : FrI (List.replicate 61 false) [] := ⟨by simp, fun n h => by
  rw [List.getElem_replicate]
  exact ⟨fun e => (by cases e), fun ⟨s, hs, _⟩ => (by cases hs)⟩⟩
/-- within an opening -/
structure FrJ (F : List Bool) (o : List Spn) (s : Spn) (n : Nat) : Prop where
  len : F.length = 61
  lo : s.1 ≤ n
  hi : (n : Int) ≤ s.2
  iff : ∀ m (h : m < F.length), F[m] = true ↔ OpCov o (m : Int) ∨ (s.1 ≤ m ∧ m < n)
theorem FrI.start {F : List Bool} {o : List Spn} {s : Spn} {n : Nat} (h : FrI F o) (e : s.1 = n) (hlt : s.1 < s.2) : FrJ F o s n :=
  ⟨h.len, by omega, by omega, fun m hm => by
    rw [h.iff m hm]
    exact ⟨.inl, fun h => h.elim id fun h => by omega⟩⟩
theorem FrJ.step {F : List Bool} {o : List Spn} {s : Spn} {n : Nat} (h : FrJ F o s n) (hn : n ≤ 60) (hlt : (n : Int) < s.2) : FrJ (F.set n true) o s (n + 1) := by
  refine ⟨by rw [List.length_set]; exact h.len, by have := h.lo; omega, by omega, fun m hm => ?_⟩
  rw [List.length_set] at hm
  rw [List.getElem_set]
  by_cases e : n = m
  · subst e
    rw [if_pos rfl]
    exact ⟨fun _ => .inr ⟨h.lo, by omega⟩, fun _ => rfl⟩
  · rw [if_neg e, h.iff m hm]
    constructor
    · rintro (h1 | ⟨h1, h2⟩)
      · exact .inl h1
      · exact .inr ⟨h1, by omega⟩
    · rintro (h1 | ⟨h1, h2⟩)
      · exact .inl h1
      · exact .inr ⟨h1, by omega⟩
theorem FrJ.done {F : List Bool} {o : List Spn} {s : Spn} {n : Nat} (h : FrJ F o s n) (hx : ¬ ((n : Int) < s.2 ∧ n ≤ 60)) : FrI F (o ++ [s]) :=
  ⟨h.len, fun m hm => by
    rw [h.iff m hm, cov_app, cov_one]
    have h1 := h.hi
    have h2 := h.len
    constructor
    · rintro (h3 | ⟨h3, h4⟩)
      · exact .inl h3
      · exact .inr ⟨h3, by omega⟩
    · rintro (h3 | ⟨h3, h4⟩)
      · exact .inl h3
      · exact .inr ⟨h3, by omega⟩⟩
theorem FrI.opF {F : List Bool} {o : List Spn} {f : Int → Bool} (h : FrI F o) (ho : OpI f 99999 o) {n : Nat} (hn : n < F.length) : F[n] = f n := by
  have h1 := h.len
  have h2 := (h.iff n hn).trans (ho.cov n)
  cases e : f n
  · rw [e] at h2
    cases e2 : F[n]
    · rfl
    · exact absurd (h2.1 e2).2.2 (by simp)
  · exact h2.2 ⟨by omega, by omega, e⟩
end Go.Proofs.YtfjihdlpohljbaaGreat
/- HallEither: facts for the law's own walk. -/
noncomputable section
namespace Go.Proofs.YtfjihdlpohljbaaGreat
open Go Go.Den
set_option maxRecDepth 100000

/-- what a call of Assign leaves -/
theorem asg_state {h : AHeap} {lo : Nat} {L : List (Option ABlk)} (t : List Tb) (l : List Bk) : ∃ (X : List (Option ABlk)) (p : Option Addr) (n : Nat), asgVal (ext h lo L) t l = .tuple ⟨[.slice p n n, I (asgX t l)]⟩ ∧ asgH (ext h lo L) t l = ext h lo (L ++ X) ∧ (asgX t l = 0 → n = l.length ∧ SlAt (ext h lo (L ++ X)) 1 i1 p (asgV t l)) ∧ (asgX t l ≠ 0 → n = 0) := by
  by_cases e : asgX t l = 0
  · refine ⟨[some (.cells ((asgV t l).map I) 1 false false)], some ⟨nb h L.length, 0, none⟩, l.length, ?_, ?_, fun _ => ⟨rfl, ?_⟩, fun h => absurd e h⟩
    · unfold asgVal
      rw [if_pos e, ext_fresh]
    · unfold asgH
      rw [if_pos e, ext_add]
    · exact slAt_map (ext_get_new List.getElem?_concat_length)
  · refine ⟨[], none, 0, ?_, ?_, fun h => absurd h e, fun _ => rfl⟩
    · unfold asgVal
      rw [if_neg e]
    · unfold asgH
      rw [if_neg e, List.append_nil]
theorem asgX_ite {t : List Tb} {l : List Bk} (hb : bothE t l = 0) : asgX t l = if fitB t l = true then 0 else 23 := if_neg (by rw [hb]; simp)
theorem eit_bad {t : List Tb} {l : List Bk} (hb : bothE t l = 0) (hx : asgX t l ≠ 0) : asgX t l = 23 ∧ (OvbV t l).2.2 = 0 ∧ cntK t (OvbV t l).1 < cntD l (OvbV t l).1 (OvbV t l).2.1 ∧ 0 < cntK t (OvbV t l).1 := by
  have ok := both_ok hb
  rw [asgX_ite hb] at hx ⊢
  cases hf : fitB t l
  · have hr := roA_inv t l l.length (Nat.le_refl _)
    have e2 : (roA t l l.length).2.2 = true := by
      have := ok.ov.2
      rw [hf] at this
      simpa using this.symm
    obtain ⟨⟨x, x1, x2, x3, x4⟩, _⟩ := hr.some e2
    rw [List.take_length] at x1
    rw [ovb_ref hb, e2]
    unfold badB at x2
    have hp := ok.pos x1
    simp only
    rw [← x3, ← x4]
    exact ⟨rfl, rfl, by omega, hp⟩
  · rw [hf] at hx; exact absurd rfl hx
theorem eit_good {t : List Tb} {l : List Bk} (hb : bothE t l = 0) (hx : asgX t l = 0) : (OvbV t l).2.2 = 7 ∧ AsI t l l.length (asgV t l) := by
  have ok := both_ok hb
  rw [asgX_ite hb] at hx
  cases hf : fitB t l
  · rw [hf] at hx; exact absurd hx (by decide)
  · have e2 : (roA t l l.length).2.2 = false := by
      have := ok.ov.2
      rw [hf] at this
      simpa using this.symm
    rw [ovb_ref hb, e2]
    exact ⟨rfl, asg_inv ok.ok (ok.fit.1 hf) l.length (Nat.le_refl _)⟩
theorem cas_zero {t : List Tb} {l : List Bk} {A : List Int} (hb : bothE t l = 0) (h : AsgP t l A) : casE t l A = 0 := by
  refine firstL_z fun x hx => ?_
  simp only [List.mem_cons, List.not_mem_nil, or_false] at hx
  rcases hx with rfl | rfl | rfl
  · exact hb
  · rw [h.len]; simp [whenL]
  · exact h.chk
/-- what is known of the table of booking i -/
structure EitA1 (t : List Tb) (l : List Bk) (A : List Int) (i : Nat) (hi : i < l.length) (hA : i < A.length) : Prop where
  lo : 0 ≤ A[i]
  hi : A[i] < t.length
  kd : ∀ h : A[i].toNat < t.length, t[A[i].toNat].kind = l[i].kind
  sep : ∀ k (hk : k < l.length) (hkA : k < A.length), k ≠ i → A[i] = A[k] → meetB l[k] l[i] = false
theorem AsgP.a1 {t : List Tb} {l : List Bk} {A : List Int} (h : AsgP t l A) {i : Nat} (hi : i < l.length) (hA : i < A.length) : EitA1 t l A i hi hA := by
  obtain ⟨k, k1, k2, k3⟩ := h.kd i hi
  rw [List.getElem?_eq_getElem hA] at k1
  have k1 := Option.some.inj k1
  refine ⟨by omega, by omega, fun hx => ?_, fun m hm hmA hne e => ?_⟩
  · have e : A[i].toNat = k := by omega
    simp only [e]; exact k3
  · refine h.sep m i hm hi hne ?_
    rw [List.getElem?_eq_getElem hmA, List.getElem?_eq_getElem hA, e]
/-- a list made by append, as an argument -/
theorem LstI.low {α : Type} {H : AHeap} {lo K m : Nat} {L : List (Option ABlk)} {f : α → List Value} {l : List α} {v : Value} (h : LstI H L m f K v l) (hf : ∀ x, (f x).length = m) : ∃ p, v = .slice p l.length l.length ∧ SlAt (ext H lo L) m f p l ∧ LowS p l.length l.length ∧ OldS (ext H lo L) p := by
  rcases h.out with ⟨rfl, rfl⟩ | ⟨hne, rfl, hL⟩
  · exact ⟨none, rfl, .nil, ⟨Nat.le_refl _, fun _ => ⟨rfl, rfl⟩, fun _ e => (by cases e)⟩, .nil⟩
  · exact ⟨some ⟨nb H K, 0, none⟩, rfl, slAt_flat hf (ext_get_new hL), ⟨Nat.le_refl _, fun e => (by cases e), fun a e => (by cases e; rfl)⟩, .new (List.getElem?_eq_some_iff.1 hL).1⟩
end Go.Proofs.YtfjihdlpohljbaaGreat
