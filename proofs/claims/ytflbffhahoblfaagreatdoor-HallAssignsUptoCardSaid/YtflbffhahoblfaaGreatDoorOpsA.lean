/- HallPrices: a price that is not split; what is compared; the law's own walk. -/
import Derived.Test.YtflbffhahoblfaaGreatDoorTcH
import Derived.Test.YtflbffhahoblfaaGreatDoorSxM
import Derived.Test.YtflbffhahoblfaaGreatDoorSxQ
import Derived.Test.YtflbffhahoblfaaGreatDoorShB
import Derived.Test.YtflbffhahoblfaaGreatDoorPnF
import Derived.Test.YtflbffhahoblfaaGreatDoorAwake
import Derived.Test.YtflbffhahoblfaaGreatDoorBkL
import Derived.Test.YtflbffhahoblfaaGreatDoorBgH
import Derived.Test.YtflbffhahoblfaaGreatDoorHkB
import Derived.Test.YtflbffhahoblfaaGreatDoorAsA
noncomputable section
namespace Go.Proofs.YtflbffhahoblfaaGreatDoor
open Go Go.Den
set_option maxRecDepth 100000
def listB (have' : List Int) (e bad : Int) (want : List Int) : Bool := if bad ≠ 0 then ((have'.length : Int) == 0) && (e == bad) else (e == 0) && decide (have' = want)
theorem list_c {H : AHeap} {p q : Option Addr} {c c' : Nat} {l m : List Int} {e bad : Int} (hs : SlAt H 1 i1 p l) (ht : SlAt H 1 i1 q m) (hn : l.length < 1000000000000) :
    Ret Tryz.prog 10 [.slice p l.length c, I e, I bad, .slice q m.length c'] H (.bool (listB l e bad m)) H := by
  refine fn_start Tryz.func10 rfl rfl rfl fun hc => ?_
  unfold listB
  apply ct_seq
  apply ct_region
  apply seq_plain; exact do_assign rfl; exact rfl
  apply seq_nil
  iterate 2 (apply ct_seq)
  apply ct_region
  apply seq_plain; exact do_move rfl; exact rfl
  apply seq_plain; exact do_binInt rfl rfl rfl trivial; exact rfl
  apply seq_nil
  refine ct_cond rfl (fun h1 => ?_) (fun h1 => ?_)
  · have h1 : bad ≠ 0 := by simpa using h1
    rw [if_pos h1]
    apply ct_seq
    apply ct_region
    apply seq_plain; exact do_move rfl; exact rfl
    apply seq_plain; exact do_lenS rfl rfl rfl; exact rfl
    apply seq_plain; exact do_binInt rfl rfl rfl trivial; exact rfl
    apply seq_plain; exact do_move rfl; exact rfl
    refine seq_gsplit rfl rfl (fun u => ?_) (fun u => ?_)
    · have u : ((l.length : Int) == 0) = true := u
      iterate 2 (apply seq_guard (hd := rfl) (hl := rfl); exact do_move rfl; exact rfl)
      apply seq_guard (hd := rfl) (hl := rfl); exact do_binInt rfl rfl rfl trivial; exact rfl
      apply seq_plain; exact do_pick_t rfl rfl; exact rfl
      apply seq_plain; exact do_assign rfl; exact rfl
      apply seq_nil
      apply ct_ret
      refine fin_flat hc rfl rfl ⟨?_, rfl⟩
      rw [u]; rfl
    · have u : ((l.length : Int) == 0) = false := u
      iterate 3 (apply seq_passed (hd := rfl) (hl := rfl) (hb := rfl); exact rfl)
      apply seq_plain; exact do_pick_f rfl rfl; exact rfl
      apply seq_plain; exact do_assign rfl; exact rfl
      apply seq_nil
      apply ct_ret
      refine fin_flat hc rfl rfl ⟨?_, rfl⟩
      rw [u]; rfl
  · have h1 : ¬ bad ≠ 0 := by simpa using h1
    rw [if_neg h1]
    apply ct_skip
    apply ct_seq
    apply ct_region
    apply seq_plain; exact do_move rfl; exact rfl
    apply seq_plain; exact do_binInt rfl rfl rfl trivial; exact rfl
    apply seq_plain; exact do_move rfl; exact rfl
    refine seq_gsplit rfl rfl (fun u => ?_) (fun u => ?_)
    · have u : (e == 0) = true := u
      iterate 2 (apply seq_guard (hd := rfl) (hl := rfl); exact do_move rfl; exact rfl)
      apply seq_gcall (hg := rfl) (hl := rfl) (ht := rfl); exact sameInts79 (hs.ext (ext_Ext hc)) (ht.ext (ext_Ext hc)) hn; exact rfl
      apply seq_plain; exact do_pick_t rfl rfl; exact rfl
      apply seq_plain; exact do_assign rfl; exact rfl
      apply seq_nil
      apply ct_ret
      refine fin_flat hc rfl rfl ⟨?_, rfl⟩
      rw [u]; rfl
    · have u : (e == 0) = false := u
      iterate 3 (apply seq_passed (hd := rfl) (hl := rfl) (hb := rfl); exact rfl)
      apply seq_plain; exact do_pick_f rfl rfl; exact rfl
      apply seq_plain; exact do_assign rfl; exact rfl
      apply seq_nil
      apply ct_ret
      refine fin_flat hc rfl rfl ⟨?_, rfl⟩
      rw [u]; rfl
-- HERE
end Go.Proofs.YtflbffhahoblfaaGreatDoor
/- HallDepths: the law's own walk. -/
noncomputable section
namespace Go.Proofs.YtflbffhahoblfaaGreatDoor
open Go Go.Den
set_option maxRecDepth 100000
theorem ext_more {H : AHeap} (hc : Closed H) {lo lo' : Nat} {L M : List (Option ABlk)} : Ext (ext H lo L) (ext H lo' (L ++ M)) := fun b y hb => by
  rw [ext_get hc] at hb ⊢
  by_cases h : b % 2 = 0 ∧ H.fresh ≤ b
  · rw [if_pos h] at hb ⊢
    cases e : L[b / 2 - H.next]? with
    | none => rw [e] at hb; cases hb
    | some x => rw [getApp e]; rw [e] at hb; exact hb
  · rw [if_neg h] at hb ⊢; exact hb
end Go.Proofs.YtflbffhahoblfaaGreatDoor
/- HallFits: the law's own walk. -/
noncomputable section
namespace Go.Proofs.YtflbffhahoblfaaGreatDoor
open Go Go.Den
set_option maxRecDepth 100000
theorem books_one {b : Bk} : booksE [b] = bookE b := by
  unfold booksE
  rw [if_neg (by simp)]
  by_cases h : bookE b = 0
  · simp [restG, errG, firstL, h]
  · simp [restG, errG, firstL, h]
end Go.Proofs.YtflbffhahoblfaaGreatDoor
/- HallOpens: the plain law. -/
noncomputable section
namespace Go.Proofs.YtflbffhahoblfaaGreatDoor
open Go Go.Den
structure OpsIn (t : List Tb) (l : List Bk) (b : Bk) : Prop where
  tl : t.length ≤ 4
  ll : l.length ≤ 8
  both : bothE t l = 0
  book : booksE [b] = 0
  to_ : b.to ≤ 60
  kind : cntK t b.kind ≠ 0
section
variable {t : List Tb} {l : List Bk} {b : Bk}
theorem OpsIn.bk (h : OpsIn t l b) : BkOk b := bookE_ok (by have := h.book; rwa [books_one] at this)
theorem firstL_z {l : List Int} (h : ∀ x ∈ l, x = 0) : firstL l = 0 := firstL_none fun j hj => h _ (List.getElem_mem hj)
theorem OpsIn.k0 (h : OpsIn t l b) : whenL ((cntK t b.kind : Int) == 0) 10 = 0 := by
  have : ((cntK t b.kind : Int) == 0) = false := by
    have := h.kind
    simp only [beq_eq_false_iff_ne, ne_eq]; omega
  rw [this]; rfl
theorem OpsIn.fitsE (h : OpsIn t l b) : fitsE t l b = 0 := by
  refine firstL_z fun x hx => ?_
  simp only [List.mem_cons, List.not_mem_nil, or_false] at hx
  rcases hx with rfl | rfl | rfl
  · exact h.both
  · have := h.book; rwa [books_one] at this
  · exact h.k0
theorem OpsIn.opnE (h : OpsIn t l b) : opnE t l b.kind = 0 := by
  refine firstL_z fun x hx => ?_
  simp only [List.mem_cons, List.not_mem_nil, or_false] at hx
  rcases hx with rfl | rfl | rfl
  · exact h.both
  · have hb : bookE b = 0 := by have := h.book; rwa [books_one] at this
    unfold bookE at hb
    have h1 : nameE [b.name, b.kind] = 0 := firstL_allZ hb _ (by simp)
    have h1 := whenL_z h1 (by decide)
    simp only [List.any_cons, List.any_nil, Bool.or_false, Bool.or_eq_false_iff] at h1
    unfold nameE
    simp [h1.2, whenL]
  · exact h.k0
theorem OpsIn.bad (h : OpsIn t l b) (hx : opnX t l b.kind ≠ 0) : opnX t l b.kind = 23 ∧ fitsV t l b = false := by
  have e : opnX t l b.kind = if fitB t l = true then 0 else 23 := by
    unfold opnX
    rw [if_neg (by rw [h.opnE]; simp)]
  by_cases hf : fitB t l = true
  · rw [e, if_pos hf] at hx; exact absurd rfl hx
  · rw [if_neg hf] at e
    refine ⟨e, ?_⟩
    have ev : fitsV t l b = fitB t (l ++ [b]) := if_neg (by rw [h.fitsE]; simp)
    have ok := both_ok h.both
    have ok2 := ok.grow h.bk (by have := h.kind; omega) (by have := h.ll; omega)
    rw [ev]
    cases e2 : fitB t (l ++ [b])
    · rfl
    · exact absurd (ok.fit.2 (fit_room.1 (ok2.fit.1 e2)).1) hf
end
structure FrI (F : List Bool) (o : List Spn) : Prop where
  len : F.length = 61
  iff : ∀ n (h : n < F.length), F[n] = true ↔ OpCov o (n : Int)
theorem FrI.zero : FrI (List.replicate 61 false) [] := ⟨by simp, fun n h => by
  rw [List.getElem_replicate]
  exact ⟨fun e => (by cases e), fun ⟨s, hs, _⟩ => (by cases hs)⟩⟩
structure FrJ (F : List Bool) (o : List Spn) (s : Spn) (n : Nat) : Prop where
  len : F.length = 61
  lo : s.1 ≤ n
  hi : (n : Int) ≤ s.2
  iff : ∀ m (h : m < F.length), F[m] = true ↔ OpCov o (m : Int) ∨ (s.1 ≤ m ∧ m < n)
theorem FrI.start {F : List Bool} {o : List Spn} {s : Spn} {n : Nat} (h : FrI F o) (e : s.1 = n) (hlt : s.1 < s.2) : FrJ F o s n :=
  ⟨h.len, by omega, by omega, fun m hm => by
    rw [h.iff m hm]
    exact ⟨.inl, fun h => h.elim id fun h => by omega⟩⟩
theorem FrJ.step {F : List Bool} {o : List Spn} {s : Spn} {n : Nat} (h : FrJ F o s n) (hn : n ≤ 60) (hlt : (n : Int) < s.2) : FrJ (F.set n true) o s (n + 1) := by
  refine ⟨by rw [List.length_set]; exact h.len, by have := h.lo; omega, by omega, fun m hm => ?_⟩
  rw [List.length_set] at hm
  rw [List.getElem_set]
  by_cases e : n = m
  · subst e
    rw [if_pos rfl]
    exact ⟨fun _ => .inr ⟨h.lo, by omega⟩, fun _ => rfl⟩
  · rw [if_neg e, h.iff m hm]
    constructor
    · rintro (h1 | ⟨h1, h2⟩)
      · exact .inl h1
      · exact .inr ⟨h1, by omega⟩
    · rintro (h1 | ⟨h1, h2⟩)
      · exact .inl h1
      · exact .inr ⟨h1, by omega⟩
theorem FrJ.done {F : List Bool} {o : List Spn} {s : Spn} {n : Nat} (h : FrJ F o s n) (hx : ¬ ((n : Int) < s.2 ∧ n ≤ 60)) : FrI F (o ++ [s]) :=
  ⟨h.len, fun m hm => by
    rw [h.iff m hm, cov_app, cov_one]
    have h1 := h.hi
    have h2 := h.len
    constructor
    · rintro (h3 | ⟨h3, h4⟩)
      · exact .inl h3
      · exact .inr ⟨h3, by omega⟩
    · rintro (h3 | ⟨h3, h4⟩)
      · exact .inl h3
      · exact .inr ⟨h3, by omega⟩⟩
theorem FrI.opF {F : List Bool} {o : List Spn} {f : Int → Bool} (h : FrI F o) (ho : OpI f 99999 o) {n : Nat} (hn : n < F.length) : F[n] = f n := by
  have h1 := h.len
  have h2 := (h.iff n hn).trans (ho.cov n)
  cases e : f n
  · rw [e] at h2
    cases e2 : F[n]
    · rfl
    · exact absurd (h2.1 e2).2.2 (by simp)
  · exact h2.2 ⟨by omega, by omega, e⟩
end Go.Proofs.YtflbffhahoblfaaGreatDoor
/- HallOpens: the law's own walk. -/
noncomputable section
namespace Go.Proofs.YtflbffhahoblfaaGreatDoor
open Go Go.Den
set_option maxRecDepth 100000
theorem mkBools61 {P : Program} [PC P] {l : EL} {h : AHeap} {t : TypeId} {a : Operand} {n : Nat} {e : TypeId} (ha : ev l a = some (I n)) (hn : n ≤ 1000) (hs : selOf P t = some (1, false)) (he : (tyOf P t).map (·.und) = some (.slice e)) (hz : zerOf P e = some [.bool false]) (hby : (tyOf P e).map (·.bytes) = some 1) : Does P l (.makeSlice t a a) h (.slice (some ⟨h.fresh, 0, none⟩) n n) (h.add (.cells ((List.replicate n false).map Value.bool) 1 false false)) := by
  rw [← repl_map (g := Value.bool)]
  exact do_makeSlice ha ha hs he hz hby (Nat.le_refl _) (by omega) (by omega)
end Go.Proofs.YtflbffhahoblfaaGreatDoor
