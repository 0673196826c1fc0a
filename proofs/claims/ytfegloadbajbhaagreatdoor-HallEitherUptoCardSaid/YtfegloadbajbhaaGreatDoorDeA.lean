/- Plain law: bookings without an error. -/
import Derived.Test.YtfegloadbajbhaaGreatDoorDeM
import Derived.Test.YtfegloadbajbhaaGreatDoorBgH
import Derived.Test.YtfegloadbajbhaaGreatDoorHkB
import Derived.Test.YtfegloadbajbhaaGreatDoorSxM
import Derived.Test.YtfegloadbajbhaaGreatDoorSxZ
import Derived.Test.YtfegloadbajbhaaGreatDoorSxQ
import Derived.Test.YtfegloadbajbhaaGreatDoorSxU
import Derived.Test.YtfegloadbajbhaaGreatDoorAwake
noncomputable section
namespace Go.Proofs.YtfegloadbajbhaaGreatDoor
open Go Go.Den

structure BkOk (x : Bk) : Prop where
  nm : x.kind ≠ strB []
  f0 : 0 ≤ x.frm
  f1 : x.frm ≤ 99999
  t0 : 0 ≤ x.to
  t1 : x.to ≤ 99999
  lt : x.frm < x.to
theorem nameB_nil : nameB (strB []) = false := by decide +kernel
theorem bookE_ok {x : Bk} (h : bookE x = 0) : BkOk x := by
  unfold bookE at h
  have ha := firstL_allZ h
  have h1 : nameE [x.name, x.kind] = 0 := ha _ (by simp)
  have h2 := whenL_z (ha (whenL (outL x.frm 0 99999) 3) (by simp)) (by decide)
  have h3 := whenL_z (ha (whenL (outL x.to 0 99999) 3) (by simp)) (by decide)
  have h4 := whenL_z (ha (whenL (decide (x.to ≤ x.frm)) 11) (by simp)) (by decide)
  have h1 := whenL_z h1 (by decide)
  simp only [outL, decide_eq_false_iff_not] at h2 h3 h4
  refine ⟨fun e => ?_, by omega, by omega, by omega, by omega, by omega⟩
  rw [e, List.any_cons, List.any_cons, nameB_nil] at h1
  simp at h1
theorem books_ok {l : List Bk} (h : booksE l = 0) : l.length ≤ 256 ∧ ∀ x ∈ l, BkOk x := by
  unfold booksE at h
  by_cases hl : l.length > 256
  · rw [if_pos hl] at h; exact absurd h (by decide)
  · rw [if_neg hl] at h
    refine ⟨by omega, fun x hx => ?_⟩
    obtain ⟨i, hi, rfl⟩ := List.getElem_of_mem hx
    exact bookE_ok (restG_zero (err := fun _ x => bookE x) h hi)
structure BothOk (t : List Tb) (l : List Bk) : Prop where
  unk : unkB t l = false
  ok : ∀ x ∈ l, BkOk x
  len : l.length ≤ 256
  tlen : t.length ≤ 64
theorem both_ok {t : List Tb} {l : List Bk} (h : bothE t l = 0) : BothOk t l := by
  unfold bothE at h
  have ha := firstL_allZ h
  have h1 : tabsE t = 0 := ha _ (by simp)
  have h2 : booksE l = 0 := ha _ (by simp)
  have h3 := whenL_z (ha (whenL (unkB t l) 10) (by simp)) (by decide)
  obtain ⟨h4, h5⟩ := books_ok h2
  refine ⟨h3, h5, h4, ?_⟩
  unfold tabsE at h1
  by_cases hl : t.length > 64
  · rw [if_pos hl] at h1; exact absurd h1 (by decide)
  · omega
section
variable {t : List Tb} {l : List Bk}
theorem BothOk.pos (h : BothOk t l) {x : Bk} (hx : x ∈ l) : 0 < cntK t x.kind := by
  have := h.unk
  unfold unkB at this
  rw [List.any_eq_false] at this
  have := this x hx
  simp only [beq_iff_eq] at this
  omega
theorem BothOk.grow (h : BothOk t l) {b : Bk} (hb : BkOk b) (hk : 0 < cntK t b.kind) (hl : l.length < 256) : BothOk t (l ++ [b]) := by
  refine ⟨?_, fun x hx => ?_, by simp; omega, h.tlen⟩
  · have := h.unk
    unfold unkB at this ⊢
    rw [List.any_append, this, Bool.false_or, List.any_cons, List.any_nil, Bool.or_false]
    simp only [beq_eq_false_iff_ne, ne_eq]
    omega
  · rcases List.mem_append.1 hx with hx | hx
    · exact h.ok x hx
    · rw [List.mem_singleton.1 hx]; exact hb
theorem BothOk.ov (h : BothOk t l) : ovV t l = ((roA t l l.length).1, (roA t l l.length).2.1) ∧ fitB t l = !(roA t l l.length).2.2 := ov_eq h.unk fun x hx => (h.ok x hx).nm
/-- no kind has too many bookings at any quarter -/
def FitP (t : List Tb) (l : List Bk) : Prop := ∀ k q, cntD l k q ≤ cntK t k
theorem fit_beg : (∀ x ∈ l, ¬ badB t l x) → FitP t l := fun h k q => by
  by_cases h0 : cntD l k q = 0
  · omega
  obtain ⟨f, hf, _, h2⟩ := depth_key (l := l) (k := k) (q := q) (by omega)
  obtain ⟨x, hx, e1, e2⟩ := mem_froms.1 hf
  have := h x hx
  unfold badB at this
  rw [e1, e2] at this
  omega
theorem BothOk.fit (h : BothOk t l) : fitB t l = true ↔ FitP t l := by
  have hr := roA_inv t l l.length (Nat.le_refl _)
  rw [h.ov.2]
  constructor
  · intro e
    have e : (roA t l l.length).2.2 = false := by simpa using e
    have := (hr.none e).2
    rw [List.take_length] at this
    exact fit_beg this
  · intro hf
    cases e : (roA t l l.length).2.2
    · rfl
    · obtain ⟨⟨x, x1, x2, _⟩, _⟩ := hr.some e
      have := hf x.kind x.frm
      unfold badB at x2
      omega
end
end Go.Proofs.YtfegloadbajbhaaGreatDoor
/- HallDepths: the law's own walk. -/
noncomputable section
namespace Go.Proofs.YtfegloadbajbhaaGreatDoor
open Go Go.Den
set_option maxRecDepth 100000
theorem ovb_ref {t : List Tb} {l : List Bk} (h : bothE t l = 0) : OvbV t l = ((roA t l l.length).1, (roA t l l.length).2.1, whenL (!(roA t l l.length).2.2) 7) := by
  unfold OvbV
  rw [if_neg (by rw [h]; simp), (both_ok h).ov.1, (both_ok h).ov.2]
theorem ext_more {H : AHeap} (hc : Closed H) {lo lo' : Nat} {L M : List (Option ABlk)} : Ext (ext H lo L) (ext H lo' (L ++ M)) := fun b y hb => by
  rw [ext_get hc] at hb ⊢
  by_cases h : b % 2 = 0 ∧ H.fresh ≤ b
  · rw [if_pos h] at hb ⊢
    cases e : L[b / 2 - H.next]? with
    | none => rw [e] at hb; cases hb
    | some x => rw [getApp e]; rw [e] at hb; exact hb
  · rw [if_neg h] at hb ⊢; exact hb
end Go.Proofs.YtfegloadbajbhaaGreatDoor
