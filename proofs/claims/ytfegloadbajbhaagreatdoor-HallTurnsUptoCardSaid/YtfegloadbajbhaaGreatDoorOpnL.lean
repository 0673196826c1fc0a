/- Plain law: bookings without an error. -/
import Derived.Test.YtfegloadbajbhaaGreatDoorDeM
import Derived.Test.YtfegloadbajbhaaGreatDoorBgH
import Derived.Test.YtfegloadbajbhaaGreatDoorHkB
import Derived.Test.YtfegloadbajbhaaGreatDoorStC
import Derived.Test.YtfegloadbajbhaaGreatDoorSxM
import Derived.Test.YtfegloadbajbhaaGreatDoorFnL
import Derived.Test.YtfegloadbajbhaaGreatDoorSxX
import Derived.Test.YtfegloadbajbhaaGreatDoorSxZ
import Derived.Test.YtfegloadbajbhaaGreatDoorSxU
import Derived.Test.YtfegloadbajbhaaGreatDoorAwake
noncomputable section
namespace Go.Proofs.YtfegloadbajbhaaGreatDoor
open Go Go.Den

structure BkOk (x : Bk) : Prop where
  nm : x.kind ≠ strB []
  f0 : 0 ≤ x.frm
  f1 : x.frm ≤ 99999
  t0 : 0 ≤ x.to
  t1 : x.to ≤ 99999
  lt : x.frm < x.to
theorem nameB_nil : nameB (strB []) = false := by decide +kernel
theorem bookE_ok {x : Bk} (h : bookE x = 0) : BkOk x := by
  unfold bookE at h
  have ha := firstL_allZ h
  have h1 : nameE [x.name, x.kind] = 0 := ha _ (by simp)
  have h2 := whenL_z (ha (whenL (outL x.frm 0 99999) 3) (by simp)) (by decide)
  have h3 := whenL_z (ha (whenL (outL x.to 0 99999) 3) (by simp)) (by decide)
  have h4 := whenL_z (ha (whenL (decide (x.to ≤ x.frm)) 11) (by simp)) (by decide)
  have h1 := whenL_z h1 (by decide)
  simp only [outL, decide_eq_false_iff_not] at h2 h3 h4
  refine ⟨fun e => ?_, by omega, by omega, by omega, by omega, by omega⟩
  rw [e, List.any_cons, List.any_cons, nameB_nil] at h1
  simp at h1
theorem books_ok {l : List Bk} (h : booksE l = 0) : l.length ≤ 256 ∧ ∀ x ∈ l, BkOk x := by
  unfold booksE at h
  by_cases hl : l.length > 256
  · rw [if_pos hl] at h; exact absurd h (by decide)
  · rw [if_neg hl] at h
    refine ⟨by omega, fun x hx => ?_⟩
    obtain ⟨i, hi, rfl⟩ := List.getElem_of_mem hx
    exact bookE_ok (restG_zero (err := fun _ x => bookE x) h hi)
structure BothOk (t : List Tb) (l : List Bk) : Prop where
  unk : unkB t l = false
  ok : ∀ x ∈ l, BkOk x
  len : l.length ≤ 256
  tlen : t.length ≤ 64
theorem both_ok {t : List Tb} {l : List Bk} (h : bothE t l = 0) : BothOk t l := by
  unfold bothE at h
  have ha := firstL_allZ h
  have h1 : tabsE t = 0 := ha _ (by simp)
  have h2 : booksE l = 0 := ha _ (by simp)
  have h3 := whenL_z (ha (whenL (unkB t l) 10) (by simp)) (by decide)
  obtain ⟨h4, h5⟩ := books_ok h2
  refine ⟨h3, h5, h4, ?_⟩
  unfold tabsE at h1
  by_cases hl : t.length > 64
  · rw [if_pos hl] at h1; exact absurd h1 (by decide)
  · omega
section
variable {t : List Tb} {l : List Bk}
theorem BothOk.pos (h : BothOk t l) {x : Bk} (hx : x ∈ l) : 0 < cntK t x.kind := by
  have := h.unk
  unfold unkB at this
  rw [List.any_eq_false] at this
  have := this x hx
  simp only [beq_iff_eq] at this
  omega
theorem BothOk.grow (h : BothOk t l) {b : Bk} (hb : BkOk b) (hk : 0 < cntK t b.kind) (hl : l.length < 256) : BothOk t (l ++ [b]) := by
  refine ⟨?_, fun x hx => ?_, by simp; omega, h.tlen⟩
  · have := h.unk
    unfold unkB at this ⊢
    rw [List.any_append, this, Bool.false_or, List.any_cons, List.any_nil, Bool.or_false]
    simp only [beq_eq_false_iff_ne, ne_eq]
    omega
  · rcases List.mem_append.1 hx with hx | hx
    · exact h.ok x hx
    · rw [List.mem_singleton.1 hx]; exact hb
theorem BothOk.ov (h : BothOk t l) : ovV t l = ((roA t l l.length).1, (roA t l l.length).2.1) ∧ fitB t l = !(roA t l l.length).2.2 := ov_eq h.unk fun x hx => (h.ok x hx).nm
/-- no kind has too many bookings at any quarter -/
def FitP (t : List Tb) (l : List Bk) : Prop := ∀ k q, cntD l k q ≤ cntK t k
theorem fit_beg : (∀ x ∈ l, ¬ badB t l x) → FitP t l := fun h k q => by
  by_cases h0 : cntD l k q = 0
  · omega
  obtain ⟨f, hf, _, h2⟩ := depth_key (l := l) (k := k) (q := q) (by omega)
  obtain ⟨x, hx, e1, e2⟩ := mem_froms.1 hf
  have := h x hx
  unfold badB at this
  rw [e1, e2] at this
  omega
theorem BothOk.fit (h : BothOk t l) : fitB t l = true ↔ FitP t l := by
  have hr := roA_inv t l l.length (Nat.le_refl _)
  rw [h.ov.2]
  constructor
  · intro e
    have e : (roA t l l.length).2.2 = false := by simpa using e
    have := (hr.none e).2
    rw [List.take_length] at this
    exact fit_beg this
  · intro hf
    cases e : (roA t l l.length).2.2
    · rfl
    · obtain ⟨⟨x, x1, x2, _⟩, _⟩ := hr.some e
      have := hf x.kind x.frm
      unfold badB at x2
      omega
end
end Go.Proofs.YtfegloadbajbhaaGreatDoor
/- HallDepths: the law's own walk. -/
noncomputable section
namespace Go.Proofs.YtfegloadbajbhaaGreatDoor
open Go Go.Den
set_option maxRecDepth 100000
theorem ext_more {H : AHeap} (hc : Closed H) {lo lo' : Nat} {L M : List (Option ABlk)} : Ext (ext H lo L) (ext H lo' (L ++ M)) := fun b y hb => by
  rw [ext_get hc] at hb ⊢
  by_cases h : b % 2 = 0 ∧ H.fresh ≤ b
  · rw [if_pos h] at hb ⊢
    cases e : L[b / 2 - H.next]? with
    | none => rw [e] at hb; cases hb
    | some x => rw [getApp e]; rw [e] at hb; exact hb
  · rw [if_neg h] at hb ⊢; exact hb
end Go.Proofs.YtfegloadbajbhaaGreatDoor
/- Plain law: openings. -/
noncomputable section
namespace Go.Proofs.YtfegloadbajbhaaGreatDoor
open Go Go.Den

abbrev Spn := Int × Int
def OpCov (o : List Spn) (q : Int) : Prop := ∃ s ∈ o, s.1 ≤ q ∧ q < s.2
structure OpAsc (o : List Spn) : Prop where
  pos : ∀ s ∈ o, s.1 < s.2
  gap : o.Pairwise fun a b => a.2 < b.1
theorem OpAsc.tail {s : Spn} {o : List Spn} (h : OpAsc (s :: o)) : OpAsc o ∧ ∀ u ∈ o, s.2 < u.1 ∧ u.1 < u.2 :=
  have g := List.pairwise_cons.1 h.gap
  ⟨⟨fun u hu => h.pos u (List.mem_cons_of_mem _ hu), g.2⟩, fun u hu => ⟨g.1 u hu, h.pos u (List.mem_cons_of_mem _ hu)⟩⟩
theorem cov_uniq : ∀ {a b : List Spn}, OpAsc a → OpAsc b → (∀ q, OpCov a q ↔ OpCov b q) → a = b
  | [], [], _, _, _ => rfl
  | [], t :: b, _, hb, h => by
    obtain ⟨s, hs, _⟩ := (h t.1).2 ⟨t, by simp, Int.le_refl _, hb.pos t (by simp)⟩
    cases hs
  | s :: a, [], ha, _, h => by
    obtain ⟨t, ht, _⟩ := (h s.1).1 ⟨s, by simp, Int.le_refl _, ha.pos s (by simp)⟩
    cases ht
  | s :: a, t :: b, ha, hb, h => by
    obtain ⟨ha', la⟩ := ha.tail
    obtain ⟨hb', lb⟩ := hb.tail
    have pa := ha.pos s (by simp)
    have pb := hb.pos t (by simp)
    have e1 : t.1 ≤ s.1 := by
      obtain ⟨u, hu, h1, h2⟩ := (h s.1).1 ⟨s, by simp, Int.le_refl _, pa⟩
      rcases List.mem_cons.1 hu with rfl | hu
      · exact h1
      · have := lb u hu; omega
    have e2 : s.1 ≤ t.1 := by
      obtain ⟨u, hu, h1, h2⟩ := (h t.1).2 ⟨t, by simp, Int.le_refl _, pb⟩
      rcases List.mem_cons.1 hu with rfl | hu
      · exact h1
      · have := la u hu; omega
    have e3 : ¬ s.2 < t.2 := fun hlt => by
      obtain ⟨u, hu, h1, h2⟩ := (h s.2).2 ⟨t, by simp, by omega, hlt⟩
      rcases List.mem_cons.1 hu with rfl | hu
      · omega
      · have := la u hu; omega
    have e4 : ¬ t.2 < s.2 := fun hlt => by
      obtain ⟨u, hu, h1, h2⟩ := (h t.2).1 ⟨s, by simp, by omega, hlt⟩
      rcases List.mem_cons.1 hu with rfl | hu
      · omega
      · have := lb u hu; omega
    have est : s = t := Prod.ext (by omega) (by omega)
    subst est
    rw [cov_uniq ha' hb' fun q => ⟨fun ⟨u, hu, h1, h2⟩ => ?_, fun ⟨u, hu, h1, h2⟩ => ?_⟩]
    · obtain ⟨v, hv, h3, h4⟩ := (h q).1 ⟨u, List.mem_cons_of_mem _ hu, h1, h2⟩
      rcases List.mem_cons.1 hv with rfl | hv
      · have := la u hu; omega
      · exact ⟨v, hv, h3, h4⟩
    · obtain ⟨v, hv, h3, h4⟩ := (h q).2 ⟨u, List.mem_cons_of_mem _ hu, h1, h2⟩
      rcases List.mem_cons.1 hv with rfl | hv
      · have := lb u hu; omega
      · exact ⟨v, hv, h3, h4⟩
theorem cov_app {o p : List Spn} {q : Int} : OpCov (o ++ p) q ↔ OpCov o q ∨ OpCov p q := by
  unfold OpCov
  simp only [List.mem_append, or_and_right, exists_or]
theorem cov_one {s : Spn} {q : Int} : OpCov [s] q ↔ s.1 ≤ q ∧ q < s.2 := by
  unfold OpCov; simp
/-- the openings up to a quarter -/
structure OpI (f : Int → Bool) (a : Int) (o : List Spn) : Prop where
  asc : OpAsc o
  lo : ∀ s ∈ o, 0 ≤ s.1 ∧ s.2 ≤ a
  cov : ∀ q, OpCov o q ↔ 0 ≤ q ∧ q < a ∧ f q = true
section
variable {f : Int → Bool} {a b : Int} {o : List Spn}
theorem OpI.nil : OpI f 0 [] := ⟨⟨by simp, .nil⟩, by simp, fun q => ⟨fun ⟨s, hs, _⟩ => (by cases hs), fun h => (by omega)⟩⟩
theorem OpI.uniq {o' : List Spn} (h : OpI f a o) (h' : OpI f a o') : o = o' := cov_uniq h.asc h'.asc fun q => (h.cov q).trans (h'.cov q).symm
theorem OpI.skip (h : OpI f a o) (hlt : a < b) (hf : ∀ q, a ≤ q → q < b → f q = false) : OpI f b o :=
  ⟨h.asc, fun s hs => ⟨(h.lo s hs).1, by have := (h.lo s hs).2; omega⟩, fun q => by
    rw [h.cov]
    constructor
    · rintro ⟨h1, h2, h3⟩; exact ⟨h1, by omega, h3⟩
    · rintro ⟨h1, h2, h3⟩
      refine ⟨h1, ?_, h3⟩
      by_cases e : q < a
      · exact e
      · rw [hf q (by omega) h2] at h3; cases h3⟩
theorem OpI.new (h : OpI f a o) (h0 : 0 ≤ a) (hlt : a < b) (hf : ∀ q, a ≤ q → q < b → f q = true) (hl : ∀ p s, o = p ++ [s] → s.2 ≠ a) : OpI f b (o ++ [(a, b)]) := by
  have hx : ∀ x ∈ o, x.2 < a := by
    rcases List.eq_nil_or_concat o with rfl | ⟨p, s, e⟩
    · simp
    · rw [List.concat_eq_append] at e
      have h1 := hl p s e
      have h2 := h.lo s (by rw [e]; simp)
      have h3 := h.asc.pos s (by rw [e]; simp)
      have h4 := h.asc.gap
      rw [e] at h4
      intro x hx
      rw [e] at hx
      rcases List.mem_append.1 hx with hx | hx
      · have := (List.pairwise_append.1 h4).2.2 x hx s (by simp)
        omega
      · rw [List.mem_singleton.1 hx]; omega
  refine ⟨⟨fun s hs => ?_, List.pairwise_append.2 ⟨h.asc.gap, by simp, fun x hx' y hy => ?_⟩⟩, fun s hs => ?_, fun q => ?_⟩
  · rcases List.mem_append.1 hs with hs | hs
    · exact h.asc.pos s hs
    · rw [List.mem_singleton.1 hs]; exact hlt
  · rw [List.mem_singleton.1 hy]; exact hx x hx'
  · rcases List.mem_append.1 hs with hs | hs
    · have := h.lo s hs; exact ⟨this.1, by omega⟩
    · rw [List.mem_singleton.1 hs]; exact ⟨h0, Int.le_refl _⟩
  · rw [cov_app, h.cov, cov_one]
    constructor
    · rintro (⟨h1, h2, h3⟩ | ⟨h1, h2⟩)
      · exact ⟨h1, by omega, h3⟩
      · exact ⟨by simp only at h1; omega, h2, hf q h1 h2⟩
    · rintro ⟨h1, h2, h3⟩
      by_cases e : q < a
      · exact .inl ⟨h1, e, h3⟩
      · exact .inr ⟨by simp only; omega, h2⟩
theorem OpI.join {s : Spn} (h : OpI f a (o ++ [s])) (hlt : a < b) (hf : ∀ q, a ≤ q → q < b → f q = true) (he : s.2 = a) : OpI f b (o ++ [(s.1, b)]) := by
  have hs := h.lo s (by simp)
  have hp := h.asc.pos s (by simp)
  have hg := List.pairwise_append.1 h.asc.gap
  refine ⟨⟨fun x hx => ?_, List.pairwise_append.2 ⟨hg.1, by simp, fun x hx' y hy => ?_⟩⟩, fun x hx => ?_, fun q => ?_⟩
  · rcases List.mem_append.1 hx with hx | hx
    · exact h.asc.pos x (List.mem_append_left _ hx)
    · rw [List.mem_singleton.1 hx]; simp only; omega
  · rw [List.mem_singleton.1 hy]; exact hg.2.2 x hx' s (by simp)
  · rcases List.mem_append.1 hx with hx | hx
    · have := h.lo x (List.mem_append_left _ hx); exact ⟨this.1, by omega⟩
    · rw [List.mem_singleton.1 hx]; exact ⟨hs.1, Int.le_refl _⟩
  · have hc := h.cov q
    rw [cov_app, cov_one] at hc
    rw [cov_app, cov_one]
    constructor
    · rintro (h1 | ⟨h1, h2⟩)
      · obtain ⟨h2, h3, h4⟩ := hc.1 (.inl h1)
        exact ⟨h2, by omega, h4⟩
      · simp only at h1 h2
        by_cases e : q < a
        · obtain ⟨h3, h4, h5⟩ := hc.1 (.inr ⟨h1, by omega⟩)
          exact ⟨h3, h2, h5⟩
        · exact ⟨by omega, h2, hf q (by omega) h2⟩
    · rintro ⟨h1, h2, h3⟩
      by_cases e : q < a
      · rcases hc.2 ⟨h1, e, h3⟩ with h4 | ⟨h4, h5⟩
        · exact .inl h4
        · exact .inr ⟨h4, by simp only; omega⟩
      · exact .inr ⟨by simp only; omega, h2⟩
end
/-- a table of the kind is free -/
def opF (t : List Tb) (l : List Bk) (k : ByteArray) (q : Int) : Bool := decide ((cntD l k q : Int) < (cntK t k : Int))
open Classical in
/-- the openings of a kind -/
def opV (t : List Tb) (l : List Bk) (k : ByteArray) : List Spn := if h : ∃ o, OpI (opF t l k) 99999 o then h.choose else []
theorem OpI.eq {t : List Tb} {l : List Bk} {k : ByteArray} {o : List Spn} (h : OpI (opF t l k) 99999 o) : opV t l k = o := by
  have hx : ∃ o, OpI (opF t l k) 99999 o := ⟨o, h⟩
  unfold opV
  rw [dif_pos hx]
  exact hx.choose_spec.uniq h
/-! ### the reference's next quarter -/
/-! ### the program's quarters -/
def endF (l : List Bk) (k : ByteArray) : List Int := (l.filter fun x => decide (x.kind = k)).flatMap fun x => [x.frm, x.to]
def endL (l : List Bk) (k : ByteArray) : List Int := Lib.compact (srtI ([0, 99999] ++ endF l k))
end Go.Proofs.YtfegloadbajbhaaGreatDoor
