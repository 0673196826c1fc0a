/- Plain law: openings. -/
import Derived.Test.YtfjihdlpohljbaaGreatBkL
noncomputable section
namespace Go.Proofs.YtfjihdlpohljbaaGreat
open Go Go.Den

abbrev Spn := Int × Int
def OpCov (o : List Spn) (q : Int) : Prop := ∃ s ∈ o, s.1 ≤ q ∧ q < s.2
structure OpAsc (o : List Spn) : Prop where
  pos : ∀ s ∈ o, s.1 < s.2
  gap : o.Pairwise fun a b => a.2 < b.1
theorem OpAsc.tail {s : Spn} {o : List Spn} (h : OpAsc (s :: o)) : OpAsc o ∧ ∀ u ∈ o, s.2 < u.1 ∧ u.1 < u.2 :=
  have g := List.pairwise_cons.1 h.gap
  ⟨⟨fun u hu => h.pos u (List.mem_cons_of_mem _ hu), g.2⟩, fun u hu => ⟨g.1 u hu, h.pos u (List.mem_cons_of_mem _ hu)⟩⟩
theorem cov_uniq : ∀ {a b : List Spn}, OpAsc a → OpAsc b → (∀ q, OpCov a q ↔ OpCov b q) → a = b
  | [], [], _, _, _ => rfl
  | [], t :: b, _, hb, h => by
    obtain ⟨s, hs, _⟩ := (h t.1).2 ⟨t, by simp, Int.le_refl _, hb.pos t (by simp)⟩
    cases hs
  | s :: a, [], ha, _, h => by
    obtain ⟨t, ht, _⟩ := (h s.1).1 ⟨s, by simp, Int.le_refl _, ha.pos s (by simp)⟩
    cases ht
  | s :: a, t :: b, ha, hb, h => by
    obtain ⟨ha', la⟩ := ha.tail
    obtain ⟨hb', lb⟩ := hb.tail
    have pa := ha.pos s (by simp)
    have pb := hb.pos t (by simp)
    have e1 : t.1 ≤ s.1 := by
      obtain ⟨u, hu, h1, h2⟩ := (h s.1).1 ⟨s, by simp, Int.le_refl _, pa⟩
      rcases List.mem_cons.1 hu with rfl | hu
      · exact h1
      · have := lb u hu; omega
    have e2 : s.1 ≤ t.1 := by
      obtain ⟨u, hu, h1, h2⟩ := (h t.1).2 ⟨t, by simp, Int.le_refl _, pb⟩
      rcases List.mem_cons.1 hu with rfl | hu
      · exact h1
      · have := la u hu; omega
    have e3 : ¬ s.2 < t.2 := fun hlt => by
      obtain ⟨u, hu, h1, h2⟩ := (h s.2).2 ⟨t, by simp, by omega, hlt⟩
      rcases List.mem_cons.1 hu with rfl | hu
      · omega
      · have := la u hu; omega
    have e4 : ¬ t.2 < s.2 := fun hlt => by
      obtain ⟨u, hu, h1, h2⟩ := (h t.2).1 ⟨s, by simp, by omega, hlt⟩
      rcases List.mem_cons.1 hu with rfl | hu
      · omega
      · have := lb u hu; omega
    have est : s = t := Prod.ext (by omega) (by omega)
    subst est
    rw [cov_uniq ha' hb' fun q => ⟨fun ⟨u, hu, h1, h2⟩ => ?_, fun ⟨u, hu, h1, h2⟩ => ?_⟩]
    · obtain ⟨v, hv, h3, h4⟩ := (h q).1 ⟨u, List.mem_cons_of_mem _ hu, h1, h2⟩
      rcases List.mem_cons.1 hv with rfl | hv
      · have := la u hu; omega
      · exact ⟨v, hv, h3, h4⟩
    · obtain ⟨v, hv, h3, h4⟩ := (h q).2 ⟨u, List.mem_cons_of_mem _ hu, h1, h2⟩
      rcases List.mem_cons.1 hv with rfl | hv
      · have := lb u hu; omega
      · exact ⟨v, hv, h3, h4⟩
theorem cov_app {o p : List Spn} {q : Int} : OpCov (o ++ p) q ↔ OpCov o q ∨ OpCov p q := by
  unfold OpCov
  simp only [List.mem_append, or_and_right, exists_or]
theorem cov_one {s : Spn} {q : Int} : OpCov [s] q ↔ s.1 ≤ q ∧ q < s.2 := by
  unfold OpCov; simp
/-- the openings up to a quarter -/
structure OpI (f : Int → Bool) (a : Int) (o : List Spn) : Prop where
  asc : OpAsc o
  lo : ∀ s ∈ o, 0 ≤ s.1 ∧ s.2 ≤ a
  cov : ∀ q, OpCov o q ↔ 0 ≤ q ∧ q < a ∧ f q = true
section
variable {f : Int → Bool} {a b : Int} {o : List Spn}
theorem OpI.nil : OpI f 0 [] := ⟨⟨by simp, .nil⟩, by simp, fun q => ⟨fun ⟨s, hs, _⟩ => (by cases hs), fun h => (by omega)⟩⟩
theorem OpI.uniq {o' : List Spn} (h : OpI f a o) (h' : OpI f a o') : o = o' := cov_uniq h.asc h'.asc fun q => (h.cov q).trans (h'.cov q).symm
theorem OpI.skip (h : OpI f a o) (hlt : a < b) (hf : ∀ q, a ≤ q → q < b → f q = false) : OpI f b o :=
  ⟨h.asc, fun s hs => ⟨(h.lo s hs).1, by have := (h.lo s hs).2; omega⟩, fun q => by
    rw [h.cov]
    constructor
    · rintro ⟨h1, h2, h3⟩; exact ⟨h1, by omega, h3⟩
    · rintro ⟨h1, h2, h3⟩
      refine ⟨h1, ?_, h3⟩
      by_cases e : q < a
      · exact e
      · rw [hf q (by omega) h2] at h3; cases h3⟩
theorem OpI.new (h : OpI f a o) (h0 : 0 ≤ a) (hlt : a < b) (hf : ∀ q, a ≤ q → q < b → f q = true) (hl : ∀ p s, o = p ++ [s] → s.2 ≠ a) : OpI f b (o ++ [(a, b)]) := by
  have hx : ∀ x ∈ o, x.2 < a := by
    rcases List.eq_nil_or_concat o with rfl | ⟨p, s, e⟩
    · simp
    · rw [List.concat_eq_append] at e
      have h1 := hl p s e
      have h2 := h.lo s (by rw [e]; simp)
      have h3 := h.asc.pos s (by rw [e]; simp)
      have h4 := h.asc.gap
      rw [e] at h4
      intro x hx
      rw [e] at hx
      rcases List.mem_append.1 hx with hx | hx
      · have := (List.pairwise_append.1 h4).2.2 x hx s (by simp)
        omega
      · rw [List.mem_singleton.1 hx]; omega
  refine ⟨⟨fun s hs => ?_, List.pairwise_append.2 ⟨h.asc.gap, by simp, fun x hx' y hy => ?_⟩⟩, fun s hs => ?_, fun q => ?_⟩
  · rcases List.mem_append.1 hs with hs | hs
    · exact h.asc.pos s hs
    · rw [List.mem_singleton.1 hs]; exact hlt
  · rw [List.mem_singleton.1 hy]; exact hx x hx'
  · rcases List.mem_append.1 hs with hs | hs
    · have := h.lo s hs; exact ⟨this.1, by omega⟩
    · rw [List.mem_singleton.1 hs]; exact ⟨h0, Int.le_refl _⟩
  · rw [cov_app, h.cov, cov_one]
    constructor
    · rintro (⟨h1, h2, h3⟩ | ⟨h1, h2⟩)
      · exact ⟨h1, by omega, h3⟩
      · exact ⟨by simp only at h1; omega, h2, hf q h1 h2⟩
    · rintro ⟨h1, h2, h3⟩
      by_cases e : q < a
      · exact .inl ⟨h1, e, h3⟩
      · exact .inr ⟨by simp only; omega, h2⟩
theorem OpI.join {s : Spn} (h : OpI f a (o ++ [s])) (hlt : a < b) (hf : ∀ q, a ≤ q → q < b → f q = true) (he : s.2 = a) : OpI f b (o ++ [(s.1, b)]) := by
  have hs := h.lo s (by simp)
  have hp := h.asc.pos s (by simp)
  have hg := List.pairwise_append.1 h.asc.gap
  refine ⟨⟨fun x hx => ?_, List.pairwise_append.2 ⟨hg.1, by simp, fun x hx' y hy => ?_⟩⟩, fun x hx => ?_, fun q => ?_⟩
  · rcases List.mem_append.1 hx with hx | hx
    · exact h.asc.pos x (List.mem_append_left _ hx)
    · rw [List.mem_singleton.1 hx]; simp only; omega
  · rw [List.mem_singleton.1 hy]; exact hg.2.2 x hx' s (by simp)
  · rcases List.mem_append.1 hx with hx | hx
    · have := h.lo x (List.mem_append_left _ hx); exact ⟨this.1, by omega⟩
    · rw [List.mem_singleton.1 hx]; exact ⟨hs.1, Int.le_refl _⟩
  · have hc := h.cov q
    rw [cov_app, cov_one] at hc
    rw [cov_app, cov_one]
    constructor
    · rintro (h1 | ⟨h1, h2⟩)
      · obtain ⟨h2, h3, h4⟩ := hc.1 (.inl h1)
        exact ⟨h2, by omega, h4⟩
      · simp only at h1 h2
        by_cases e : q < a
        · obtain ⟨h3, h4, h5⟩ := hc.1 (.inr ⟨h1, by omega⟩)
          exact ⟨h3, h2, h5⟩
        · exact ⟨by omega, h2, hf q (by omega) h2⟩
    · rintro ⟨h1, h2, h3⟩
      by_cases e : q < a
      · rcases hc.2 ⟨h1, e, h3⟩ with h4 | ⟨h4, h5⟩
        · exact .inl h4
        · exact .inr ⟨h4, by simp only; omega⟩
      · exact .inr ⟨by simp only; omega, h2⟩
end
/-- a table of the kind is free -/
def opF (t : List Tb) (l : List Bk) (k : ByteArray) (q : Int) : Bool := decide ((cntD l k q : Int) < (cntK t k : Int))
open Classical in
/-- the openings of a kind -/
def opV (t : List Tb) (l : List Bk) (k : ByteArray) : List Spn := if h : ∃ o, OpI (opF t l k) 99999 o then h.choose else []
theorem OpI.eq {t : List Tb} {l : List Bk} {k : ByteArray} {o : List Spn} (h : OpI (opF t l k) 99999 o) : opV t l k = o := by
  have hx : ∃ o, OpI (opF t l k) 99999 o := ⟨o, h⟩
  unfold opV
  rw [dif_pos hx]
  exact hx.choose_spec.uniq h
/-! ### the reference's next quarter -/
/-! ### the program's quarters -/
def endF (l : List Bk) (k : ByteArray) : List Int := (l.filter fun x => decide (x.kind = k)).flatMap fun x => [x.frm, x.to]
def endL (l : List Bk) (k : ByteArray) : List Int := Lib.compact (srtI ([0, 99999] ++ endF l k))
end Go.Proofs.YtfjihdlpohljbaaGreat
