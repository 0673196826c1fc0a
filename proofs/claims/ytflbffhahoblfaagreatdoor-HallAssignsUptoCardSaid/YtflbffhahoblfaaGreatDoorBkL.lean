/- Plain law: the first kind with too many bookings. -/
import Derived.Test.YtflbffhahoblfaaGreatDoorDeL
noncomputable section
namespace Go.Proofs.YtflbffhahoblfaaGreatDoor
open Go Go.Den Go.Sort
theorem strB_bytes (x : ByteArray) : strB x.data.toList = x := rfl
def badB (t : List Tb) (l : List Bk) (x : Bk) : Prop := (cntK t x.kind : Int) < cntD l x.kind x.frm
def lexL (k : ByteArray) (q : Int) (x : Bk) : Prop := k.data.toList < x.kind.data.toList ∨ (k = x.kind ∧ q ≤ x.frm)
theorem bytes_lt {a b : List UInt8} : Op.bytesLess a b = true ↔ a < b := by rw [bytesLess_eq, decide_eq_true_iff]
structure RoI (t : List Tb) (l : List Bk) (i : Nat) (a : Ovb) : Prop where
  none : a.2.2 = false → a = (strB [], 0, false) ∧ ∀ x ∈ l.take i, ¬ badB t l x
  some : a.2.2 = true → (∃ x ∈ l.take i, badB t l x ∧ x.kind = a.1 ∧ x.frm = a.2.1) ∧ ∀ x ∈ l.take i, badB t l x → lexL a.1 a.2.1 x
theorem roA_inv (t : List Tb) (l : List Bk) : ∀ i, i ≤ l.length → RoI t l i (roA t l i)
  | 0, _ => ⟨fun _ => ⟨rfl, by simp⟩, fun h => by cases h⟩
  | i + 1, h => by
    have ih := roA_inv t l i (by omega)
    rw [roA_succ (by omega)]
    obtain ⟨a, ha⟩ : ∃ a, a = roA t l i := ⟨_, rfl⟩
    rw [← ha] at ih ⊢
    have mem : ∀ x, x ∈ l.take (i + 1) ↔ x ∈ l.take i ∨ x = l[i] := fun x => by rw [take_snoc (by omega), List.mem_append, List.mem_singleton]
    unfold roS
    by_cases hb : (cntD l l[i].kind l[i].frm : Int) ≤ cntK t l[i].kind
    · rw [if_pos hb]
      have nb : ¬ badB t l l[i] := by unfold badB; omega
      refine ⟨fun e => ⟨(ih.none e).1, fun x hx => ?_⟩, fun e => ⟨?_, fun x hx hbx => ?_⟩⟩
      · rcases (mem x).1 hx with hx | rfl
        · exact (ih.none e).2 x hx
        · exact nb
      · obtain ⟨x, hx, h3⟩ := (ih.some e).1
        exact ⟨x, (mem x).2 (.inl hx), h3⟩
      · rcases (mem x).1 hx with hx | rfl
        · exact (ih.some e).2 x hx hbx
        · exact absurd hbx nb
    rw [if_neg hb]
    have yb : badB t l l[i] := by unfold badB; omega
    by_cases hr : roB a l[i] = true
    · rw [if_pos hr]
      refine ⟨fun e => (by cases e), fun _ => ⟨⟨l[i], (mem _).2 (.inr rfl), yb, rfl, rfl⟩, fun x hx hbx => ?_⟩⟩
      rcases (mem x).1 hx with hx | rfl
      · unfold roB at hr
        simp only [Bool.or_eq_true, Bool.and_eq_true, decide_eq_true_eq, Bool.not_eq_true'] at hr
        rcases hr with (hr | hr) | ⟨hr1, hr2⟩
        · exact absurd hbx ((ih.none hr).2 x hx)
        · have hr := bytes_lt.1 hr
          by_cases e : a.2.2 = true
          · rcases (ih.some e).2 x hx hbx with h1 | ⟨h1, h2⟩
            · exact .inl (List.lt_trans hr h1)
            · exact .inl (by rw [← h1]; exact hr)
          · exact absurd hbx ((ih.none (by simpa using e)).2 x hx)
        · by_cases e : a.2.2 = true
          · rcases (ih.some e).2 x hx hbx with h1 | ⟨h1, h2⟩
            · exact .inl (by simp only; rw [hr1]; exact h1)
            · exact .inr ⟨by simp only; rw [hr1]; exact h1, by simp only; omega⟩
          · exact absurd hbx ((ih.none (by simpa using e)).2 x hx)
      · exact .inr ⟨rfl, Int.le_refl _⟩
    · rw [if_neg hr]
      unfold roB at hr
      simp only [Bool.or_eq_true, Bool.and_eq_true, decide_eq_true_eq, Bool.not_eq_true', not_or, not_and] at hr
      obtain ⟨⟨h1, h2⟩, h3⟩ := hr
      have e1 : a.2.2 = true := by simpa using h1
      refine ⟨fun e => (by rw [e1] at e; cases e), fun e => ⟨?_, fun x hx hbx => ?_⟩⟩
      · obtain ⟨x, hx, h3⟩ := (ih.some e).1
        exact ⟨x, (mem x).2 (.inl hx), h3⟩
      · rcases (mem x).1 hx with hx | rfl
        · exact (ih.some e).2 x hx hbx
        · have h2 : ¬ l[i].kind.data.toList < a.1.data.toList := fun hh => h2 (bytes_lt.2 hh)
          by_cases e2 : l[i].kind = a.1
          · exact .inr ⟨e2.symm, by have := h3 e2; omega⟩
          · refine .inl ?_
            rcases List.le_iff_lt_or_eq.1 (List.not_lt.1 h2) with h4 | h4
            · exact h4
            · exact absurd (by rw [← strB_bytes l[i].kind, ← strB_bytes a.1, h4]) e2
theorem ovK_none {t : List Tb} {l : List Bk} {k : ByteArray} (h : ovK t l k = none) {x : Bk} (hx : x ∈ l) (e : x.kind = k) : ¬ badB t l x := by
  unfold ovK at h
  rw [Option.map_eq_none_iff, List.find?_eq_none] at h
  have := h (x.frm, (cntD l k x.frm : Int)) (by
    unfold begP
    exact List.mem_map.2 ⟨x.frm, mem_begL.2 (mem_froms.2 ⟨x, hx, e, rfl⟩), rfl⟩)
  unfold badB
  rw [e]
  simpa using this
theorem ovK_some {t : List Tb} {l : List Bk} {k : ByteArray} {q : Int} (h : ovK t l k = some q) : (∃ x ∈ l, badB t l x ∧ x.kind = k ∧ x.frm = q) ∧ ∀ x ∈ l, badB t l x → x.kind = k → q ≤ x.frm := by
  unfold ovK at h
  rw [Option.map_eq_some_iff] at h
  obtain ⟨p, hp, rfl⟩ := h
  rw [List.find?_eq_some_iff_append] at hp
  obtain ⟨h1, us, bs, e, h2⟩ := hp
  have h1 : p.2 > (cntK t k : Int) := by simpa using h1
  have hm : p ∈ begP l k := by rw [e]; simp
  unfold begP at hm
  obtain ⟨q, hq, rfl⟩ := List.mem_map.1 hm
  simp only at h1 ⊢
  constructor
  · obtain ⟨x, hx, e1, e2⟩ := mem_froms.1 (mem_begL.1 hq)
    exact ⟨x, hx, by unfold badB; rw [e1, e2]; exact h1, e1, e2⟩
  · intro x hx hb e1
    have hmx : (x.frm, (cntD l k x.frm : Int)) ∈ begP l k := by
      unfold begP
      exact List.mem_map.2 ⟨x.frm, mem_begL.2 (mem_froms.2 ⟨x, hx, e1, rfl⟩), rfl⟩
    have hs : (begP l k).Pairwise fun a b => a.1 < b.1 := by
      unfold begP
      rw [List.pairwise_map]
      exact begL_srt l k
    rw [e] at hmx hs
    rcases List.mem_append.1 hmx with hmx | hmx
    · have := h2 _ hmx
      unfold badB at hb
      rw [e1] at hb
      simp only [Bool.not_eq_true', decide_eq_false_iff_not] at this
      omega
    · rcases List.mem_cons.1 hmx with hmx | hmx
      · have := congrArg Prod.fst hmx
        simp only at this
        omega
      · have h3 := List.pairwise_append.1 hs
        have := (List.pairwise_cons.1 h3.2.1).1 _ hmx
        simp only at this
        omega
theorem ovL_inv (t : List Tb) (l : List Bk) : ∀ {D : List (List UInt8)}, D.Pairwise (· < ·) → (∃ k ∈ D, ∃ q, ovK t l (strB k) = some q ∧ (∀ k' ∈ D, ovK t l (strB k') ≠ none → k ≤ k') ∧ ovL t l D = (strB k, q)) ∨ ((∀ k ∈ D, ovK t l (strB k) = none) ∧ ovL t l D = (strB [], 0))
  | [], _ => .inr ⟨by simp, rfl⟩
  | k :: D, h => by
    rw [List.pairwise_cons] at h
    cases e : ovK t l (strB k) with
    | some q =>
      refine .inl ⟨k, by simp, q, e, fun k' hk' _ => ?_, by simp only [ovL, e]⟩
      rcases List.mem_cons.1 hk' with rfl | hk'
      · exact List.le_refl _
      · exact List.le_of_lt (h.1 _ hk')
    | none =>
      have e2 : ovL t l (k :: D) = ovL t l D := by simp only [ovL, e]
      rw [e2]
      rcases ovL_inv t l h.2 with ⟨k1, h1, q, h2, h3, h4⟩ | ⟨h1, h2⟩
      · refine .inl ⟨k1, List.mem_cons_of_mem _ h1, q, h2, fun k' hk' hn => ?_, h4⟩
        rcases List.mem_cons.1 hk' with rfl | hk'
        · exact absurd e hn
        · exact h3 k' hk' hn
      · refine .inr ⟨fun k' hk' => ?_, h2⟩
        rcases List.mem_cons.1 hk' with rfl | hk'
        · exact e
        · exact h1 k' hk'
theorem kdD_srt (t : List Tb) : (kdD t).Pairwise (· < ·) := by
  have h0 : (srtS (kdL t)).Pairwise fun a b => a ≤ b := by
    have := List.pairwise_mergeSort (le := fun x y : List UInt8 => decide (x ≤ y)) (fun a b c h1 h2 => by
      simp only [decide_eq_true_eq] at h1 h2 ⊢; exact List.le_trans h1 h2) (fun a b => by
      simp only [Bool.or_eq_true, decide_eq_true_eq]; exact List.le_total a b) (kdL t)
    exact this.imp fun h => by simpa using h
  have := compact_srt (R := fun a b : List UInt8 => a ≤ b) (fun a b h1 h2 => List.le_antisymm h1 h2) (fun a => List.le_refl a) h0
  exact this.imp fun {a b} h => by
    rcases List.le_iff_lt_or_eq.1 h.1 with h1 | h1
    · exact h1
    · exact absurd h1 h.2
theorem mem_kdD {t : List Tb} {x : Tb} (h : x ∈ t) : x.kind.data.toList ∈ kdD t := by
  unfold kdD
  rw [compact_mem, (srtS_perm _).mem_iff]
  exact List.mem_map.2 ⟨x, h, rfl⟩
theorem ov_eq {t : List Tb} {l : List Bk} (hu : unkB t l = false) (hn : ∀ x ∈ l, x.kind ≠ strB []) : ovV t l = ((roA t l l.length).1, (roA t l l.length).2.1) ∧ fitB t l = !(roA t l l.length).2.2 := by
  have hr := roA_inv t l l.length (Nat.le_refl _)
  obtain ⟨a, ha⟩ : ∃ a, a = roA t l l.length := ⟨_, rfl⟩
  rw [← ha] at hr ⊢
  have hkd : ∀ x ∈ l, x.kind.data.toList ∈ kdD t := fun x hx => by
    unfold unkB at hu
    rw [List.any_eq_false] at hu
    have h1 := hu x hx
    have h2 : 0 < cntK t x.kind := by
      simp only [beq_iff_eq] at h1
      omega
    unfold cntK at h2
    obtain ⟨y, hy, e⟩ := List.countP_pos_iff.1 h2
    rw [← of_decide_eq_true e]
    exact mem_kdD hy
  have hf : fitB t l = decide ((ovV t l).1 = strB []) := rfl
  rcases ovL_inv t l (kdD_srt t) with ⟨k, hk, q, h1, h2, h3⟩ | ⟨h1, h2⟩
  · have h3 : ovV t l = (strB k, q) := h3
    obtain ⟨⟨y, y1, y2, y3, y4⟩, h5⟩ := ovK_some h1
    have e : a.2.2 = true := by
      cases e : a.2.2
      · exact absurd y2 ((hr.none e).2 y (by rw [List.take_length]; exact y1))
      · rfl
    obtain ⟨⟨x, x1, x2, x3, x4⟩, h6⟩ := hr.some e
    rw [List.take_length] at x1 h6
    have hx : ovK t l (strB a.1.data.toList) ≠ none := fun h => ovK_none h x1 x3 x2
    have hka : k ≤ a.1.data.toList := h2 _ (by rw [← x3]; exact hkd x x1) hx
    have hky : y.kind.data.toList = k := by rw [y3]; rfl
    have key : a.1 = strB k ∧ a.2.1 = q := by
      rcases h6 y y1 y2 with h7 | ⟨h7, h8⟩
      · rw [hky] at h7
        exact absurd h7 (List.not_lt.2 hka)
      · have e1 : a.1 = strB k := h7.trans y3
        refine ⟨e1, ?_⟩
        have := h5 x x1 x2 (x3.trans e1)
        omega
    rw [hf, h3, e, key.1, key.2]
    refine ⟨rfl, decide_eq_false fun h => hn y y1 ?_⟩
    rw [y3]; exact h
  · have h2 : ovV t l = (strB [], 0) := h2
    have e : a.2.2 = false := by
      cases e : a.2.2
      · rfl
      · obtain ⟨⟨x, x1, x2, x3, x4⟩, _⟩ := hr.some e
        rw [List.take_length] at x1
        exact absurd x2 (ovK_none (h1 _ (hkd x x1)) x1 rfl)
    rw [hf, h2, e, (hr.none e).1]
    exact ⟨rfl, rfl⟩
end Go.Proofs.YtflbffhahoblfaaGreatDoor
/- Plain law: bookings without an error. -/
noncomputable section
namespace Go.Proofs.YtflbffhahoblfaaGreatDoor
open Go Go.Den
structure BkOk (x : Bk) : Prop where
  nm : x.kind ≠ strB []
  f0 : 0 ≤ x.frm
  f1 : x.frm ≤ 99999
  t0 : 0 ≤ x.to
  t1 : x.to ≤ 99999
  lt : x.frm < x.to
theorem nameB_nil : nameB (strB []) = false := by decide +kernel
theorem bookE_ok {x : Bk} (h : bookE x = 0) : BkOk x := by
  unfold bookE at h
  have ha := firstL_allZ h
  have h1 : nameE [x.name, x.kind] = 0 := ha _ (by simp)
  have h2 := whenL_z (ha (whenL (outL x.frm 0 99999) 3) (by simp)) (by decide)
  have h3 := whenL_z (ha (whenL (outL x.to 0 99999) 3) (by simp)) (by decide)
  have h4 := whenL_z (ha (whenL (decide (x.to ≤ x.frm)) 11) (by simp)) (by decide)
  have h1 := whenL_z h1 (by decide)
  simp only [outL, decide_eq_false_iff_not] at h2 h3 h4
  refine ⟨fun e => ?_, by omega, by omega, by omega, by omega, by omega⟩
  rw [e, List.any_cons, List.any_cons, nameB_nil] at h1
  simp at h1
theorem books_ok {l : List Bk} (h : booksE l = 0) : l.length ≤ 256 ∧ ∀ x ∈ l, BkOk x := by
  unfold booksE at h
  by_cases hl : l.length > 256
  · rw [if_pos hl] at h; exact absurd h (by decide)
  · rw [if_neg hl] at h
    refine ⟨by omega, fun x hx => ?_⟩
    obtain ⟨i, hi, rfl⟩ := List.getElem_of_mem hx
    exact bookE_ok (restG_zero (err := fun _ x => bookE x) h hi)
structure BothOk (t : List Tb) (l : List Bk) : Prop where
  unk : unkB t l = false
  ok : ∀ x ∈ l, BkOk x
  len : l.length ≤ 256
  tlen : t.length ≤ 64
theorem both_ok {t : List Tb} {l : List Bk} (h : bothE t l = 0) : BothOk t l := by
  unfold bothE at h
  have ha := firstL_allZ h
  have h1 : tabsE t = 0 := ha _ (by simp)
  have h2 : booksE l = 0 := ha _ (by simp)
  have h3 := whenL_z (ha (whenL (unkB t l) 10) (by simp)) (by decide)
  obtain ⟨h4, h5⟩ := books_ok h2
  refine ⟨h3, h5, h4, ?_⟩
  unfold tabsE at h1
  by_cases hl : t.length > 64
  · rw [if_pos hl] at h1; exact absurd h1 (by decide)
  · omega
section
variable {t : List Tb} {l : List Bk}
theorem BothOk.pos (h : BothOk t l) {x : Bk} (hx : x ∈ l) : 0 < cntK t x.kind := by
  have := h.unk
  unfold unkB at this
  rw [List.any_eq_false] at this
  have := this x hx
  simp only [beq_iff_eq] at this
  omega
theorem BothOk.grow (h : BothOk t l) {b : Bk} (hb : BkOk b) (hk : 0 < cntK t b.kind) (hl : l.length < 256) : BothOk t (l ++ [b]) := by
  refine ⟨?_, fun x hx => ?_, by simp; omega, h.tlen⟩
  · have := h.unk
    unfold unkB at this ⊢
    rw [List.any_append, this, Bool.false_or, List.any_cons, List.any_nil, Bool.or_false]
    simp only [beq_eq_false_iff_ne, ne_eq]
    omega
  · rcases List.mem_append.1 hx with hx | hx
    · exact h.ok x hx
    · rw [List.mem_singleton.1 hx]; exact hb
theorem BothOk.ov (h : BothOk t l) : ovV t l = ((roA t l l.length).1, (roA t l l.length).2.1) ∧ fitB t l = !(roA t l l.length).2.2 := ov_eq h.unk fun x hx => (h.ok x hx).nm
def FitP (t : List Tb) (l : List Bk) : Prop := ∀ k q, cntD l k q ≤ cntK t k
theorem fit_beg : (∀ x ∈ l, ¬ badB t l x) → FitP t l := fun h k q => by
  by_cases h0 : cntD l k q = 0
  · omega
  obtain ⟨f, hf, _, h2⟩ := depth_key (l := l) (k := k) (q := q) (by omega)
  obtain ⟨x, hx, e1, e2⟩ := mem_froms.1 hf
  have := h x hx
  unfold badB at this
  rw [e1, e2] at this
  omega
theorem BothOk.fit (h : BothOk t l) : fitB t l = true ↔ FitP t l := by
  have hr := roA_inv t l l.length (Nat.le_refl _)
  rw [h.ov.2]
  constructor
  · intro e
    have e : (roA t l l.length).2.2 = false := by simpa using e
    have := (hr.none e).2
    rw [List.take_length] at this
    exact fit_beg this
  · intro hf
    cases e : (roA t l l.length).2.2
    · rfl
    · obtain ⟨⟨x, x1, x2, _⟩, _⟩ := hr.some e
      have := hf x.kind x.frm
      unfold badB at x2
      omega
end
end Go.Proofs.YtflbffhahoblfaaGreatDoor
