/- Plain law: the queue of a hall. -/
import Derived.Test.YtfjihdlpohljbaaGreatHpB
noncomputable section
namespace Go.Proofs.YtfjihdlpohljbaaGreat
open Go Go.Den
theorem cntD_app {l r : List Bk} {k : ByteArray} {q : Int} : cntD (l ++ r) k q = cntD l k q + cntD r k q := List.countP_append
theorem cntD_one {b : Bk} {k : ByteArray} {q : Int} : cntD [b] k q = if isAt k q b = true then 1 else 0 := by
  unfold cntD
  by_cases h : isAt k q b = true <;> simp [h]
def RoomP (t : List Tb) (l : List Bk) (k : ByteArray) (s len : Int) : Prop := ∀ q, s ≤ q → q < s + len → cntD l k q < cntK t k
theorem fit_room {t : List Tb} {l : List Bk} {b : Bk} : FitP t (l ++ [b]) ↔ FitP t l ∧ RoomP t l b.kind b.frm (b.to - b.frm) := by
  constructor
  · intro h
    refine ⟨fun k q => ?_, fun q h1 h2 => ?_⟩
    · have := h k q
      rw [cntD_app] at this
      omega
    · have := h b.kind q
      rw [cntD_app, cntD_one, if_pos (isAt_iff.2 ⟨rfl, h1, by omega⟩)] at this
      omega
  · rintro ⟨h1, h2⟩ k q
    rw [cntD_app, cntD_one]
    have := h1 k q
    by_cases e : isAt k q b = true
    · rw [if_pos e]
      obtain ⟨e1, e2, e3⟩ := isAt_iff.1 e
      subst e1
      have := h2 q e2 (by omega)
      omega
    · rw [if_neg e]
      omega
theorem depth_last {l : List Bk} {k : ByteArray} {q : Int} (h : 0 < cntD l k q) : ∃ f ∈ froms l k, f ≤ q ∧ ∀ s, f ≤ s → s ≤ q → cntD l k q ≤ cntD l k s := by
  unfold cntD at h
  obtain ⟨x, hx, hp⟩ := List.countP_pos_iff.1 h
  obtain ⟨f, hf, hm⟩ := max_at (l := (l.filter (isAt k q)).map (·.frm)) (by
    intro e
    have : x.frm ∈ (l.filter (isAt k q)).map (·.frm) := List.mem_map.2 ⟨x, List.mem_filter.2 ⟨hx, hp⟩, rfl⟩
    rw [e] at this; cases this)
  obtain ⟨y, hy, rfl⟩ := List.mem_map.1 hf
  obtain ⟨hy, hyp⟩ := List.mem_filter.1 hy
  obtain ⟨y1, y2, y3⟩ := isAt_iff.1 hyp
  refine ⟨y.frm, mem_froms.2 ⟨y, hy, y1, rfl⟩, y2, fun s h1 h2 => ?_⟩
  unfold cntD
  refine List.countP_mono_left fun z hz hzp => ?_
  obtain ⟨z1, z2, z3⟩ := isAt_iff.1 hzp
  have := hm z.frm (List.mem_map.2 ⟨z, List.mem_filter.2 ⟨hz, hzp⟩, rfl⟩)
  exact isAt_iff.2 ⟨z1, by omega, by omega⟩
def roomB (t : List Tb) (l : List Bk) (b : Bk) : Bool := !decide ((cntD l b.kind b.frm : Int) ≥ cntK t b.kind) && !(l.any fun o => decide (o.kind = b.kind) && (decide (b.frm ≤ o.frm) && (decide (o.frm < b.to) && decide ((cntD l b.kind o.frm : Int) ≥ cntK t b.kind))))
theorem roomB_iff {t : List Tb} {l : List Bk} {b : Bk} (hb : b.frm < b.to) : roomB t l b = true ↔ RoomP t l b.kind b.frm (b.to - b.frm) := by
  unfold roomB
  rw [Bool.and_eq_true, Bool.not_eq_true', Bool.not_eq_true', decide_eq_false_iff_not, List.any_eq_false]
  constructor
  · rintro ⟨h1, h2⟩ q h3 h4
    by_cases h0 : cntD l b.kind q = 0
    · omega
    obtain ⟨f, hf, f1, f2⟩ := depth_last (l := l) (k := b.kind) (q := q) (by omega)
    obtain ⟨x, hx, e1, e2⟩ := mem_froms.1 hf
    by_cases h5 : b.frm ≤ f
    · have := h2 x hx
      simp only [Bool.and_eq_true, decide_eq_true_eq, not_and] at this
      have := this e1 (by omega) (by omega)
      rw [e2] at this
      have := f2 f (Int.le_refl _) f1
      omega
    · have := f2 b.frm (by omega) h3
      omega
  · intro h
    refine ⟨by have := h b.frm (Int.le_refl _) (by omega); omega, fun x hx => ?_⟩
    simp only [Bool.and_eq_true, decide_eq_true_eq, not_and]
    intro e1 e2 e3
    have := h x.frm e2 (by omega)
    omega
structure Least (t : List Tb) (l : List Bk) (k : ByteArray) (fl len s : Int) : Prop where
  ge : fl ≤ s
  room : RoomP t l k s len
  low : ∀ q, fl ≤ q → q < s → ¬ RoomP t l k q len
section
variable {t : List Tb} {l : List Bk} {k : ByteArray} {fl len s : Int}
theorem Least.uniq {s' : Int} (h : Least t l k fl len s) (h' : Least t l k fl len s') : s = s' := by
  rcases Int.lt_trichotomy s s' with e | e | e
  · exact absurd h.room (h'.low s h.ge e)
  · exact e
  · exact absurd h'.room (h.low s' h'.ge e)
theorem least_of (h : RoomP t l k s len) (hs : fl ≤ s) : ∃ s', Least t l k fl len s' ∧ s' ≤ s := by
  have key : ∀ n : Nat, ∀ s, fl ≤ s → s - fl < n → RoomP t l k s len → ∃ s', Least t l k fl len s' ∧ s' ≤ s := by
    intro n
    induction n with
    | zero => intro s h1 h2; omega
    | succ n ih =>
      intro s h1 h2 h3
      by_cases hx : ∃ q, fl ≤ q ∧ q < s ∧ RoomP t l k q len
      · obtain ⟨q, q1, q2, q3⟩ := hx
        obtain ⟨s', h4, h5⟩ := ih q q1 (by omega) q3
        exact ⟨s', h4, by omega⟩
      · exact ⟨s, ⟨h1, h3, fun q q1 q2 q3 => hx ⟨q, q1, q2, q3⟩⟩, Int.le_refl _⟩
  exact key ((s - fl).toNat + 1) s hs (by omega) h
theorem room_end (hl : 0 < len) (h1 : RoomP t l k s len) (h2 : ¬ RoomP t l k (s - 1) len) : ∃ x ∈ l, x.kind = k ∧ x.to = s := by
  apply Classical.byContradiction
  intro hno
  refine h2 fun q q1 q2 => ?_
  by_cases e : s ≤ q
  · exact h1 q e (by omega)
  · obtain rfl : q = s - 1 := by omega
    have := h1 s (Int.le_refl _) (by omega)
    refine Nat.lt_of_le_of_lt ?_ this
    unfold cntD
    refine List.countP_mono_left fun z hz hzp => ?_
    obtain ⟨z1, z2, z3⟩ := isAt_iff.1 hzp
    refine isAt_iff.2 ⟨z1, by omega, ?_⟩
    by_cases e2 : z.to = s
    · exact absurd ⟨z, hz, z1, e2⟩ hno
    · omega
theorem Least.end_ (h : Least t l k fl len s) (hl : 0 < len) : s = fl ∨ (fl < s ∧ ∃ x ∈ l, x.kind = k ∧ x.to = s) := by
  by_cases e : s = fl
  · exact .inl e
  · have := h.ge
    exact .inr ⟨by omega, room_end hl h.room (h.low (s - 1) (by omega) (by omega))⟩
theorem room_late (hk : 0 < cntK t k) (h : ∀ x ∈ l, x.kind = k → x.to ≤ s) : RoomP t l k s len := fun q q1 q2 => by
  have : cntD l k q = 0 := by
    unfold cntD
    rw [List.countP_eq_zero]
    intro x hx hp
    obtain ⟨p1, p2, p3⟩ := isAt_iff.1 hp
    have := h x hx p1
    omega
  omega
def tryF (l : List Bk) (k : ByteArray) (fl : Int) : List Int := (l.filter fun x => decide (x.kind = k) && decide (x.to > fl)).map (·.to)
theorem tryF_snoc {i : Nat} (h : i < l.length) : tryF (l.take (i + 1)) k fl = tryF (l.take i) k fl ++ if l[i].kind = k ∧ l[i].to > fl then [l[i].to] else [] := by
  rw [take_snoc h]
  unfold tryF
  rw [List.filter_append, List.map_append]
  congr 1
  by_cases e : l[i].kind = k <;> by_cases e2 : l[i].to > fl <;> simp [e, e2]
theorem tryF_len : (tryF l k fl).length ≤ l.length := by
  unfold tryF
  rw [List.length_map]
  exact List.length_filter_le ..
def tryL (l : List Bk) (k : ByteArray) (fl : Int) : List Int := srtI (fl :: tryF l k fl)
theorem mem_tryL {q : Int} : q ∈ tryL l k fl ↔ q = fl ∨ (fl < q ∧ ∃ x ∈ l, x.kind = k ∧ x.to = q) := by
  unfold tryL
  rw [(srtI_perm _).mem_iff, List.mem_cons]
  unfold tryF
  simp only [List.mem_map, List.mem_filter, Bool.and_eq_true, decide_eq_true_eq]
  constructor
  · rintro (h | ⟨x, ⟨h1, h2, h3⟩, rfl⟩)
    · exact .inl h
    · exact .inr ⟨h3, x, h1, h2, rfl⟩
  · rintro (h | ⟨h, x, h1, h2, rfl⟩)
    · exact .inl h
    · exact .inr ⟨x, ⟨h1, h2, h⟩, rfl⟩
theorem try_ge {q : Int} (h : q ∈ tryL l k fl) : fl ≤ q := by
  rcases mem_tryL.1 h with h | h <;> omega
theorem try_least (hl : 0 < len) {i : Nat} (hi : i < (tryL l k fl).length) (h1 : RoomP t l k (tryL l k fl)[i] len) (h2 : ∀ j (h : j < (tryL l k fl).length), j < i → ¬ RoomP t l k (tryL l k fl)[j] len) : Least t l k fl len (tryL l k fl)[i] := by
  obtain ⟨s, hs, hle⟩ := least_of h1 (try_ge (List.getElem_mem hi))
  have hm : s ∈ tryL l k fl := mem_tryL.2 (hs.end_ hl)
  obtain ⟨j, hj, rfl⟩ := List.getElem_of_mem hm
  have hp := List.pairwise_iff_getElem.1 (srtI_srt (fl :: tryF l k fl))
  rcases Nat.lt_or_ge j i with e | e
  · exact absurd hs.room (h2 j hj e)
  · have : (tryL l k fl)[i] ≤ (tryL l k fl)[j] := by
      rcases Nat.eq_or_lt_of_le e with e | e
      · subst e; exact Int.le_refl _
      · exact hp i j hi hj e
    have e : (tryL l k fl)[j] = (tryL l k fl)[i] := by omega
    rw [← e]; exact hs
theorem try_some (hk : 0 < cntK t k) : ∃ i, ∃ h : i < (tryL l k fl).length, RoomP t l k (tryL l k fl)[i] len := by
  obtain ⟨m, hm, hx⟩ := max_at (l := tryL l k fl) (List.ne_nil_of_mem (mem_tryL.2 (.inl rfl)))
  obtain ⟨i, hi, rfl⟩ := List.getElem_of_mem hm
  refine ⟨i, hi, room_late hk fun x hx1 hx2 => ?_⟩
  have h0 := hx fl (mem_tryL.2 (.inl rfl))
  by_cases e : fl < x.to
  · exact hx _ (mem_tryL.2 (.inr ⟨e, x, hx1, hx2, rfl⟩))
  · omega
/-! ### the reference's next end -/
end
/-! ### the queue -/
def bkR (x : Rq) (s : Int) : Bk := ⟨x.name, x.kind, s, s + x.len⟩
def allB (l : List Bk) (r : List Rq) (out : List Int) (j : Nat) : List Bk := l ++ (List.zipWith bkR (r.take j) (out.take j))
def flrS (k : ByteArray) (m : Int) (p : Rq × Int) : Int := if p.1.kind = k then max m p.2 else m
def flrB (r : List Rq) (out : List Int) (k : ByteArray) (arr : Int) (j : Nat) : Int := ((r.take j).zip (out.take j)).foldl (flrS k) arr
structure SvI (t : List Tb) (l : List Bk) (r : List Rq) (out : List Int) : Prop where
  len : out.length ≤ r.length
  at_ : ∀ j (h : j < out.length) (h' : j < r.length), Least t (allB l r out j) r[j].kind (flrB r out r[j].kind r[j].arr j) r[j].len out[j] ∧ out[j] + r[j].len ≤ 99999
section
variable {t : List Tb} {l : List Bk} {r : List Rq} {out : List Int}
theorem allB_congr {out' : List Int} {j : Nat} (h : out.take j = out'.take j) : allB l r out j = allB l r out' j := by
  unfold allB; rw [h]
theorem flrB_congr {out' : List Int} {k : ByteArray} {arr : Int} {j : Nat} (h : out.take j = out'.take j) : flrB r out k arr j = flrB r out' k arr j := by
  unfold flrB; rw [h]
theorem SvI.nil : SvI t l r [] := ⟨by simp, fun j h => absurd h (by simp)⟩
theorem SvI.snoc (h : SvI t l r out) {s : Int} (hj : out.length < r.length) (h1 : Least t (allB l r out out.length) r[out.length].kind (flrB r out r[out.length].kind r[out.length].arr out.length) r[out.length].len s) (h2 : s + r[out.length].len ≤ 99999) : SvI t l r (out ++ [s]) := by
  refine ⟨by simp; omega, fun j hj1 hj2 => ?_⟩
  have hjl : j < out.length + 1 := by simpa using hj1
  have e : (out ++ [s]).take j = out.take j := by rw [List.take_append_of_le_length (by omega)]
  rw [allB_congr e, flrB_congr e]
  rcases Nat.lt_or_ge j out.length with h3 | h3
  · rw [List.getElem_append_left h3]
    exact h.at_ j h3 hj2
  · obtain rfl : j = out.length := by omega
    rw [List.getElem_concat_length rfl]
    exact ⟨h1, h2⟩
theorem SvI.agree {out' : List Int} (h : SvI t l r out) (h' : SvI t l r out') : ∀ n, n ≤ out.length → n ≤ out'.length → out.take n = out'.take n
  | 0, _, _ => rfl
  | n + 1, h1, h2 => by
    have ih := h.agree h' n (by omega) (by omega)
    have hn : n < r.length := by have := h.len; omega
    have a1 := (h.at_ n (by omega) hn).1
    have a2 := (h'.at_ n (by omega) hn).1
    rw [allB_congr ih, flrB_congr ih] at a1
    have := a1.uniq a2
    rw [take_snoc (by omega), take_snoc (by omega), ih, this]
def SvLate (t : List Tb) (l : List Bk) (r : List Rq) : Prop := ∃ out, SvI t l r out ∧ ∃ h : out.length < r.length, ∃ s, Least t (allB l r out out.length) r[out.length].kind (flrB r out r[out.length].kind r[out.length].arr out.length) r[out.length].len s ∧ 99999 < s + r[out.length].len
theorem SvI.notLate (h : SvI t l r out) (hl : out.length = r.length) : ¬ SvLate t l r := by
  rintro ⟨out', h', hlt, s, hs, h2⟩
  have e := h'.agree h out'.length (Nat.le_refl _) (by omega)
  have a := h.at_ out'.length (by omega) hlt
  rw [allB_congr e, flrB_congr e] at hs
  rw [hs.uniq a.1] at h2
  omega
theorem SvI.full {out' : List Int} (h : SvI t l r out) (hl : out.length = r.length) (h' : SvI t l r out') (hl' : out'.length = r.length) : out = out' := by
  have := h.agree h' r.length (by omega) (by omega)
  rwa [List.take_of_length_le (by omega), List.take_of_length_le (by omega)] at this
end
open Classical in
def srvV (t : List Tb) (l : List Bk) (r : List Rq) : Option (List Int) := if h : ∃ out, SvI t l r out ∧ out.length = r.length then some h.choose else none
theorem srvV_some {t : List Tb} {l : List Bk} {r : List Rq} {out : List Int} (h : SvI t l r out) (hl : out.length = r.length) : srvV t l r = some out := by
  have hx : ∃ out, SvI t l r out ∧ out.length = r.length := ⟨out, h, hl⟩
  unfold srvV
  rw [dif_pos hx]
  exact congrArg some (hx.choose_spec.1.full hx.choose_spec.2 h hl)
theorem srvV_none {t : List Tb} {l : List Bk} {r : List Rq} (h : SvLate t l r) : srvV t l r = none := by
  unfold srvV
  rw [dif_neg]
  rintro ⟨out, h1, h2⟩
  exact h1.notLate h2 h
end Go.Proofs.YtfjihdlpohljbaaGreat
