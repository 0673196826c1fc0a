/- Plans: the plain law.  A search for days in lexicographic order; of more dates than there are matches the later ones are never needed. -/
noncomputable section
namespace Go.Den.Plan

/-- the search: f matches are left; C out d tells that the day d clashes with the days so far -/
def ext (D : Nat → List Int) (C : List Int → Int → Bool) : Nat → List Int → Option (List Int)
  | 0, out => some out
  | f + 1, out => (D out.length).findSome? fun d => if C out d = true then none else ext D C f (out ++ [d])

/-- clashes with a day of another match -/
def clash (M : Nat → Nat → Bool) (out : List Int) (d : Int) : Bool := (List.range out.length).any fun k => (out[k]?.getD 0 == d) && M out.length k

structure Valid (D : Nat → List Int) (M : Nat → Nat → Bool) (sol : List Int) : Prop where
  day : ∀ (i : Nat) d, sol[i]? = some d → d ∈ D i
  apart : ∀ (i k : Nat) d, k < i → sol[i]? = some d → sol[k]? = some d → M i k = false

section
variable {D D' : Nat → List Int} {M : Nat → Nat → Bool}

theorem clash_iff {out : List Int} {d : Int} : clash M out d = true ↔ ∃ k, out[k]? = some d ∧ M out.length k = true := by
  unfold clash
  rw [List.any_eq_true]
  constructor
  · rintro ⟨k, hk, h⟩
    have hk := List.mem_range.1 hk
    simp only [Bool.and_eq_true, beq_iff_eq] at h
    refine ⟨k, ?_, h.2⟩
    rw [List.getElem?_eq_getElem hk] at h ⊢
    simp only [Option.getD_some] at h
    rw [h.1]
  · rintro ⟨k, h1, h2⟩
    refine ⟨k, List.mem_range.2 (List.getElem?_eq_some_iff.1 h1).1, ?_⟩
    rw [h1]
    simp [h2]

theorem Valid.nil : Valid D M [] := ⟨fun i d h => by simp at h, fun i k d _ h => by simp at h⟩
theorem Valid.take {sol : List Int} (h : Valid D M sol) (n : Nat) : Valid D M (sol.take n) := by
  have key : ∀ (i : Nat) d, (sol.take n)[i]? = some d → sol[i]? = some d := fun i d hi => by
    rw [List.getElem?_take] at hi
    split at hi
    · exact hi
    · cases hi
  exact ⟨fun i d hi => h.day i d (key i d hi), fun i k d hk h1 h2 => h.apart i k d hk (key i d h1) (key k d h2)⟩
theorem Valid.snoc {out : List Int} {d : Int} : Valid D M (out ++ [d]) ↔ Valid D M out ∧ d ∈ D out.length ∧ clash M out d = false := by
  constructor
  · intro h
    have h1 : Valid D M out := by
      have := h.take out.length
      rwa [List.take_left] at this
    have hd : (out ++ [d])[out.length]? = some d := List.getElem?_concat_length
    refine ⟨h1, h.day _ _ hd, ?_⟩
    cases hc : clash M out d
    · rfl
    · exfalso
      obtain ⟨k, k1, k2⟩ := clash_iff.1 hc
      have hk := (List.getElem?_eq_some_iff.1 k1).1
      have := h.apart out.length k d hk hd (by rw [List.getElem?_append_left hk]; exact k1)
      rw [this] at k2; cases k2
  · rintro ⟨h1, h2, h3⟩
    have cases' : ∀ (i : Nat) x, (out ++ [d])[i]? = some x → out[i]? = some x ∨ (i = out.length ∧ x = d) := fun i x hi => by
      rcases Nat.lt_trichotomy i out.length with h | h | h
      · rw [List.getElem?_append_left h] at hi; exact .inl hi
      · subst h
        rw [List.getElem?_concat_length] at hi; cases hi; exact .inr ⟨rfl, rfl⟩
      · have := (List.getElem?_eq_some_iff.1 hi).1
        simp at this; omega
    refine ⟨fun i x hi => ?_, fun i k x hk hi hki => ?_⟩
    · rcases cases' i x hi with h | ⟨rfl, rfl⟩
      · exact h1.day i x h
      · exact h2
    · rcases cases' i x hi with h | ⟨rfl, rfl⟩
      · rcases cases' k x hki with h' | ⟨rfl, rfl⟩
        · exact h1.apart i k x hk h h'
        · have := (List.getElem?_eq_some_iff.1 h).1; omega
      · rcases cases' k x hki with h' | ⟨e, _⟩
        · cases hm : M out.length k
          · rfl
          · exfalso
            have := clash_iff.2 ⟨k, h', hm⟩
            rw [h3] at this; cases this
        · omega

/-- what is found is a solution -/
theorem ext_valid : ∀ {f : Nat} {out sol : List Int}, Valid D M out → ext D (clash M) f out = some sol → Valid D M sol ∧ sol.length = out.length + f ∧ sol.take out.length = out
  | 0, out, sol, hv, h => by
    simp only [ext, Option.some.injEq] at h
    subst h
    exact ⟨hv, by omega, by rw [List.take_length]⟩
  | f + 1, out, sol, hv, h => by
    simp only [ext] at h
    obtain ⟨d, hd, h⟩ := List.exists_of_findSome?_eq_some h
    split at h
    · cases h
    · rename_i hc
      obtain ⟨v, l, t⟩ := ext_valid (Valid.snoc.2 ⟨hv, hd, by simpa using hc⟩) h
      rw [List.length_append, List.length_singleton] at l t
      refine ⟨v, by omega, ?_⟩
      have : sol.take out.length = (sol.take (out.length + 1)).take out.length := by rw [List.take_take, Nat.min_eq_left (by omega)]
      rw [this, t, List.take_left]
/-- if there is a solution, one is found -/
theorem ext_some : ∀ {f : Nat} {out sol : List Int}, Valid D M sol → sol.length = out.length + f → sol.take out.length = out → ext D (clash M) f out ≠ none
  | 0, out, sol, _, _, _ => by simp [ext]
  | f + 1, out, sol, hv, hl, ht => by
    simp only [ext]
    rw [Ne, List.findSome?_eq_none_iff]
    intro hn
    have hlt : out.length < sol.length := by omega
    have e : sol.take (out.length + 1) = out ++ [sol[out.length]] := by
      rw [List.take_add_one, List.getElem?_eq_getElem hlt, ht]; rfl
    have hv2 := hv.take (out.length + 1)
    rw [e] at hv2
    obtain ⟨_, hd, hc⟩ := Valid.snoc.1 hv2
    have := hn _ hd
    rw [if_neg (by rw [hc]; simp)] at this
    refine ext_some (f := f) (out := out ++ [sol[out.length]]) hv (by rw [List.length_append, List.length_singleton]; omega) ?_ this
    rw [List.length_append, List.length_singleton]; exact e
/-- each day is the first one with which there is a solution -/
theorem ext_first : ∀ {f : Nat} {out sol : List Int}, ext D (clash M) f out = some sol → Valid D M out → ∀ (i : Nat) (d : Int) (pre post : List Int), out.length ≤ i → D i = pre ++ post → sol[i]? = some d → d ∉ pre →
    ∀ x ∈ pre, ∀ s, Valid D M s → s.length = sol.length → s.take i = sol.take i → s[i]? ≠ some x
  | 0, out, sol, h, _, i, d, pre, post, hi, _, hd, _ => by
    simp only [ext, Option.some.injEq] at h
    subst h
    have := (List.getElem?_eq_some_iff.1 hd).1; omega
  | f + 1, out, sol, h, hv, i, d, pre, post, hi, hD, hd, hnp => by
    intro x hx s hs hsl hst hsx
    have hfull := ext_valid hv h
    simp only [ext] at h
    by_cases e : i = out.length
    · subst e
      rw [hD, List.findSome?_append] at h
      have hsx' := (List.getElem?_eq_some_iff.1 hsx).1
      have e1 : s.take (out.length + 1) = out ++ [x] := by
        rw [List.take_add_one, hsx, hst, hfull.2.2]; rfl
      have hv2 := hs.take (out.length + 1)
      rw [e1] at hv2
      obtain ⟨_, _, hc⟩ := Valid.snoc.1 hv2
      have hne : pre.findSome? (fun d => if clash M out d = true then none else ext D (clash M) f (out ++ [d])) ≠ none := by
        rw [Ne, List.findSome?_eq_none_iff]
        intro hn
        have := hn x hx
        rw [if_neg (by rw [hc]; simp)] at this
        refine ext_some (f := f) (out := out ++ [x]) hs (by rw [List.length_append, List.length_singleton]; omega) ?_ this
        rw [List.length_append, List.length_singleton]; exact e1
      cases hp : pre.findSome? (fun d => if clash M out d = true then none else ext D (clash M) f (out ++ [d])) with
      | none => exact hne hp
      | some r =>
        rw [hp] at h
        simp only [Option.some_or, Option.some.injEq] at h
        subst h
        obtain ⟨y, hy, h⟩ := List.exists_of_findSome?_eq_some hp
        split at h
        · cases h
        · rename_i hc2
          have hyD : y ∈ D out.length := by rw [hD]; exact List.mem_append_left _ hy
          obtain ⟨_, _, t⟩ := ext_valid (Valid.snoc.2 ⟨hv, hyD, by simpa using hc2⟩) h
          rw [List.length_append, List.length_singleton] at t
          have : r[out.length]? = some y := by
            have e2 : (r.take (out.length + 1))[out.length]? = some y := by rw [t]; exact List.getElem?_concat_length
            rw [List.getElem?_take] at e2
            simpa using e2
          rw [this] at hd
          cases hd
          exact hnp hy
    · obtain ⟨y, hy, h⟩ := List.exists_of_findSome?_eq_some h
      split at h
      · cases h
      · rename_i hc
        exact ext_first h (Valid.snoc.2 ⟨hv, hy, by simpa using hc⟩) i d pre post (by rw [List.length_append, List.length_singleton]; omega) hD hd hnp x hx s hs hsl hst hsx

/-- one of more days than there are matches is free -/
theorem free_day {l : List Int} (hnd : l.Nodup) : ∀ {s : List Int}, s.length < l.length → ∃ x ∈ l, x ∉ s := by
  intro s hs
  by_cases h : ∃ x ∈ l, x ∉ s
  · exact h
  · exfalso
    have hsub : l ⊆ s := fun x hx => by
      by_cases hx2 : x ∈ s
      · exact hx2
      · exact absurd ⟨x, hx, hx2⟩ h
    have := hnd.length_le_of_subset hsub
    omega

theorem findSome_congr {α β : Type} {l : List α} {f g : α → Option β} (h : ∀ x ∈ l, f x = g x) : l.findSome? f = l.findSome? g := by
  induction l with
  | nil => rfl
  | cons a r ih =>
    simp only [List.findSome?_cons]
    rw [h a (List.mem_cons_self ..), ih fun x hx => h x (List.mem_cons_of_mem _ hx)]
theorem Valid.other {sol : List Int} {i : Nat} {x : Int} (h : Valid D M sol) (hx : x ∈ D i) (hn : ∀ k, k ≠ i → sol[k]? ≠ some x) : Valid D M (sol.set i x) := by
  have look : ∀ (j : Nat) d, (sol.set i x)[j]? = some d → (j = i ∧ d = x) ∨ (j ≠ i ∧ sol[j]? = some d) := fun j d hj => by
    by_cases e : j = i
    · subst e
      have hl := (List.getElem?_eq_some_iff.1 hj).1
      rw [List.length_set] at hl
      rw [List.getElem?_set_self hl] at hj
      cases hj; exact .inl ⟨rfl, rfl⟩
    · rw [List.getElem?_set_ne (fun e' => e e'.symm)] at hj
      exact .inr ⟨e, hj⟩
  refine ⟨fun j d hj => ?_, fun j k d hk h1 h2 => ?_⟩
  · rcases look j d hj with ⟨rfl, rfl⟩ | ⟨_, hj⟩
    · exact hx
    · exact h.day j d hj
  · rcases look j d h1 with ⟨rfl, rfl⟩ | ⟨n1, g1⟩
    · rcases look k d h2 with ⟨rfl, _⟩ | ⟨n2, h2⟩
      · omega
      · exact absurd h2 (hn k n2)
    · rcases look k d h2 with ⟨rfl, rfl⟩ | ⟨n2, h2⟩
      · exact absurd g1 (hn j n1)
      · exact h.apart j k d hk g1 h2
/-- of more dates than there are matches the later ones are never needed -/
theorem ext_take {n : Nat} (hnd : ∀ i, (D i).Nodup) : ∀ {f : Nat} {out : List Int}, out.length + f = n → Valid D M out → ext (fun i => (D i).take n) (clash M) f out = ext D (clash M) f out
  | 0, out, _, _ => rfl
  | f + 1, out, hl, hv => by
    simp only [ext]
    have e1 : ((D out.length).take n).findSome? (fun d => if clash M out d = true then none else ext (fun i => (D i).take n) (clash M) f (out ++ [d])) = ((D out.length).take n).findSome? (fun d => if clash M out d = true then none else ext D (clash M) f (out ++ [d])) := by
      refine findSome_congr fun d hd => ?_
      split
      · rfl
      · rename_i hc
        exact ext_take hnd (by rw [List.length_append, List.length_singleton]; omega) (Valid.snoc.2 ⟨hv, List.mem_of_mem_take hd, by simpa using hc⟩)
    rw [e1]
    have e2 : (D out.length).findSome? (fun d => if clash M out d = true then none else ext D (clash M) f (out ++ [d])) = ((D out.length).take n ++ (D out.length).drop n).findSome? (fun d => if clash M out d = true then none else ext D (clash M) f (out ++ [d])) := by rw [List.take_append_drop]
    rw [e2, List.findSome?_append]
    cases h1 : ((D out.length).take n).findSome? (fun d => if clash M out d = true then none else ext D (clash M) f (out ++ [d])) with
    | some r => rfl
    | none =>
      rw [Option.none_or]
      cases h2 : ((D out.length).drop n).findSome? (fun d => if clash M out d = true then none else ext D (clash M) f (out ++ [d])) with
      | none => rfl
      | some sol =>
        exfalso
        obtain ⟨y, hy, h2⟩ := List.exists_of_findSome?_eq_some h2
        split at h2
        · cases h2
        · rename_i hc
          obtain ⟨vs, ls, ts⟩ := ext_valid (Valid.snoc.2 ⟨hv, List.mem_of_mem_drop hy, by simpa using hc⟩) h2
          rw [List.length_append, List.length_singleton] at ls ts
          have hyl : n < (D out.length).length := by
            have := List.length_pos_of_mem hy
            rw [List.length_drop] at this; omega
          obtain ⟨x, hx, hxn⟩ := free_day (l := (D out.length).take n) ((hnd _).sublist (List.take_sublist _ _)) (s := sol.take out.length ++ sol.drop (out.length + 1)) (by
            rw [List.length_append, List.length_take, List.length_drop, List.length_take]; omega)
          have hno : ∀ k, k ≠ out.length → sol[k]? ≠ some x := by
            intro k hk hkx
            apply hxn
            rcases Nat.lt_or_ge k out.length with h | h
            · exact List.mem_append_left _ (List.mem_of_getElem? (by rw [List.getElem?_take, if_pos h]; exact hkx))
            · refine List.mem_append_right _ (List.mem_of_getElem? (i := k - (out.length + 1)) ?_)
              rw [List.getElem?_drop]
              have : out.length + 1 + (k - (out.length + 1)) = k := by omega
              rw [this]; exact hkx
          have v2 := vs.other (List.mem_of_mem_take hx) hno
          have t2 : (sol.set out.length x).take (out.length + 1) = out ++ [x] := by
            rw [List.take_add_one, List.getElem?_set_self (by omega), List.take_set_of_le (Nat.le_refl _)]
            have : sol.take out.length = (sol.take (out.length + 1)).take out.length := by rw [List.take_take, Nat.min_eq_left (by omega)]
            rw [this, ts, List.take_left]; rfl
          have v3 := v2.take (out.length + 1)
          rw [t2] at v3
          obtain ⟨_, _, hcx⟩ := Valid.snoc.1 v3
          rw [List.findSome?_eq_none_iff] at h1
          have := h1 x hx
          rw [if_neg (by rw [hcx]; simp)] at this
          exact ext_some (f := f) (out := out ++ [x]) v2 (by rw [List.length_set, List.length_append, List.length_singleton]; omega) (by rw [List.length_append, List.length_singleton]; exact t2) this

/-- the reference's search -/
def refX (D : Nat → List Int) (S : List Int → Bool) : Nat → List Int → Option (List Int)
  | 0, out => if S out = true then some out else none
  | f + 1, out => if S out = true then (D out.length).findSome? fun d => refX D S f (out ++ [d]) else none
theorem refX_bad {S : List Int → Bool} {f : Nat} {out : List Int} (h : S out = false) : refX D S f out = none := by
  cases f <;> simp [refX, h]
theorem refX_ext {S : List Int → Bool} (hS : ∀ l, S l = true ↔ Valid D M l) : ∀ {f : Nat} {out : List Int}, Valid D M out → refX D S f out = ext D (clash M) f out
  | 0, out, h => by simp [refX, ext, (hS out).2 h]
  | f + 1, out, h => by
    simp only [refX, ext]
    rw [if_pos ((hS out).2 h)]
    refine findSome_congr fun d hd => ?_
    cases hc : clash M out d
    · rw [if_neg (by simp)]
      exact refX_ext hS (Valid.snoc.2 ⟨h, hd, hc⟩)
    · rw [if_pos rfl]
      refine refX_bad ?_
      cases hs : S (out ++ [d])
      · rfl
      · have := (Valid.snoc.1 ((hS _).1 hs)).2.2
        rw [hc] at this; cases this
end
end Go.Den.Plan
