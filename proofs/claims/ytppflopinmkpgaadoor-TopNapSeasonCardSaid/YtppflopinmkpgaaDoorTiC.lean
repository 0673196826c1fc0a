/- Points that are given out: what a search for a further point leaves, in plain Lean. -/
import Derived.Test.YtppflopinmkpgaaDoorTiB
noncomputable section
namespace Go.Proofs.YtppflopinmkpgaaDoor
open Go Go.Den Go.Den.Title

/-- the team of a side -/
def tm (p : Int × Int) (a : Nat) : Int := if a = 0 then p.1 else p.2
def addG (g : Int × Int) (a : Nat) (d : Int) : Int × Int := if a = 0 then (g.1 + d, g.2) else (g.1, g.2 + d)
def on (s : List Bool) (t : Int) : Prop := s[t.toNat]? = some true

theorem tm_add {g : Int × Int} {a b : Nat} {d : Int} (ha : a < 2) (hb : b < 2) : tm (addG g a d) b = tm g b + if a = b then d else 0 := by
  unfold tm addG
  have : a = 0 ∨ a = 1 := by omega
  have : b = 0 ∨ b = 1 := by omega
  rcases ‹a = 0 ∨ a = 1› with rfl | rfl <;> rcases ‹b = 0 ∨ b = 1› with rfl | rfl <;> simp
theorem sum_add {g : Int × Int} {a : Nat} {d : Int} : (addG g a d).1 + (addG g a d).2 = g.1 + g.2 + d := by
  unfold addG; split <;> simp <;> omega

theorem addG_nonneg {g : Int × Int} {a : Nat} {d : Int} (h : 0 ≤ g.1 ∧ 0 ≤ g.2) (hd : 0 ≤ tm g a + d) : 0 ≤ (addG g a d).1 ∧ 0 ≤ (addG g a d).2 := by
  unfold addG
  unfold tm at hd
  split
  · rename_i e; rw [if_pos e] at hd; exact ⟨hd, h.2⟩
  · rename_i e; rw [if_neg e] at hd; exact ⟨h.1, hd⟩
theorem tm_nonneg {g : Int × Int} {a : Nat} (h : 0 ≤ g.1 ∧ 0 ≤ g.2) : 0 ≤ tm g a := by
  unfold tm; split
  · exact h.1
  · exact h.2
theorem asg_set {t : Int} : ∀ {ps gs : List Pt} {j : Nat} {g' : Pt} (h1 : j < ps.length) (h2 : j < gs.length), asg t ps (gs.set j g') = asg t ps gs + ((if ps[j].1 = t then g'.1 - gs[j].1 else 0) + (if ps[j].2 = t then g'.2 - gs[j].2 else 0))
  | [], _, j, _, h1, _ => by simp at h1
  | _ :: _, [], j, _, _, h2 => by simp at h2
  | p :: ps, g :: gs, 0, g', _, _ => by
    simp only [List.set_cons_zero, asg, List.getElem_cons_zero]
    split <;> split <;> omega
  | p :: ps, g :: gs, j + 1, g', h1, h2 => by
    have := asg_set (t := t) (ps := ps) (gs := gs) (j := j) (g' := g') (by simpa using h1) (by simpa using h2)
    simp only [List.set_cons_succ, asg, List.getElem_cons_succ, this]
    omega
theorem asg_add {t : Int} {ps gs : List Pt} {j a : Nat} {d : Int} (ha : a < 2) (h1 : j < ps.length) (h2 : j < gs.length) : asg t ps (gs.set j (addG gs[j] a d)) = asg t ps gs + if tm ps[j] a = t then d else 0 := by
  rw [asg_set h1 h2]
  have : a = 0 ∨ a = 1 := by omega
  rcases this with rfl | rfl
  · simp only [addG, tm, if_true]
    split <;> split <;> omega
  · simp only [addG, tm, if_neg (by decide : ¬ (1 : Nat) = 0)]
    split <;> split <;> omega

/-- what holds of a team that was asked in vain -/
structure NewOk (opn given : List (Int × Int)) (room : List Int) (s1 : List Bool) (t : Int) : Prop where
  room : ptL room t ≤ 0
  each : ∀ (j : Nat) p g, opn[j]? = some p → given[j]? = some g → (p.1 = t → g.1 ≠ 0 → on s1 p.2) ∧ (p.2 = t → g.2 ≠ 0 → on s1 p.1)
theorem NewOk.mono {opn given : List (Int × Int)} {room : List Int} {s1 s2 : List Bool} {t : Int} (h : NewOk opn given room s1 t) (hm : ∀ t, on s1 t → on s2 t) : NewOk opn given room s2 t :=
  ⟨h.room, fun j p g a b => ⟨fun e n => hm _ ((h.each j p g a b).1 e n), fun e n => hm _ ((h.each j p g a b).2 e n)⟩⟩

structure Fails (opn given : List (Int × Int)) (room : List Int) (s0 s1 : List Bool) : Prop where
  len : s1.length = s0.length
  mono : ∀ t, on s0 t → on s1 t
  new : ∀ t, 0 ≤ t → on s1 t → ¬ on s0 t → NewOk opn given room s1 t
theorem Fails.refl {opn given : List (Int × Int)} {room : List Int} {s : List Bool} : Fails opn given room s s := ⟨rfl, fun _ h => h, fun _ _ h n => absurd h n⟩
theorem Fails.trans {opn given : List (Int × Int)} {room : List Int} {s0 s1 s2 : List Bool} (h : Fails opn given room s0 s1) (k : Fails opn given room s1 s2) : Fails opn given room s0 s2 := by
  refine ⟨k.len.trans h.len, fun t ht => k.mono t (h.mono t ht), fun t h0 h2 hn => ?_⟩
  by_cases h1 : on s1 t
  · exact (h.new t h0 h1 hn).mono k.mono
  · exact k.new t h0 h2 h1

structure Moved (opn given : List (Int × Int)) (room : List Int) (s0 : List Bool) (mi : Nat) (given' : List (Int × Int)) (room' : List Int) : Prop where
  lenG : given'.length = given.length
  lenR : room'.length = room.length
  sum : ∀ (j : Nat) g g', given[j]? = some g → given'[j]? = some g' → g'.1 + g'.2 = g.1 + g.2 + (if j = mi then 1 else 0) ∧ 0 ≤ g'.1 ∧ 0 ≤ g'.2
  tot : ∀ t : Int, 0 ≤ t → t < room.length → ptL room' t + asg t opn given' = ptL room t + asg t opn given
  rpos : ∀ t : Int, 0 ≤ ptL room' t
  keepG : ∀ (j : Nat) p g g', opn[j]? = some p → given[j]? = some g → given'[j]? = some g' → (on s0 p.1 → g'.1 = g.1) ∧ (on s0 p.2 → g'.2 = g.2)
  keepR : ∀ t, 0 ≤ t → on s0 t → ptL room' t = ptL room t

structure TakeR (opn given : List (Int × Int)) (room : List Int) (s0 : List Bool) (mi : Nat) (ok : Bool) (given' : List (Int × Int)) (room' : List Int) (s1 : List Bool) : Prop where
  len : s1.length = s0.length
  mono : ∀ t, on s0 t → on s1 t
  fail : ok = false → given' = given ∧ room' = room ∧ Fails opn given room s0 s1 ∧ ∀ p, opn[mi]? = some p → on s1 p.1 ∧ on s1 p.2
  succ : ok = true → Moved opn given room s0 mi given' room'

/-- the state that a search begins with -/
structure Ready (opn given : List (Int × Int)) (room : List Int) (seen : List Bool) : Prop where
  lenG : given.length = opn.length
  lenS : seen.length = room.length
  each : ∀ p ∈ opn, (0 ≤ p.1 ∧ p.1 < room.length) ∧ (0 ≤ p.2 ∧ p.2 < room.length) ∧ p.1 ≠ p.2
  pos : ∀ g ∈ given, 0 ≤ g.1 ∧ 0 ≤ g.2 ∧ g.1 + g.2 ≤ 1000
  rpos : ∀ x ∈ room, 0 ≤ x ∧ x ≤ 1000000000000

theorem ptL_set {l : List Int} {t u x : Int} (h0 : 0 ≤ t) (h1 : t < l.length) (hu : 0 ≤ u) : ptL (l.set t.toNat x) u = if t = u then x else ptL l u := by
  unfold ptL
  rw [List.getElem?_set]
  by_cases e : t = u
  · subst e
    rw [if_pos rfl, if_pos (by omega), if_pos rfl]; rfl
  · rw [if_neg (by omega), if_neg e]
theorem ptL_nonneg {l : List Int} (h : ∀ x ∈ l, 0 ≤ x) (t : Int) : 0 ≤ ptL l t := by
  unfold ptL
  cases hh : l[t.toNat]? with
  | none => simp
  | some x => exact h x (List.mem_of_getElem? hh)
theorem on_set {s : List Bool} {t u : Int} (h0 : 0 ≤ t) (h1 : t < s.length) (hu : 0 ≤ u) : on (s.set t.toNat true) u ↔ t = u ∨ on s u := by
  unfold on
  rw [List.getElem?_set]
  by_cases e : t = u
  · subst e
    simp only [if_true, if_pos (by omega : t.toNat < s.length)]
    simp
  · rw [if_neg (by omega)]
    simp [e]
theorem on_set_of {s : List Bool} {t u : Int} (h1 : t.toNat < s.length) (h : on s u) : on (s.set t.toNat true) u := by
  unfold on at h ⊢
  rw [List.getElem?_set]
  split
  · first | rfl | (rw [if_pos h1])
  · exact h

section
variable {opn given : List (Int × Int)} {room : List Int} {s0 : List Bool} {mi a : Nat}
/-- the team itself has room -/
theorem moved_room {t : Int} (hr : Ready opn given room s0) (hmi : mi < opn.length) (ha : a < 2) (ht : tm opn[mi] a = t) (hns : ¬ on s0 t) (hroom : 0 < ptL room t) (hmg : mi < given.length) :
    Moved opn given room s0 mi (given.set mi (addG given[mi] a 1)) (room.set t.toNat (ptL room t - 1)) := by
  have hea := hr.each _ (List.getElem_mem hmi)
  have ht0 : 0 ≤ t ∧ t < room.length := by rw [← ht]; unfold tm; split <;> omega
  refine ⟨by simp, by simp, fun j g g' hg hg' => ?_, fun u h0 h1 => ?_, fun u => ?_, fun j p g g' hp hg hg' => ?_, fun u h0 hu => ?_⟩
  · rw [List.getElem?_set] at hg'
    have hpos := hr.pos g (List.mem_of_getElem? hg)
    split at hg'
    · rename_i e
      subst e
      try rw [if_pos hmg] at hg'
      cases hg'
      rw [List.getElem?_eq_getElem hmg] at hg
      cases hg
      rw [if_pos rfl, sum_add]
      refine ⟨rfl, ?_, ?_⟩ <;> unfold addG <;> split <;> simp <;> omega
    · rename_i e
      rw [hg] at hg'; cases hg'
      rw [if_neg (fun h => e h.symm)]; omega
  · rw [asg_add ha hmi hmg, ht, ptL_set ht0.1 ht0.2 h0]
    split
    · rename_i e; subst e; omega
    · omega
  · by_cases hu : 0 ≤ u
    · rw [ptL_set ht0.1 ht0.2 hu]
      split
      · omega
      · exact ptL_nonneg (fun x hx => (hr.rpos x hx).1) u
    · refine ptL_nonneg (fun x hx => ?_) u
      rcases List.mem_or_eq_of_mem_set hx with h | h
      · exact (hr.rpos x h).1
      · omega
  · rw [List.getElem?_set] at hg'
    split at hg'
    · rename_i e
      subst e
      try rw [if_pos hmg] at hg'
      cases hg'
      rw [List.getElem?_eq_getElem hmg] at hg
      cases hg
      rw [List.getElem?_eq_getElem hmi] at hp
      cases hp
      unfold tm at ht
      unfold addG
      split <;> rename_i ha0
      · rw [if_pos ha0] at ht
        exact ⟨fun h => absurd (ht ▸ h) hns, fun _ => rfl⟩
      · rw [if_neg ha0] at ht
        exact ⟨fun _ => rfl, fun h => absurd (ht ▸ h) hns⟩
    · rw [hg] at hg'; cases hg'; exact ⟨fun _ => rfl, fun _ => rfl⟩
  · rw [ptL_set ht0.1 ht0.2 h0, if_neg (fun e => hns (by rw [e]; exact hu))]

/-- another match of the team gives its point away -/
theorem moved_other {t : Int} {s1 : List Bool} {j b : Nat} {given1 : List (Int × Int)} {room1 : List Int} (hr : Ready opn given room s0) (hmi : mi < opn.length) (ha : a < 2) (ht : tm opn[mi] a = t) (hns : ¬ on s0 t) (hj : j < opn.length) (hb : b < 2) (htb : tm opn[j] b = t)
    (hm : Moved opn given room s1 j given1 room1) (hs : ∀ u, on s0 u → on s1 u) (hst : on s1 t) (hj0 : j < given.length) (hne : tm given[j] b ≠ 0) (hj1 : j < given1.length) (hmg : mi < (given1.set j (addG given1[j] b (-1))).length) :
    Moved opn given room s0 mi ((given1.set j (addG given1[j] b (-1))).set mi (addG (given1.set j (addG given1[j] b (-1)))[mi] a 1)) room1 := by
  have hmg1 : mi < given1.length := by simpa using hmg
  have hlg := hr.lenG
  have kj := hm.keepG j _ _ _ (List.getElem?_eq_getElem hj) (List.getElem?_eq_getElem hj0) (List.getElem?_eq_getElem hj1)
  have sj := hm.sum j _ _ (List.getElem?_eq_getElem hj0) (List.getElem?_eq_getElem hj1)
  have pj := hr.pos _ (List.getElem_mem hj0)
  have one : 1 ≤ tm given1[j] b := by
    unfold tm at htb hne ⊢
    split
    · rename_i e
      rw [if_pos e] at htb hne
      rw [kj.1 (htb ▸ hst)]; omega
    · rename_i e
      rw [if_neg e] at htb hne
      rw [kj.2 (htb ▸ hst)]; omega
  have hx : ∀ (i : Nat) (h : i < (given1.set j (addG given1[j] b (-1))).length), (given1.set j (addG given1[j] b (-1)))[i] = if j = i then addG given1[j] b (-1) else given1[i]'(by simpa using h) := fun i h => List.getElem_set ..
  have s1 : ∀ (i : Nat) (h : i < given1.length), ((given1.set j (addG given1[j] b (-1)))[i]'(by simpa using h)).1 + ((given1.set j (addG given1[j] b (-1)))[i]'(by simpa using h)).2 = given1[i].1 + given1[i].2 - (if j = i then 1 else 0) ∧ 0 ≤ ((given1.set j (addG given1[j] b (-1)))[i]'(by simpa using h)).1 ∧ 0 ≤ ((given1.set j (addG given1[j] b (-1)))[i]'(by simpa using h)).2 := by
    intro i h
    have hi0 : i < given.length := by rw [← hm.lenG]; exact h
    have si := hm.sum i _ _ (List.getElem?_eq_getElem hi0) (List.getElem?_eq_getElem h)
    rw [hx]
    by_cases e : j = i
    · subst e
      rw [if_pos rfl, if_pos rfl, sum_add]
      have := addG_nonneg (a := b) (d := -1) si.2 (by omega)
      exact ⟨by omega, this⟩
    · rw [if_neg e, if_neg e]
      exact ⟨by omega, si.2⟩
  refine ⟨by simp [hm.lenG], hm.lenR, fun i g g' hg hg' => ?_, fun u h0 h1 => ?_, hm.rpos, fun i p g g' hp hg hg' => ?_, fun u h0 hu => hm.keepR u h0 (hs u hu)⟩
  · have hi : i < given1.length := by
      have := (List.getElem?_eq_some_iff.1 hg').1
      simpa using this
    have si := (hm.sum i _ _ hg (List.getElem?_eq_getElem hi)).1
    have s2 := s1 i hi
    have key : g' = if mi = i then addG (given1.set j (addG given1[j] b (-1)))[mi] a 1 else (given1.set j (addG given1[j] b (-1)))[i]'(by simpa using hi) := by
      rw [List.getElem?_eq_getElem (by simpa using hi)] at hg'
      simp only [Option.some.injEq] at hg'
      rw [← hg', List.getElem_set]
    by_cases e : mi = i
    · subst e
      rw [if_pos rfl] at key
      rw [key, sum_add, if_pos rfl]
      have nn := tm_nonneg (a := a) s2.2
      refine ⟨?_, addG_nonneg s2.2 (by omega)⟩
      split at si <;> split at s2 <;> omega
    · rw [if_neg e] at key
      rw [key, if_neg (fun h => e h.symm)]
      refine ⟨?_, s2.2⟩
      split at si <;> split at s2 <;> omega
  · have := hm.tot u h0 h1
    rw [asg_add ha hmi hmg, asg_add hb hj hj1, ht, htb]
    split <;> omega
  · have hi : i < given1.length := by
      have := (List.getElem?_eq_some_iff.1 hg').1
      simpa using this
    have ki := hm.keepG i p g _ hp hg (List.getElem?_eq_getElem hi)
    have ki2 : (on s0 p.1 → given1[i].1 = g.1) ∧ (on s0 p.2 → given1[i].2 = g.2) := ⟨fun h => ki.1 (hs _ h), fun h => ki.2 (hs _ h)⟩
    have step1 : (on s0 p.1 → ((given1.set j (addG given1[j] b (-1)))[i]'(by simpa using hi)).1 = g.1) ∧ (on s0 p.2 → ((given1.set j (addG given1[j] b (-1)))[i]'(by simpa using hi)).2 = g.2) := by
      rw [hx]
      by_cases e2 : j = i
      · subst e2
        rw [if_pos rfl]
        rw [List.getElem?_eq_getElem hj] at hp
        cases hp
        unfold tm at htb
        unfold addG
        split <;> rename_i hb0
        · rw [if_pos hb0] at htb
          exact ⟨fun h => absurd (htb ▸ h) hns, fun h => ki2.2 h⟩
        · rw [if_neg hb0] at htb
          exact ⟨fun h => ki2.1 h, fun h => absurd (htb ▸ h) hns⟩
      · rw [if_neg e2]; exact ki2
    rw [List.getElem?_set] at hg'
    by_cases e : mi = i
    · subst e
      rw [if_pos rfl] at hg'
      try rw [if_pos hmg] at hg'
      cases hg'
      rw [List.getElem?_eq_getElem hmi] at hp
      cases hp
      unfold tm at ht
      unfold addG
      split <;> rename_i ha0
      · rw [if_pos ha0] at ht
        exact ⟨fun h => absurd (ht ▸ h) hns, fun h => step1.2 h⟩
      · rw [if_neg ha0] at ht
        exact ⟨fun h => step1.1 h, fun h => absurd (ht ▸ h) hns⟩
    · rw [if_neg e, List.getElem?_eq_getElem (by simpa using hi)] at hg'
      cases hg'
      exact step1
end

theorem countP_set {s : List Bool} {k : Nat} (h : k < s.length) (hf : s[k] = false) : (s.set k true).countP (fun b => !b) + 1 = s.countP (fun b => !b) := by
  induction s generalizing k with
  | nil => simp at h
  | cons x r ih =>
    cases k with
    | zero =>
      simp only [List.getElem_cons_zero] at hf
      subst hf
      simp [List.countP_cons]
    | succ k =>
      simp only [List.getElem_cons_succ] at hf
      have := ih (k := k) (by simpa using h) hf
      simp only [List.set_cons_succ, List.countP_cons]
      omega
theorem fails_count {s0 s1 : List Bool} (hl : s1.length = s0.length) (hm : ∀ t : Int, on s0 t → on s1 t) : s1.countP (fun b => !b) ≤ s0.countP (fun b => !b) := by
  have key : ∀ (s0 s1 : List Bool), s1.length = s0.length → (∀ k : Nat, s0[k]? = some true → s1[k]? = some true) → s1.countP (fun b => !b) ≤ s0.countP (fun b => !b) := by
    intro s0
    induction s0 with
    | nil => intro s1 hl _; cases s1 with | nil => simp | cons _ _ => simp at hl
    | cons x r ih =>
      intro s1 hl hm
      cases s1 with
      | nil => simp at hl
      | cons y q =>
        have h1 := ih q (by simpa using hl) fun k hk => by have := hm (k + 1) (by simpa using hk); simpa using this
        have h0 := hm 0
        simp only [List.getElem?_cons_zero, Option.some.injEq] at h0
        simp only [List.countP_cons]
        cases x <;> cases y <;> simp_all <;> omega
  exact key s0 s1 hl fun k hk => by have := hm (k : Int) (by unfold on; simpa using hk); unfold on at this; simpa using this
end Go.Proofs.YtppflopinmkpgaaDoor
