/- Plain law: in the single and the double fixtures all meet. -/
import Derived.Test.YtiggikjbknoohaaGreatDoorFxC
import Derived.Test.YtiggikjbknoohaaGreatDoorAwake
import Derived.Test.YtiggikjbknoohaaGreatDoorElJ
import Derived.Test.YtiggikjbknoohaaGreatDoorSxM
noncomputable section
namespace Go.Proofs.YtiggikjbknoohaaGreatDoor
open Go Go.Den
set_option maxRecDepth 100000

/-- no number twice, told by bits -/
def ndB : List Nat → Nat → Bool
  | [], _ => true
  | k :: r, m => match Nat.testBit m k with
    | true => false
    | false => ndB r (m ||| (1 <<< k))
theorem ndB_ok : ∀ {l : List Nat} {m : Nat}, ndB l m = true → l.Nodup ∧ ∀ k ∈ l, Nat.testBit m k = false
  | [], m, _ => ⟨.nil, by simp⟩
  | k :: r, m, h => by
    simp only [ndB] at h
    split at h
    · cases h
    · rename_i hk
      obtain ⟨h1, h2⟩ := ndB_ok h
      have h3 : ∀ j ∈ r, Nat.testBit m j = false ∧ j ≠ k := fun j hj => by
        have h4 := h2 j hj
        rw [Nat.testBit_or, Bool.or_eq_false_iff] at h4
        refine ⟨h4.1, fun e => ?_⟩
        subst e
        have h5 := h4.2
        rw [Nat.one_shiftLeft, Nat.testBit_two_pow_self] at h5
        cases h5
      exact ⟨List.nodup_cons.2 ⟨fun hm => (h3 k hm).2 rfl, h1⟩, fun j hj => by
        rcases List.mem_cons.1 hj with rfl | hj
        · exact hk
        · exact (h3 j hj).1⟩
def keyP (p : Int × Int) : Nat := p.1.toNat * 64 + p.2.toNat
theorem nd_of {l : List (Int × Int)} (h : ndB (l.map keyP) 0 = true) : l.Nodup := by
  have h1 := (ndB_ok h).1
  unfold List.Nodup at h1 ⊢
  rw [List.pairwise_map] at h1
  exact h1.imp fun h e => h (by rw [e])
def busyP (l : List Fx) : List (Int × Int) := l.flatMap fun x => [(x.day, x.home), (x.day, x.away)]
def ordP (x : Fx) : Int × Int := (min x.home x.away, max x.home x.away)
def dirP (x : Fx) : Int × Int := (x.home, x.away)
def metP (l : List Fx) : List (Int × Int) := l.flatMap fun x => [(x.home, x.away), (x.away, x.home)]

/-- each fixture by itself -/
def InF (n : Nat) (x : Fx) : Prop := (0 ≤ x.day ∧ x.day ≤ 48) ∧ (0 ≤ x.home ∧ x.home < n) ∧ (0 ≤ x.away ∧ x.away < n) ∧ x.home ≠ x.away
/-- two fixtures do not clash -/
def Apart (x y : Fx) : Prop := (x.day = y.day → x.home ≠ y.home ∧ x.home ≠ y.away ∧ x.away ≠ y.home ∧ x.away ≠ y.away) ∧ ¬ (x.home = y.home ∧ x.away = y.away)
theorem apart_of {l : List Fx} (h1 : (busyP l).Nodup) (h2 : (l.map dirP).Nodup) : l.Pairwise Apart := by
  unfold busyP List.Nodup at h1
  rw [List.pairwise_flatMap] at h1
  unfold List.Nodup at h2
  rw [List.pairwise_map] at h2
  refine (h1.2.and h2).imp fun {x y} h => ⟨fun e => ?_, fun e => h.2 (by unfold dirP; rw [e.1, e.2])⟩
  have h1 := h.1
  simp only [List.mem_cons, List.not_mem_nil, or_false] at h1
  refine ⟨fun q => h1 _ (.inl rfl) _ (.inl rfl) (by rw [e, q]), fun q => h1 _ (.inl rfl) _ (.inr rfl) (by rw [e, q]), fun q => h1 _ (.inr rfl) _ (.inl rfl) (by rw [e, q]), fun q => h1 _ (.inr rfl) _ (.inr rfl) (by rw [e, q])⟩

theorem chk_of {n : Nat} {l : List Fx} (h2 : 2 ≤ n) (h24 : n ≤ 24) (hl : l.length ≤ 600) (hin : ∀ x ∈ l, InF n x) (hap : l.Pairwise Apart) : chkL n l = 0 := by
  have ht : topL n l = 0 := by
    have e1 : outL n 2 24 = false := by simp [outL]; omega
    have e2 : decide ((l.length : Int) > 600) = false := by simp; omega
    simp [topL, e1, e2, whenL, firstL]
  have hr : restL n l = 0 := restL_none fun j hj => by
    rw [errI_at hj]
    obtain ⟨a1, a2, a3, a4⟩ := hin _ (List.getElem_mem hj)
    refine errAt_ok (by simp [outL]; omega) (by simp [unknownL]; omega) (by simpa using a4) ?_ ?_
    · refine take_any_f fun i hi hij => ?_
      have h := (List.pairwise_iff_getElem.1 hap) i j hi hj hij
      unfold clashL
      by_cases e : l[i].day = l[j].day
      · obtain ⟨b1, b2, b3, b4⟩ := h.1 e
        simp [meetsL, e, b1.symm, b2.symm, b3.symm, b4.symm]
      · simp [e]
    · refine take_any_f fun i hi hij => ?_
      have h := (List.pairwise_iff_getElem.1 hap) i j hi hj hij
      unfold twiceL
      by_cases e : l[j].home = l[i].home
      · have : l[j].away ≠ l[i].away := fun e2 => h.2 ⟨e.symm, e2.symm⟩
        simp [e, this]
      · simp [e]
  simp [chkL, ht, hr]

theorem metP_mem {l : List Fx} {p : Int × Int} : p ∈ metP l ↔ ∃ x ∈ l, p = (x.home, x.away) ∨ p = (x.away, x.home) := by
  simp [metP, List.mem_flatMap]
theorem metP_len (l : List Fx) : (metP l).length = 2 * l.length := by
  induction l with
  | nil => rfl
  | cons a r ih =>
    have e : metP (a :: r) = (a.home, a.away) :: (a.away, a.home) :: metP r := rfl
    rw [e, List.length_cons, List.length_cons, ih, List.length_cons]; omega
theorem ord_eq {a b c d : Int} (h : (a = c ∧ b = d) ∨ (a = d ∧ b = c)) : ((min a b, max a b) : Int × Int) = (min c d, max c d) := by
  rcases h with ⟨rfl, rfl⟩ | ⟨rfl, rfl⟩
  · rfl
  · rw [Int.min_comm, Int.max_comm]
theorem metP_nodup {l : List Fx} (h : (l.map ordP).Nodup) (hne : ∀ x ∈ l, x.home ≠ x.away) : (metP l).Nodup := by
  unfold metP List.Nodup
  unfold List.Nodup at h
  rw [List.pairwise_map] at h
  rw [List.pairwise_flatMap]
  refine ⟨fun x hx => ?_, h.imp fun {x y} h p hp q hq e => h ?_⟩
  · have := hne x hx
    simp only [List.pairwise_cons, List.mem_singleton, forall_eq, List.not_mem_nil, false_imp_iff, implies_true, List.Pairwise.nil, and_true]
    intro e
    simp only [Prod.mk.injEq] at e
    exact this e.1
  · subst e
    simp only [List.mem_cons, List.not_mem_nil, or_false] at hp hq
    unfold ordP
    refine ord_eq ?_
    rcases hp with rfl | rfl <;> rcases hq with hq | hq <;> simp only [Prod.mk.injEq] at hq <;> omega
theorem metK_len {l : List Fx} (h : (l.map ordP).Nodup) (hne : ∀ x ∈ l, x.home ≠ x.away) : (metK l).length = 2 * l.length := by
  have a := nodup_len (metK_nodup l) (m := metP l) fun p hp => metP_mem.2 ((metK_mem l p).1 hp)
  have b := nodup_len (metP_nodup h hne) (m := metK l) fun p hp => (metK_mem l p).2 (metP_mem.1 hp)
  rw [metP_len] at a b
  omega

/-! ### home matches -/
def homeN (l : List Fx) (i : Nat) : Nat := l.countP fun x => decide (x.home.toNat = i)
theorem tally_at {l : List Fx} {i : Nat} : ∀ {c : List Int} (h : i < c.length), (tally l c)[i]? = some (c[i] + (homeN l i : Nat)) := by
  induction l with
  | nil => intro c h; simp [tally, homeN, h]
  | cons x r ih =>
    intro c h
    have e : tally (x :: r) c = tally r (c.set x.home.toNat (c[x.home.toNat]?.getD 0 + 1)) := rfl
    rw [e, ih (by simpa using h)]
    unfold homeN
    rw [List.countP_cons, List.getElem_set]
    by_cases hx : x.home.toNat = i
    · subst hx
      simp [h]; omega
    · rw [if_neg hx]
      simp [hx]
theorem homeN_out {l : List Fx} {k : Nat} (h : k < l.length) : homeN l l[k].home.toNat = homeN (l.take k ++ l.drop (k + 1)) l[k].home.toNat + 1 := by
  have e : l = l.take k ++ l[k] :: l.drop (k + 1) := by rw [← List.drop_eq_getElem_cons h, List.take_append_drop]
  generalize hx : l[k] = x at e ⊢
  unfold homeN
  conv => lhs; rw [e]
  rw [List.countP_append, List.countP_append, List.countP_cons]
  simp; omega

/-! ### what a round has -/
def roundK (l : List Fx) : List (Int × Int) := l.foldl (fun ks x => putK ks x.day ((getK ks x.day).getD 0 + 1)) []
theorem roundK_snoc {l : List Fx} {x : Fx} : roundK (l ++ [x]) = putK (roundK l) x.day ((getK (roundK l) x.day).getD 0 + 1) := by simp [roundK, List.foldl_append]
theorem putK_mem {a : Int} {v : Int} {p : Int × Int} : ∀ {ks : List (Int × Int)}, p ∈ putK ks a v → p = (a, v) ∨ p ∈ ks
  | [], h => by simpa [putK] using h
  | q :: r, h => by
    simp only [putK] at h
    split at h
    · rcases List.mem_cons.1 h with h | h
      · exact .inl h
      · exact .inr (List.mem_cons_of_mem _ h)
    · rcases List.mem_cons.1 h with h | h
      · exact .inr (by rw [h]; exact List.mem_cons_self ..)
      · exact (putK_mem h).imp id (List.mem_cons_of_mem _)
theorem getK_mem {a v : Int} {ks : List (Int × Int)} (h : getK ks a = some v) : (a, v) ∈ ks := by
  unfold getK at h
  cases e : ks.find? (fun p => decide (p.1 = a)) with
  | none => rw [e] at h; cases h
  | some p =>
    rw [e] at h
    have h1 := List.find?_some e
    have h2 := List.mem_of_find?_eq_some e
    simp only [decide_eq_true_eq] at h1
    simp only [Option.map_some, Option.some.injEq] at h
    rw [← h1, ← h]; exact h2
/-- bounds of what is counted -/
theorem roundK_bound (l : List Fx) : ∀ p ∈ roundK l, 0 ≤ p.2 ∧ p.2 ≤ l.length := by
  suffices h : ∀ (l : List Fx) (ks : List (Int × Int)) (m : Nat), (∀ p ∈ ks, 0 ≤ p.2 ∧ p.2 ≤ m) → ∀ p ∈ l.foldl (fun ks x => putK ks x.day ((getK ks x.day).getD 0 + 1)) ks, 0 ≤ p.2 ∧ p.2 ≤ ((m + l.length : Nat) : Int) from by
    have := h l [] 0 (by simp)
    simpa [roundK] using this
  intro l
  induction l with
  | nil => intro ks m h; simpa using h
  | cons x r ih =>
    intro ks m h p hp
    have := ih _ (m + 1) (fun q hq => by
      rcases putK_mem hq with rfl | hq
      · simp only
        cases e : getK ks x.day with
        | none => simp; omega
        | some v => have := h _ (getK_mem e); simp only [Option.getD_some] at this ⊢; omega
      · have := h q hq; omega) p hp
    rw [List.length_cons]; omega
theorem round_get (l : List Fx) (a : Int) : 0 ≤ (getK (roundK l) a).getD 0 ∧ (getK (roundK l) a).getD 0 ≤ l.length := by
  cases e : getK (roundK l) a with
  | none => simp
  | some v => have := roundK_bound l _ (getK_mem e); simpa using this

/-! ### the fixtures of each number of teams -/
def inFB (n : Nat) (x : Fx) : Bool := decide (0 ≤ x.day) && decide (x.day ≤ 48) && decide (0 ≤ x.home) && decide (x.home < n) && decide (0 ≤ x.away) && decide (x.away < n) && !decide (x.home = x.away)
theorem inFB_ok {n : Nat} {x : Fx} (h : inFB n x = true) : InF n x := by
  simp only [inFB, Bool.and_eq_true, decide_eq_true_eq, Bool.not_eq_true', decide_eq_false_iff_not] at h
  obtain ⟨⟨⟨⟨⟨⟨a, b⟩, c⟩, d⟩, e⟩, f⟩, g⟩ := h
  exact ⟨⟨a, b⟩, ⟨c, d⟩, ⟨e, f⟩, g⟩
def leastI (l : List Int) : Int := l.foldl min (l[0]?.getD 0)
def mostI (l : List Int) : Int := l.foldl max (l[0]?.getD 0)
def okF (n : Nat) : Bool :=
  let f := genF n
  let d := genD n
  let t := tally f (List.replicate n 0)
  f.all (inFB n) && ndB ((busyP f).map keyP) 0 && ndB ((f.map dirP).map keyP) 0 && ndB ((f.map ordP).map keyP) 0 && Nat.beq f.length (n * (n - 1) / 2) && Nat.beq (2 * f.length) (n * (n - 1)) && (roundK f).all (fun p => decide (p.2 = ((n / 2 : Nat) : Int))) && decide (mostI t - leastI t ≤ 1) &&
  d.all (inFB n) && ndB ((busyP d).map keyP) 0 && ndB ((d.map dirP).map keyP) 0 && Nat.beq d.length (n * (n - 1)) && (tally d (List.replicate n 0)).all (fun k => decide (k = ((n - 1 : Nat) : Int)))
theorem okF_all : ∀ n : Fin 25, 2 ≤ n.val → okF n.val = true := by decide +kernel
structure MeetF (n : Nat) : Prop where
  inf : ∀ x ∈ genF n, InF n x
  busyF : (busyP (genF n)).Nodup
  dirF : ((genF n).map dirP).Nodup
  ordF : ((genF n).map ordP).Nodup
  lenF : (genF n).length = n * (n - 1) / 2
  twoF : 2 * (genF n).length = n * (n - 1)
  rounds : ∀ p ∈ roundK (genF n), p.2 = ((n / 2 : Nat) : Int)
  level : mostI (tally (genF n) (List.replicate n 0)) - leastI (tally (genF n) (List.replicate n 0)) ≤ 1
  ind : ∀ x ∈ genD n, InF n x
  busyD : (busyP (genD n)).Nodup
  dirD : ((genD n).map dirP).Nodup
  lenD : (genD n).length = n * (n - 1)
  there : ∀ k ∈ tally (genD n) (List.replicate n 0), k = ((n - 1 : Nat) : Int)
theorem meetF {n : Nat} (h2 : 2 ≤ n) (h24 : n ≤ 24) : MeetF n := by
  have h := okF_all ⟨n, by omega⟩ h2
  simp only [okF, Bool.and_eq_true, List.all_eq_true, decide_eq_true_eq] at h
  obtain ⟨⟨⟨⟨⟨⟨⟨⟨⟨⟨⟨⟨a1, a2⟩, a3⟩, a4⟩, a5⟩, a6⟩, a7⟩, a8⟩, a9⟩, a10⟩, a11⟩, a12⟩, a13⟩ := h
  exact ⟨fun x hx => inFB_ok (a1 x hx), nd_of a2, nd_of a3, nd_of a4, Nat.eq_of_beq_eq_true a5, Nat.eq_of_beq_eq_true a6, a7, a8, fun x hx => inFB_ok (a9 x hx), nd_of a10, nd_of a11, Nat.eq_of_beq_eq_true a12, a13⟩

theorem fewer_sub {l : List Fx} {k : Nat} : (l.take k ++ l.drop (k + 1)).Sublist l := by
  rw [← List.eraseIdx_eq_take_drop_succ]; exact List.eraseIdx_sublist ..
section
variable {n : Nat} (h2 : 2 ≤ n) (h24 : n ≤ 24)
include h2 h24
theorem lenF_le : (genF n).length ≤ 276 := by
  have h := (meetF h2 h24).twoF
  have : n * (n - 1) ≤ 24 * 23 := Nat.mul_le_mul h24 (by omega)
  omega
theorem lenD_le : (genD n).length ≤ 552 := by
  have h := (meetF h2 h24).lenD
  have : n * (n - 1) ≤ 24 * 23 := Nat.mul_le_mul h24 (by omega)
  omega
theorem chkF : chkL n (genF n) = 0 := by
  have m := meetF h2 h24
  have := lenF_le h2 h24
  exact chk_of h2 h24 (by omega) m.inf (apart_of m.busyF m.dirF)
theorem chkD : chkL n (genD n) = 0 := by
  have m := meetF h2 h24
  have := lenD_le h2 h24
  exact chk_of h2 h24 (by omega) m.ind (apart_of m.busyD m.dirD)
theorem chkX (k : Nat) : chkL n ((genF n).take k ++ (genF n).drop (k + 1)) = 0 := by
  have m := meetF h2 h24
  have := lenF_le h2 h24
  have hs := fewer_sub (l := genF n) (k := k)
  have hl := hs.length_le
  exact chk_of h2 h24 (by omega) (fun x hx => m.inf x (hs.subset hx)) ((apart_of m.busyF m.dirF).sublist hs)
theorem metF_len : (metK (genF n)).length = n * (n - 1) := by
  have m := meetF h2 h24
  rw [metK_len m.ordF fun x hx => (m.inf x hx).2.2.2, m.twoF]
theorem metD_len : n * (n - 1) ≤ (metK (genD n)).length := by
  rw [← metF_len h2 h24]
  refine nodup_len (metK_nodup _) fun p hp => ?_
  obtain ⟨x, hx, h⟩ := (metK_mem _ p).1 hp
  exact (metK_mem _ p).2 ⟨x, List.mem_append.2 (.inl hx), h⟩
theorem metX_len {k : Nat} (hk : k < (genF n).length) : (metK ((genF n).take k ++ (genF n).drop (k + 1))).length < n * (n - 1) := by
  have m := meetF h2 h24
  have hs := fewer_sub (l := genF n) (k := k)
  rw [metK_len (List.Pairwise.sublist (hs.map _) m.ordF) fun x hx => (m.inf x (hs.subset hx)).2.2.2, ← m.twoF]
  simp only [List.length_append, List.length_take, List.length_drop]
  omega
theorem homeX {k : Nat} (hk : k < (genF n).length) : (tally ((genF n).take k ++ (genF n).drop (k + 1)) (List.replicate n 0))[(genF n)[k].home.toNat]?.getD 0 = (tally (genF n) (List.replicate n 0))[(genF n)[k].home.toNat]?.getD 0 - 1 := by
  have m := meetF h2 h24
  obtain ⟨_, a, _, _⟩ := m.inf _ (List.getElem_mem hk)
  have hlt : (genF n)[k].home.toNat < (List.replicate n (0 : Int)).length := by simp; omega
  rw [tally_at hlt, tally_at hlt, homeN_out hk]
  simp
end
end Go.Proofs.YtiggikjbknoohaaGreatDoor
