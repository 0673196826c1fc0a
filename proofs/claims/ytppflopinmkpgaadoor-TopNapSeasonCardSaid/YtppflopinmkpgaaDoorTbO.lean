/- Plain law: teams with the same figures. -/
import Derived.Test.YtppflopinmkpgaaDoorStA
import Derived.Test.YtppflopinmkpgaaDoorTcB
noncomputable section
namespace Go.Proofs.YtppflopinmkpgaaDoor
open Go Go.Den
set_option maxRecDepth 100000

/-- the rows before i with the figures a, by their numbers -/
def idxs (t : List Rw) (a : Fg) (i : Nat) : List Int := ((List.range i).filter fun j => decide (t[j]?.map figL = some a)).map fun (j : Nat) => (j : Int)
section
variable {t : List Rw} {a b : Fg} {i : Nat}
theorem idxs_succ (h : i < t.length) : idxs t a (i + 1) = if figL t[i] = a then idxs t a i ++ [(i : Int)] else idxs t a i := by
  unfold idxs
  rw [List.range_succ, List.filter_append, List.map_append]
  have e : t[i]?.map figL = some (figL t[i]) := by rw [List.getElem?_eq_getElem h]; rfl
  by_cases p : figL t[i] = a
  · have hp : decide (t[i]?.map figL = some a) = true := decide_eq_true (by rw [e, p])
    rw [if_pos p, List.filter_cons, if_pos hp]; rfl
  · have hp : ¬ decide (t[i]?.map figL = some a) = true := by
      rw [decide_eq_true_iff, e]; exact fun h => p (Option.some.inj h)
    rw [if_neg p, List.filter_cons, if_neg hp]; simp
theorem mem_idxs {k : Int} : k ∈ idxs t a i ↔ ∃ j, j < i ∧ k = (j : Int) ∧ t[j]?.map figL = some a := by
  unfold idxs
  rw [List.mem_map]
  constructor
  · rintro ⟨j, hj, rfl⟩
    rw [List.mem_filter, List.mem_range, decide_eq_true_iff] at hj
    exact ⟨j, hj.1, rfl, hj.2⟩
  · rintro ⟨j, h1, rfl, h2⟩
    exact ⟨j, by rw [List.mem_filter, List.mem_range, decide_eq_true_iff]; exact ⟨h1, h2⟩, rfl⟩
theorem idxs_ne {j : Nat} (hab : a ≠ b) (hne : idxs t a i ≠ []) : idxs t a i ≠ idxs t b j := fun e => by
  obtain ⟨k, r, hk⟩ := List.exists_cons_of_ne_nil hne
  have h1 : k ∈ idxs t a i := by rw [hk]; exact List.mem_cons_self ..
  have h2 : k ∈ idxs t b j := by rw [← e]; exact h1
  obtain ⟨u, _, rfl, hu⟩ := mem_idxs.1 h1
  obtain ⟨v, _, e2, hv⟩ := mem_idxs.1 h2
  have : u = v := by omega
  subst this
  rw [hu] at hv
  exact hab (Option.some.inj hv)
theorem idxs_len : (idxs t a i).length ≤ i := by
  unfold idxs
  rw [List.length_map]
  exact Nat.le_trans (List.length_filter_le _ _) (by rw [List.length_range]; exact Nat.le_refl _)
end
/-- the matches of teams in a list -/
def onlyL (ks : List Int) (l : List Ma) : List Ma := l.filter fun m => (ks.any fun x => m.home == x) && (ks.any fun x => m.away == x)
def figA (x : Rw) : Fg := (x.pts, x.fr - x.ag, 0)
theorem among_idxs {r : Ru} {n : Nat} {l : List Ma} (hl : ∀ m ∈ l, MaOk n m) {a : Fg} {i : Nat} (ha : (rowsF r n l)[i]?.map figL = some a) :
    ∀ x, (rowsF r n (onlyL (idxs (rowsF r n l) a n) l))[i]? = some x → amongL r n l i = figA x := by
  intro x hx
  have e : (l.filter fun m => decide ((rowsF r n l)[m.home.toNat]?.map figL = (rowsF r n l)[i]?.map figL) && decide ((rowsF r n l)[m.away.toNat]?.map figL = (rowsF r n l)[i]?.map figL)) = onlyL (idxs (rowsF r n l) a n) l := by
    unfold onlyL
    refine List.filter_congr fun m hm => ?_
    have key : ∀ k : Int, 0 ≤ k ∧ k < n → decide ((rowsF r n l)[k.toNat]?.map figL = (rowsF r n l)[i]?.map figL) = (idxs (rowsF r n l) a n).any fun x => k == x := fun k hk => by
      rw [ha, Bool.eq_iff_iff, decide_eq_true_iff, List.any_eq_true]
      constructor
      · intro h
        exact ⟨k, mem_idxs.2 ⟨k.toNat, by omega, by omega, h⟩, by simp⟩
      · rintro ⟨y, hy, e⟩
        have : k = y := by simpa using e
        subst this
        obtain ⟨j, _, e2, h⟩ := mem_idxs.1 hy
        have : k.toNat = j := by omega
        rw [this]; exact h
    rw [key _ (hl m hm).home, key _ (hl m hm).away]
  unfold amongL
  simp only [e, hx]
  rfl
end Go.Proofs.YtppflopinmkpgaaDoor
/- Plain law: lists of matches without an error. -/
noncomputable section
namespace Go.Proofs.YtppflopinmkpgaaDoor
open Go Go.Den
set_option maxRecDepth 100000

theorem firstL_zeroC {l : List Int} : firstL l = 0 ↔ ∀ x ∈ l, x = 0 := by
  constructor
  · intro h x hx
    obtain ⟨i, hi, rfl⟩ := List.getElem_of_mem hx
    by_cases e : ∃ j, ∃ hj : j < l.length, l[j] ≠ 0
    · exfalso
      have key : ∀ n j (hj : j < l.length), j ≤ n → l[j] ≠ 0 → firstL l ≠ 0 := by
        intro n
        induction n with
        | zero =>
          intro j hj hn hne
          obtain rfl : j = 0 := by omega
          rw [firstL_at hj (by intros; omega) hne]; exact hne
        | succ n ih =>
          intro j hj hn hne
          by_cases q : ∃ k, ∃ hk : k < l.length, k ≤ n ∧ l[k] ≠ 0
          · obtain ⟨k, hk, h1, h2⟩ := q
            exact ih k hk h1 h2
          · rw [firstL_at hj (fun k hk hkj => by
              by_cases z : l[k] = 0
              · exact z
              · exact absurd ⟨k, hk, by omega, z⟩ q) hne]
            exact hne
      obtain ⟨j, hj, hne⟩ := e
      exact key j j hj (Nat.le_refl _) hne h
    · by_cases z : l[i] = 0
      · exact z
      · exact absurd ⟨i, hi, z⟩ e
  · intro h
    exact firstL_none fun j hj => h _ (List.getElem_mem hj)
theorem whenL_zeroC {b : Bool} {e : Int} (he : e ≠ 0) : whenL b e = 0 ↔ b = false := by
  cases b
  · simp [whenL]
  · simp [whenL, he]
structure MBase (n : Int) (m : Ma) : Prop where
  known : [m.home, m.away].any (unknownL n) = false
  ne : (m.home == m.away) = false
  kind : isKind m.kind = true
  fr : outL m.fr 0 99 = false
  ag : outL m.ag 0 99 = false
  walk : walkB m = false
theorem pairL_zeroC {n a b : Int} : pairL n a b = 0 ↔ [a, b].any (unknownL n) = false ∧ (a == b) = false := by
  unfold pairL
  rw [firstL_zeroC]
  constructor
  · intro h
    exact ⟨(whenL_zeroC (by omega)).1 (h _ (List.mem_cons_self ..)), (whenL_zeroC (by omega)).1 (h _ (List.mem_cons_of_mem _ (List.mem_cons_self ..)))⟩
  · rintro ⟨h1, h2⟩ x hx
    simp only [List.mem_cons, List.not_mem_nil, or_false] at hx
    rcases hx with rfl | rfl
    · rw [h1]; rfl
    · rw [h2]; rfl
theorem mErr_zero {n : Int} {pre : List Ma} {m : Ma} : mErr n pre m = 0 ↔ MBase n m ∧ pre.any (sameM m) = false := by
  unfold mErr
  rw [firstL_zeroC]
  simp only [List.mem_cons, List.not_mem_nil, or_false, forall_eq_or_imp, forall_eq, whenL_zeroC (by omega : (13 : Int) ≠ 0), whenL_zeroC (by omega : (3 : Int) ≠ 0), whenL_zeroC (by omega : (1 : Int) ≠ 0), whenL_zeroC (by omega : (17 : Int) ≠ 0), pairL_zeroC]
  constructor
  · rintro ⟨⟨h1, h2⟩, h3, h4, h5, h6, h7⟩
    exact ⟨⟨h1, h2, by simpa using h3, h4, h5, h6⟩, h7⟩
  · rintro ⟨⟨h1, h2, h3, h4, h5, h6⟩, h7⟩
    exact ⟨⟨h1, h2⟩, by simp [h3], h4, h5, h6, h7⟩
theorem chkM_zero {n : Int} {l : List Ma} : chkM n l = 0 ↔ topM n l = 0 ∧ (∀ m ∈ l, MBase n m) ∧ l.Pairwise fun x y => sameM y x = false := by
  unfold chkM
  constructor
  · intro h
    split at h
    · rename_i ht
      refine ⟨ht, ?_⟩
      have hh : ∀ i (hi : i < l.length), mErr n (l.take i) l[i] = 0 := fun i hi => by
        have := firstL_zeroC.1 h (errG (mErr n) l i) (List.mem_map.2 ⟨i, List.mem_range.2 hi, rfl⟩)
        rwa [errG_at hi] at this
      refine ⟨fun m hm => ?_, ?_⟩
      · obtain ⟨i, hi, rfl⟩ := List.getElem_of_mem hm
        exact (mErr_zero.1 (hh i hi)).1
      · rw [List.pairwise_iff_getElem]
        intro i j hi hj hij
        have := (mErr_zero.1 (hh j hj)).2
        rw [List.any_eq_false] at this
        have hm : l[i] ∈ l.take j := by
          have hlt : i < (l.take j).length := by rw [List.length_take]; omega
          have := List.getElem_mem hlt
          rwa [List.getElem_take] at this
        simpa using this _ hm
    · rename_i ht; exact absurd h ht
  · rintro ⟨h1, h2, h3⟩
    rw [if_pos h1]
    refine restG_none fun j hj => ?_
    rw [errG_at hj, mErr_zero]
    refine ⟨h2 _ (List.getElem_mem hj), anyG_f fun i hi hij => ?_⟩
    exact (List.pairwise_iff_getElem.1 h3) i j hi hj hij
theorem ma_ok {N : Nat} {m : Ma} (h : MBase (N : Int) m) : MaOk N m := by
  obtain ⟨h1, h2, h3, h4, h5, h6⟩ := h
  simp only [List.any_cons, List.any_nil, Bool.or_false, Bool.or_eq_false_iff, unknownL, decide_eq_false_iff_not] at h1
  simp only [outL, decide_eq_false_iff_not] at h4 h5
  have h2 : m.home ≠ m.away := by simpa using h2
  refine ⟨by omega, by omega, h2, h3, by omega, by omega, fun hs => ?_⟩
  by_cases hk : m.kind = kPlayed
  · exact absurd (by simp [sideL, hk]) hs
  · simp only [walkB, hk, decide_false, Bool.not_false, Bool.true_and, Bool.or_eq_false_iff] at h6
    exact ⟨by simpa using h6.1, by simpa using h6.2⟩
theorem ru_ok {r : Ru} (h : ruleL r = 0) : RuOk r := by
  unfold ruleL at h
  split at h
  · omega
  · rename_i h1
    split at h
    · omega
    · rename_i h2
      simp only [Bool.or_eq_true, not_or, outL, decide_eq_true_eq] at h1
      exact ⟨by omega, by omega, by omega, by omega, by omega⟩
theorem top_ok {n : Int} {l : List Ma} (h : topM n l = 0) : (2 ≤ n ∧ n ≤ 24) ∧ l.length ≤ 600 := by
  unfold topM at h
  rw [firstL_zeroC] at h
  have h1 := (whenL_zeroC (by omega)).1 (h _ (List.mem_cons_self ..))
  have h2 := (whenL_zeroC (by omega)).1 (h _ (List.mem_cons_of_mem _ (List.mem_cons_self ..)))
  simp only [outL, decide_eq_false_iff_not] at h1 h2
  exact ⟨by omega, by omega⟩
end Go.Proofs.YtppflopinmkpgaaDoor
