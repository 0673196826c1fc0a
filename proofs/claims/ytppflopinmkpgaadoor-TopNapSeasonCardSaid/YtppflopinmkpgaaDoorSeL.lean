/- TopNapSeason: the season, in plain Lean. -/
import Derived.Test.YtppflopinmkpgaaDoorSeA
import Derived.Test.YtppflopinmkpgaaDoorFxC
import Derived.Test.YtppflopinmkpgaaDoorTiB
import Derived.Test.YtppflopinmkpgaaDoorEiA
noncomputable section
namespace Go.Proofs.YtppflopinmkpgaaDoor
open Go Go.Den Go.Den.Title
set_option maxRecDepth 100000

/-- the number of which a score is drawn -/
def scS (sc : List (Fin 256)) (i : Nat) : Nat := match sc[i % sc.length]? with
  | some x => x.val + i / sc.length
  | none => 0
def maS (sc : List (Fin 256)) (i : Nat) (f : Fx) : Ma := ⟨f.home, f.away, ((scS sc i % 4 : Nat) : Int), ((scS sc i / 4 % 4 : Nat) : Int), kPlayed⟩
def lstS (n : Nat) (sc : List (Fin 256)) : List Ma := (genD n).mapIdx (maS sc)
def ruS : Ru := ⟨2, 1, 0, 0⟩
def evenM (m : Ma) : Bool := m.fr == m.ag
/-- whoever plays, by number -/
def hasP (i : Int) (p : Int × Int) : Bool := p.1 == i || p.2 == i
def dirD (n : Nat) : List (Int × Int) := (genD n).map fun f => (f.home, f.away)
def okD (n : Nat) : Bool :=
  decide ((dirD n).length = n * (n - 1)) && ((dirD n).all fun p => decide (0 ≤ p.1) && decide (p.1 < n) && decide (0 ≤ p.2) && decide (p.2 < n) && decide (p.1 ≠ p.2)) && decide ((dirD n).Nodup) &&
  (List.range n).all fun i => decide (((dirD n).filter (hasP i)).length = 2 * (n - 1)) && decide (((dirD n).filter fun p => !hasP i p).length = (n - 1) * (n - 2)) &&
    (List.range n).all fun j => decide (j = i) || decide ((((dirD n).filter fun p => !hasP i p).filter (hasP j)).length = 2 * (n - 2))
theorem okD_all : ∀ n : Fin 7, 2 ≤ n.val → okD n.val = true := by decide +kernel

section
variable {n : Nat} {sc : List (Fin 256)}
theorem lstS_dir : (lstS n sc).map dirM = dirD n := by
  unfold lstS dirD
  refine List.ext_getElem (by simp) fun i h1 h2 => by simp [maS, dirM]
theorem lstS_len : (lstS n sc).length = (genD n).length := by simp [lstS]
theorem lstS_get {i : Nat} (h : i < (genD n).length) : (lstS n sc)[i]'(by rw [lstS_len]; exact h) = maS sc i (genD n)[i] := by simp [lstS]
structure OkD (n : Nat) : Prop where
  len : (dirD n).length = n * (n - 1)
  each : ∀ p ∈ dirD n, 0 ≤ p.1 ∧ p.1 < n ∧ 0 ≤ p.2 ∧ p.2 < n ∧ p.1 ≠ p.2
  nd : (dirD n).Nodup
  cnt : ∀ i, i < n → ((dirD n).filter (hasP i)).length = 2 * (n - 1)
  rest : ∀ i, i < n → ((dirD n).filter fun p => !hasP i p).length = (n - 1) * (n - 2)
  cntR : ∀ i, i < n → ∀ j, j < n → j ≠ i → (((dirD n).filter fun p => !hasP i p).filter (hasP j)).length = 2 * (n - 2)
theorem okD_of (h2 : 2 ≤ n) (h6 : n ≤ 6) : OkD n := by
  have h := okD_all ⟨n, by omega⟩ h2
  simp only [okD, Bool.and_eq_true, decide_eq_true_eq, List.all_eq_true, List.mem_range, Bool.or_eq_true] at h
  obtain ⟨⟨⟨h1, h2⟩, h3⟩, h4⟩ := h
  exact ⟨h1, fun p hp => by obtain ⟨⟨⟨⟨a, b⟩, c⟩, d⟩, e⟩ := h2 p hp; exact ⟨a, b, c, d, e⟩, h3, fun i hi => (h4 i hi).1.1, fun i hi => (h4 i hi).1.2, fun i hi j hj hne => ((h4 i hi).2 j hj).resolve_left hne⟩
theorem lstS_mem (h : OkD n) : ∀ m ∈ lstS n sc, MBase (n : Int) m := by
  intro m hm
  have hd : dirM m ∈ dirD n := by rw [← lstS_dir (sc := sc)]; exact List.mem_map.2 ⟨m, hm, rfl⟩
  obtain ⟨a, b, c, d, e⟩ := h.each _ hd
  simp only [dirM] at a b c d e
  obtain ⟨i, hi, rfl⟩ := List.getElem_of_mem hm
  rw [lstS_len] at hi
  rw [lstS_get hi] at *
  simp only [maS] at a b c d e ⊢
  refine ⟨?_, ?_, rfl, ?_, ?_, rfl⟩
  · simp [unknownL]; omega
  · simpa using e
  · simp [outL]; omega
  · simp [outL]; omega
theorem lstS_pw (h : OkD n) : (lstS n sc).Pairwise fun x y => sameM y x = false := by
  have := h.nd
  rw [← lstS_dir (sc := sc)] at this
  unfold List.Nodup at this
  rw [List.pairwise_map] at this
  refine this.imp fun {a b} hne => ?_
  unfold sameM
  rw [Bool.and_eq_false_iff]
  apply Classical.byContradiction
  intro hh
  rw [not_or] at hh
  apply hne
  simp only [Bool.not_eq_false, beq_iff_eq] at hh
  simp only [dirM, Prod.mk.injEq]
  exact hh
theorem chk_sub {l : List Ma} (h2 : 2 ≤ n) (h6 : n ≤ 6) (hs : l.Sublist (lstS n sc)) : chkM n l = 0 := by
  have h := okD_of h2 h6
  have hlen : (lstS n sc).length ≤ 30 := by
    rw [lstS_len]
    have e : (dirD n).length = (genD n).length := by simp [dirD]
    rw [← e, h.len]
    exact Nat.le_trans (Nat.mul_le_mul h6 (Nat.sub_le_sub_right h6 1)) (by decide)
  have := hs.length_le
  rw [chkM_zero]
  refine ⟨?_, fun m hm => lstS_mem h m (hs.subset hm), (lstS_pw h).sublist hs⟩
  unfold topM
  rw [firstL_zeroC]
  intro x hx
  simp only [List.mem_cons, List.not_mem_nil, or_false] at hx
  rcases hx with rfl | rfl
  · have : outL (n : Int) 2 24 = false := by simp [outL]; omega
    rw [this]; rfl
  · have : decide ((l.length : Int) > 600) = false := by simp; omega
    rw [this]; rfl

/-! ### how often teams play -/
theorem played_count {r : Ru} {i : Nat} : ∀ {l : List Ma} {x : Rw}, (∀ m ∈ l, MaOk n m) → (l.foldl (stepI r i) x).played = x.played + (((l.map dirM).filter (hasP (i : Int))).length : Int)
  | [], x, _ => by simp
  | m :: l, x, h => by
    have hm := h m (List.mem_cons_self ..)
    have h1 := hm.home
    have h2 := hm.away
    have h3 := hm.ne
    rw [List.foldl_cons, played_count fun m' hm' => h m' (List.mem_cons_of_mem _ hm'), List.map_cons, List.filter_cons]
    have e : hasP (i : Int) (dirM m) = (decide (m.home.toNat = i) || decide (m.away.toNat = i)) := by
      rw [Bool.eq_iff_iff]
      simp only [hasP, dirM, Bool.or_eq_true, beq_iff_eq, decide_eq_true_eq]
      omega
    rw [e]
    unfold stepI
    by_cases a : m.home.toNat = i
    · have b : ¬ m.away.toNat = i := by omega
      simp [a, b, addR]; omega
    · by_cases b : m.away.toNat = i
      · simp [a, b, addR]; omega
      · simp [a, b]
theorem rows_played {r : Ru} {l : List Ma} (hl : ∀ m ∈ l, MaOk n m) {i : Nat} (h : i < (rowsF r n l).length) : (rowsF r n l)[i].played = (((l.map dirM).filter (hasP (i : Int))).length : Int) := by
  have hn : i < n := by rwa [rowsF_len] at h
  have e := rowsF_get (r := r) (l := l) hn
  rw [List.getElem?_eq_getElem h, Option.some.injEq] at e
  rw [e, played_count hl]
  simp [zeroR]
/-- a row of the table is the row of its team -/
theorem table_of {r : Ru} {l : List Ma} {i : Nat} (h : i < (tableL r n l).length) : ∃ j, ∃ hj : j < (rowsF r n l).length, (tableL r n l)[i].team = (j : Int) ∧ (tableL r n l)[i] = { (rowsF r n l)[j] with rank := (tableL r n l)[i].rank } := by
  have hn : i < n := by rwa [table_len] at h
  obtain ⟨j, hj, e⟩ := sorted_mem (r := r) (n := n) (l := l) (i := i) (by rw [sorted_len]; exact hn)
  refine ⟨j, hj, ?_, ?_⟩
  · rw [table_get hn, e]; exact (rowsF_ok hj).team
  · rw [table_get hn, e]
theorem restM_dir {g : Int} {l : List Ma} : (restM g l).map dirM = (l.map dirM).filter fun p => !hasP g p := by
  unfold restM
  rw [List.filter_map]
  congr 1
  refine List.filter_congr fun m _ => ?_
  simp [playsM, hasP, dirM]
end

/-! ### sums -/
def evenN' (l : List Ma) : Nat := (l.filter evenM).length
theorem sum_drawn {r : Ru} {n : Nat} {l : List Ma} (hl : ∀ m ∈ l, MaOk n m) (hk : ∀ m ∈ l, m.kind = kPlayed) : sumR (·.drawn) (rowsF r n l) = 2 * (evenN' l : Int) := by
  suffices hh : ∀ (l : List Ma) (t : List Rw), t.length = n → (∀ m ∈ l, MaOk n m) → (∀ m ∈ l, m.kind = kPlayed) → sumR (·.drawn) (l.foldl (stepR r) t) = sumR (·.drawn) t + 2 * (evenN' l : Int) by
    have := hh l (initR n) (by simp [initR]) hl hk
    rw [sum_init (fun _ => rfl)] at this
    unfold rowsF
    omega
  intro l
  induction l with
  | nil => intro t _ _ _; simp [evenN']
  | cons m l ih =>
    intro t ht hl hk
    have hm := hl m (List.mem_cons_self ..)
    have h1 : m.home.toNat < t.length := by have := hm.home; omega
    have h2 : m.away.toNat < t.length := by have := hm.away; omega
    rw [List.foldl_cons, ih _ (by rw [stepR_len, ht]) (fun m' h => hl m' (List.mem_cons_of_mem _ h)) (fun m' h => hk m' (List.mem_cons_of_mem _ h))]
    have hw : winL r m = m.fr - m.ag := by
      have : sideL m.kind = 0 := by rw [hk m (List.mem_cons_self ..)]; rfl
      simp [winL, this]
    have d1 : sumR (·.drawn) (stepR r t m) = sumR (·.drawn) t + (if winL r m = 0 then 1 else 0) + (if - winL r m = 0 then 1 else 0) := by
      unfold stepR
      rw [sum_modify (d := if - winL r m = 0 then 1 else 0) (fun x => rfl) _ _ (by simpa using h2), sum_modify (d := if winL r m = 0 then 1 else 0) (fun x => rfl) _ _ h1]
    rw [d1, hw]
    unfold evenN'
    rw [List.filter_cons]
    by_cases e : m.fr = m.ag
    · have : evenM m = true := by simp [evenM, e]
      rw [this, if_pos (by omega), if_pos (by omega), if_pos rfl, List.length_cons]
      omega
    · have : evenM m = false := by simp [evenM, e]
      rw [this, if_neg (by omega), if_neg (by omega)]
      simp
theorem sumR_add {f g : Rw → Int} : ∀ (t : List Rw), sumR (fun x => f x + g x) t = sumR f t + sumR g t
  | [] => rfl
  | a :: t => by
    have := sumR_add (f := f) (g := g) t
    simp only [sumR, List.map_cons, List.sum_cons] at this ⊢
    omega
theorem sumR_congr {f g : Rw → Int} {t : List Rw} (h : ∀ x ∈ t, f x = g x) : sumR f t = sumR g t := by
  unfold sumR
  rw [List.map_congr_left h]
theorem table_sum {r : Ru} {n : Nat} {l : List Ma} {f : Rw → Int} (hf : ∀ (x : Rw) (k : Int), f { x with rank := k } = f x) : sumR f (tableL r n l) = sumR f (rowsF r n l) := by
  rw [← sum_perm sorted_perm]
  unfold sumR
  rw [table_map hf]
theorem sum_won {r : Ru} {n : Nat} {l : List Ma} (hl : ∀ m ∈ l, MaOk n m) (hk : ∀ m ∈ l, m.kind = kPlayed) : sumR (·.won) (tableL r n l) = (l.length : Int) - evenN' l ∧ sumR (·.drawn) (tableL r n l) = 2 * (evenN' l : Int) := by
  have hs := sums_rows (r := r) hl
  have hd := sum_drawn (r := r) hl hk
  have hp : sumR (·.played) (rowsF r n l) = sumR (fun x => (x.won + x.drawn) + x.lost) (rowsF r n l) := sumR_congr fun x hx => by
    obtain ⟨i, hi, rfl⟩ := List.getElem_of_mem hx
    exact (rowsF_ok hi).played
  rw [sumR_add (f := fun x => x.won + x.drawn) (g := fun x => x.lost), sumR_add (f := fun x => x.won) (g := fun x => x.drawn)] at hp
  have h1 := hs.wl
  have h2 := hs.pl
  rw [table_sum (fun _ _ => rfl), table_sum (fun _ _ => rfl)]
  exact ⟨by omega, hd⟩

/-! ### the points of a race -/
/-- the points of the first rows -/
def ptsS (T : List Rw) (n k : Nat) : List Int := (List.range n).map fun (i : Nat) => match (T.take k).find? (fun x => x.team == (i : Int)) with
  | some x => x.pts
  | none => 0
section
variable {T : List Rw} {n k : Nat}
theorem ptsS_len : (ptsS T n k).length = n := by simp [ptsS]
theorem ptsS_zero : ptsS T n 0 = List.replicate n 0 := by
  refine List.ext_getElem (by simp [ptsS]) fun i h1 h2 => by simp [ptsS]
theorem find_team (nd : (T.map (·.team)).Nodup) {j : Nat} (hj : j < T.length) (hjk : j < k) : (T.take k).find? (fun x => x.team == T[j].team) = some T[j] := by
  have hm : T[j] ∈ T.take k := by
    have hlt : j < (T.take k).length := by rw [List.length_take]; omega
    have := List.getElem_mem hlt
    rwa [List.getElem_take] at this
  cases hf : (T.take k).find? (fun x => x.team == T[j].team) with
  | none =>
    rw [List.find?_eq_none] at hf
    exact absurd (by simp) (hf _ hm)
  | some y =>
    have h1 := List.find?_some hf
    have h2 := List.mem_of_mem_take (List.mem_of_find?_eq_some hf)
    obtain ⟨i, hi, rfl⟩ := List.getElem_of_mem h2
    have h1 : T[i].team = T[j].team := by simpa using h1
    have := (List.getElem_inj (i := i) (j := j) (h₀ := by simpa using hi) (h₁ := by simpa using hj) nd).1 (by simpa using h1)
    subst this; rfl
theorem ptsS_set (nd : (T.map (·.team)).Nodup) (hk : k < T.length) (h0 : 0 ≤ T[k].team) : (ptsS T n k).set T[k].team.toNat T[k].pts = ptsS T n (k + 1) := by
  refine List.ext_getElem (by simp [ptsS]) fun i h1 h2 => ?_
  rw [List.getElem_set]
  simp only [ptsS, List.getElem_map, List.getElem_range]
  by_cases e : T[k].team.toNat = i
  · rw [if_pos e]
    have e2 : (i : Int) = T[k].team := by omega
    rw [e2, find_team nd hk (by omega)]
  · rw [if_neg e, take_snoc hk, List.find?_append]
    have e2 : (T[k].team == (i : Int)) = false := by simp; omega
    simp only [List.find?_cons, e2, List.find?_nil, Option.or_none]
theorem ptsS_at (nd : (T.map (·.team)).Nodup) {j : Nat} (hj : j < T.length) (h0 : 0 ≤ T[j].team ∧ T[j].team < n) : ptL (ptsS T n T.length) T[j].team = T[j].pts := by
  unfold ptL
  rw [List.getElem?_eq_getElem (by rw [ptsS_len]; omega)]
  simp only [ptsS, List.getElem_map, List.getElem_range, Option.getD_some]
  rw [Int.toNat_of_nonneg h0.1, find_team nd hj hj]
theorem ptsS_mem {y : Int} (h : y ∈ ptsS T n k) : y = 0 ∨ ∃ x ∈ T, y = x.pts := by
  obtain ⟨i, _, rfl⟩ := List.mem_map.1 h
  split
  · rename_i x hx
    exact .inr ⟨x, List.mem_of_mem_take (List.mem_of_find?_eq_some hx), rfl⟩
  · exact .inl rfl
end
/-- the points descend -/
theorem table_desc {r : Ru} {n : Nat} {l : List Ma} (h0 : 0 < n) : ∀ {i : Nat} (h : i < (tableL r n l).length), (tableL r n l)[i].pts ≤ ((tableL r n l)[0]'(by rw [table_len]; exact h0)).pts
  | 0, _ => Int.le_refl _
  | i + 1, h => by
    have hn : i + 1 < n := by rwa [table_len] at h
    have h1 : i < (tableL r n l).length := by omega
    have := (table_next (r := r) (l := l) hn _ _ (List.getElem?_eq_getElem h1) (List.getElem?_eq_getElem h)).1
    have := table_desc (r := r) (l := l) h0 h1
    omega
/-- the first team can be first in a race without open matches, the others just if they have as many points -/
theorem first_best {P : List Int} (hg : GoodR P []) {team top : Int} (hle : ∀ y ∈ P, y ≤ top) : ptL P team = top → bestL P [] team = [] := fun h => by
  refine none_of_wins hg (wins_of_title (points := []) ?_)
  unfold titleF
  rw [if_neg (by simp), if_neg (by simp), List.map_nil, totL_nil]
  have : (P.any fun y => decide (y > ptL P team + asg team [] [])) = false := by
    rw [List.any_eq_false]
    intro y hy
    have := hle y hy
    simp [asg]; omega
  rw [this]; rfl
theorem title_top {P : List Int} {team : Int} (h : titleF P [] team [] = 0) : ∀ y ∈ P, y ≤ ptL P team := by
  unfold titleF at h
  rw [if_neg (by simp), if_neg (by simp), List.map_nil, totL_nil] at h
  have h := whenL_zero h (by decide)
  rw [List.any_eq_false] at h
  intro y hy
  have := h y hy
  simp [asg] at this; omega
/-- what the law asks of each row -/
structure RowT (n : Nat) (x : Rw) : Prop where
  team : 0 ≤ x.team ∧ x.team < n
  played : x.played = 2 * ((n : Int) - 1)
  sum : x.won + x.drawn + x.lost = x.played
  pts : x.pts = 2 * x.won + x.drawn
  bd : (0 ≤ x.won ∧ x.won ≤ 1000) ∧ (0 ≤ x.drawn ∧ x.drawn ≤ 1000) ∧ (0 ≤ x.lost ∧ x.lost ≤ 1000) ∧ (0 ≤ x.pts ∧ x.pts ≤ 99000)
theorem ruS_ok : ruleL ruS = 0 := rfl
section
variable {n : Nat} {sc : List (Fin 256)} (h2 : 2 ≤ n) (h6 : n ≤ 6)
include h2 h6
theorem rowT {i : Nat} (h : i < (tableL ruS n (lstS n sc)).length) : RowT n (tableL ruS n (lstS n sc))[i] := by
  have hd := okD_of h2 h6
  have hl : ∀ m ∈ lstS n sc, MaOk n m := fun m hm => ma_ok (lstS_mem hd m hm)
  have hi : i < n := by rwa [table_len] at h
  obtain ⟨a, b, c⟩ := table_row hi _ (List.getElem?_eq_getElem h)
  obtain ⟨j, hj, e1, e2⟩ := table_of h
  have hjn : j < n := by rwa [rowsF_len] at hj
  have hp := rows_played hl hj
  rw [lstS_dir, hd.cnt j hjn] at hp
  have hlen : (lstS n sc).length ≤ 1000 := by have := (top_ok (chkM_zero.1 (chk_sub h2 h6 (.refl (lstS n sc)))).1).2; omega
  obtain ⟨_, b1, b2, b3, _, _, b4⟩ := table_bd (ru_ok ruS_ok) (by omega) hl hlen h
  refine ⟨a, ?_, b.symm, ?_, b1, b2, b3, b4⟩
  · rw [e2]; simp only; rw [hp]; omega
  · rw [c]; simp only [ruS]; omega
structure RowU (n : Nat) (g : Int) (x : Rw) : Prop where
  other : x.team ≠ g → x.played = 2 * ((n : Int) - 2)
  own : x.team = g → x.played = 0 ∧ x.pts = 0
theorem rowU {g : Nat} (hgn : g < n) {i : Nat} (h : i < (tableL ruS n (restM g (lstS n sc))).length) : RowU n g (tableL ruS n (restM g (lstS n sc)))[i] := by
  have hd := okD_of h2 h6
  have hl : ∀ m ∈ restM g (lstS n sc), MaOk n m := fun m hm => ma_ok (lstS_mem hd m (List.mem_filter.1 hm).1)
  have hi : i < n := by rwa [table_len] at h
  obtain ⟨a, b, c⟩ := table_row hi _ (List.getElem?_eq_getElem h)
  obtain ⟨j, hj, e1, e2⟩ := table_of h
  have hjn : j < n := by rwa [rowsF_len] at hj
  have hp := rows_played hl hj
  rw [restM_dir, lstS_dir] at hp
  have hlen : (restM g (lstS n sc)).length ≤ 1000 := by have := (top_ok (chkM_zero.1 (chk_sub h2 h6 (List.filter_sublist (p := fun m => !playsM [(g : Int)] m) (l := lstS n sc)))).1).2; unfold restM; omega
  obtain ⟨_, b1, b2, b3, _, _, b4⟩ := table_bd (ru_ok ruS_ok) (by omega) hl hlen h
  have epl : (tableL ruS n (restM g (lstS n sc)))[i].played = (rowsF ruS n (restM g (lstS n sc)))[j].played := by rw [e2]
  refine ⟨fun hne => ?_, fun he => ?_⟩
  · rw [epl, hp, hd.cntR g hgn j hjn (by rw [e1] at hne; omega)]; omega
  · have hjg : j = g := by rw [e1] at he; omega
    have hz : (((dirD n).filter fun p => !hasP (g : Int) p).filter (hasP (j : Int))) = [] := by
      rw [hjg, List.filter_eq_nil_iff]
      intro p hp
      have := (List.mem_filter.1 hp).2
      simpa using this
    rw [hz] at hp
    have hp0 : (tableL ruS n (restM g (lstS n sc)))[i].played = 0 := by rw [epl, hp]; rfl
    refine ⟨hp0, ?_⟩
    change _ = _ * 2 + _ * 1 + _ * 0 at c
    omega
end
end Go.Proofs.YtppflopinmkpgaaDoor
