/- Plain law: tables. -/
import Derived.Test.YtppflopinmkpgaaDoorSrL
noncomputable section
namespace Go.Proofs.YtppflopinmkpgaaDoor
open Go Go.Den
set_option maxRecDepth 100000

structure Ma where
  home : Int
  away : Int
  fr : Int
  ag : Int
  kind : ByteArray
structure Ru where
  win : Int
  draw : Int
  loss : Int
  frames : Int
structure Rw where
  team : Int
  played : Int
  won : Int
  drawn : Int
  lost : Int
  fr : Int
  ag : Int
  pts : Int
  rank : Int
def kPlayed : ByteArray := ⟨⟨[112, 108, 97, 121, 101, 100]⟩⟩
def kHome : ByteArray := ⟨⟨[104, 111, 109, 101]⟩⟩
def kAway : ByteArray := ⟨⟨[97, 119, 97, 121]⟩⟩
def isKind (k : ByteArray) : Bool := decide (k = kPlayed) || (decide (k = kHome) || decide (k = kAway))
/-- the side that wins by its kind -/
def sideL (k : ByteArray) : Int := if k = kPlayed then 0 else if k = kHome then 1 else if k = kAway then -1 else 0
def goA (r : Ru) (m : Ma) : Int := if sideL m.kind = 1 then r.frames else m.fr
def goB (r : Ru) (m : Ma) : Int := if sideL m.kind = -1 then r.frames else m.ag
def winL (r : Ru) (m : Ma) : Int := if sideL m.kind = 1 then 1 else if sideL m.kind = -1 then -1 else m.fr - m.ag
def addR (r : Ru) (x : Rw) (own other s : Int) : Rw :=
  { x with played := x.played + 1, fr := x.fr + own, ag := x.ag + other, won := x.won + (if s > 0 then 1 else 0), lost := x.lost + (if s < 0 then 1 else 0), drawn := x.drawn + (if s = 0 then 1 else 0), pts := x.pts + (if s > 0 then r.win else if s < 0 then r.loss else r.draw) }
def zeroR (i : Int) : Rw := ⟨i, 0, 0, 0, 0, 0, 0, 0, 0⟩
/-- a match in the rows -/
def stepR (r : Ru) (t : List Rw) (m : Ma) : List Rw :=
  (t.modify m.home.toNat fun x => addR r x (goA r m) (goB r m) (winL r m)).modify m.away.toNat fun x => addR r x (goB r m) (goA r m) (- winL r m)
def initR (n : Nat) : List Rw := (List.range n).map fun (i : Nat) => zeroR (i : Int)
def rowsF (r : Ru) (n : Nat) (l : List Ma) : List Rw := l.foldl (stepR r) (initR n)
/-- a match in the row of a team -/
def stepI (r : Ru) (i : Nat) (x : Rw) (m : Ma) : Rw :=
  let y := if m.home.toNat = i then addR r x (goA r m) (goB r m) (winL r m) else x
  if m.away.toNat = i then addR r y (goB r m) (goA r m) (- winL r m) else y
theorem stepR_get {r : Ru} {t : List Rw} {m : Ma} {i : Nat} : (stepR r t m)[i]? = (t[i]?).map fun x => stepI r i x m := by
  unfold stepR
  rw [List.getElem?_modify, List.getElem?_modify]
  cases t[i]? <;> rfl
theorem rowsF_get {r : Ru} {n : Nat} {l : List Ma} {i : Nat} (h : i < n) : (rowsF r n l)[i]? = some (l.foldl (stepI r i) (zeroR i)) := by
  suffices hh : ∀ (l : List Ma) (t : List Rw) (x : Rw), t[i]? = some x → (l.foldl (stepR r) t)[i]? = some (l.foldl (stepI r i) x) from hh l _ _ (by simp [initR, h])
  intro l
  induction l with
  | nil => intro t x h; exact h
  | cons m l ih =>
    intro t x h
    exact ih _ _ (by rw [stepR_get, h]; rfl)
theorem stepR_len {r : Ru} {t : List Rw} {m : Ma} : (stepR r t m).length = t.length := by simp [stepR]
theorem rowsF_len {r : Ru} {n : Nat} {l : List Ma} : (rowsF r n l).length = n := by
  suffices hh : ∀ (l : List Ma) (t : List Rw), (l.foldl (stepR r) t).length = t.length from by
    rw [rowsF, hh]; simp [initR]
  intro l
  induction l with
  | nil => intro t; rfl
  | cons m l ih => intro t; exact (ih _).trans stepR_len
/-! ### what holds of each row -/
theorem foldI {r : Ru} {i : Nat} {P : Rw → Prop} (hadd : ∀ x a b s, P x → P (addR r x a b s)) : ∀ (l : List Ma) (x : Rw), P x → P (l.foldl (stepI r i) x)
  | [], x, h => h
  | m :: l, x, h => foldI hadd l _ (by
    unfold stepI
    simp only
    split <;> split <;> first | exact hadd _ _ _ _ (hadd _ _ _ _ h) | exact hadd _ _ _ _ h | exact h)
structure RowOk (r : Ru) (i : Int) (x : Rw) : Prop where
  team : x.team = i
  rank : x.rank = 0
  played : x.played = x.won + x.drawn + x.lost
  pts : x.pts = x.won * r.win + x.drawn * r.draw + x.lost * r.loss
theorem addR_ok {r : Ru} {i : Int} {x : Rw} {a b s : Int} (h : RowOk r i x) : RowOk r i (addR r x a b s) := by
  obtain ⟨h1, h2, h3, h4⟩ := h
  refine ⟨h1, h2, ?_, ?_⟩
  · simp only [addR]
    split <;> split <;> split <;> omega
  · simp only [addR, h4, Int.add_mul]
    by_cases p : s > 0
    · have q1 : ¬ s < 0 := by omega
      have q2 : ¬ s = 0 := by omega
      simp only [p, q1, q2, if_true, if_false, Int.one_mul, Int.zero_mul]; omega
    · by_cases q : s < 0
      · have q2 : ¬ s = 0 := by omega
        simp only [p, q, q2, if_true, if_false, Int.one_mul, Int.zero_mul]; omega
      · have q2 : s = 0 := by omega
        subst q2
        simp only [p, q, if_true, if_false, Int.one_mul, Int.zero_mul]; omega
theorem rowsF_ok {r : Ru} {n : Nat} {l : List Ma} {i : Nat} (h : i < (rowsF r n l).length) : RowOk r i (rowsF r n l)[i] := by
  have hn : i < n := by rwa [rowsF_len] at h
  have e := rowsF_get (r := r) (l := l) hn
  rw [List.getElem?_eq_getElem h, Option.some.injEq] at e
  rw [e]
  exact foldI (P := RowOk r i) (fun x a b s h => addR_ok h) l _ ⟨rfl, rfl, by simp [zeroR], by simp [zeroR]⟩
/-- bounds -/
structure RowBd (k : Int) (x : Rw) : Prop where
  played : 0 ≤ x.played ∧ x.played ≤ k
  won : 0 ≤ x.won ∧ x.won ≤ k
  drawn : 0 ≤ x.drawn ∧ x.drawn ≤ k
  lost : 0 ≤ x.lost ∧ x.lost ≤ k
  fr : 0 ≤ x.fr ∧ x.fr ≤ 99 * k
  ag : 0 ≤ x.ag ∧ x.ag ≤ 99 * k
  pts : 0 ≤ x.pts ∧ x.pts ≤ 99 * k
  team : 0 ≤ x.team ∧ x.team ≤ 24
  rank : x.rank = 0
structure RuOk (r : Ru) : Prop where
  win : 0 ≤ r.win ∧ r.win ≤ 99
  draw : 0 ≤ r.draw ∧ r.draw ≤ 99
  loss : 0 ≤ r.loss ∧ r.loss ≤ 99
  frames : 0 ≤ r.frames ∧ r.frames ≤ 99
  ord : r.draw ≤ r.win ∧ r.loss ≤ r.draw
theorem addR_bd {r : Ru} (hr : RuOk r) {k : Int} {x : Rw} {a b s : Int} (h : RowBd k x) (ha : 0 ≤ a ∧ a ≤ 99) (hb : 0 ≤ b ∧ b ≤ 99) : RowBd (k + 1) (addR r x a b s) := by
  obtain ⟨h1, h2, h3, h4, h5, h6, h7, h8, h9⟩ := h
  obtain ⟨r1, r2, r3, r4, r5⟩ := hr
  refine ⟨?_, ?_, ?_, ?_, ?_, ?_, ?_, h8, h9⟩ <;> simp only [addR] <;> (try split) <;> (try split) <;> omega
theorem RowBd.le {k j : Int} {x : Rw} (h : RowBd k x) (hk : k ≤ j) : RowBd j x := by
  obtain ⟨h1, h2, h3, h4, h5, h6, h7, h8, h9⟩ := h
  exact ⟨by omega, by omega, by omega, by omega, by omega, by omega, by omega, h8, h9⟩
structure MaOk (n : Nat) (m : Ma) : Prop where
  home : 0 ≤ m.home ∧ m.home < n
  away : 0 ≤ m.away ∧ m.away < n
  ne : m.home ≠ m.away
  kind : isKind m.kind = true
  fr : 0 ≤ m.fr ∧ m.fr ≤ 99
  ag : 0 ≤ m.ag ∧ m.ag ≤ 99
  walk : sideL m.kind ≠ 0 → m.fr = 0 ∧ m.ag = 0
theorem goA_bd {r : Ru} (hr : RuOk r) {n : Nat} {m : Ma} (h : MaOk n m) : 0 ≤ goA r m ∧ goA r m ≤ 99 := by
  unfold goA; have := hr.frames; have := h.fr; split <;> omega
theorem goB_bd {r : Ru} (hr : RuOk r) {n : Nat} {m : Ma} (h : MaOk n m) : 0 ≤ goB r m ∧ goB r m ≤ 99 := by
  unfold goB; have := hr.frames; have := h.ag; split <;> omega
theorem stepI_bd {r : Ru} (hr : RuOk r) {n i : Nat} {m : Ma} (h : MaOk n m) {k : Int} {x : Rw} (hx : RowBd k x) : RowBd (k + 1) (stepI r i x m) := by
  have a := goA_bd hr h
  have b := goB_bd hr h
  have hne := h.ne
  have h1 := h.home
  have h2 := h.away
  unfold stepI
  simp only
  by_cases p : m.home.toNat = i
  · rw [if_pos p, if_neg (by omega)]
    exact addR_bd hr hx a b
  · rw [if_neg p]
    split
    · exact addR_bd hr hx b a
    · exact hx.le (by omega)
theorem foldI_bd {r : Ru} (hr : RuOk r) {n i : Nat} : ∀ (l : List Ma) (k : Int) (x : Rw), (∀ m ∈ l, MaOk n m) → RowBd k x → RowBd (k + l.length) (l.foldl (stepI r i) x)
  | [], k, x, _, h => by simpa using h
  | m :: l, k, x, hl, h => by
    have := foldI_bd hr (i := i) l (k + 1) (stepI r i x m) (fun m' hm => hl m' (List.mem_cons_of_mem _ hm)) (stepI_bd hr (hl m (List.mem_cons_self ..)) h)
    rw [List.foldl_cons, List.length_cons]
    exact this.le (by omega)
theorem rowsF_bd {r : Ru} (hr : RuOk r) {n : Nat} (hn : n ≤ 24) {l : List Ma} (hl : ∀ m ∈ l, MaOk n m) {i : Nat} (h : i < (rowsF r n l).length) : RowBd l.length (rowsF r n l)[i] := by
  have hn' : i < n := by rwa [rowsF_len] at h
  have e := rowsF_get (r := r) (l := l) hn'
  rw [List.getElem?_eq_getElem h, Option.some.injEq] at e
  rw [e]
  have := foldI_bd hr (i := i) l 0 (zeroR i) hl ⟨by simp [zeroR], by simp [zeroR], by simp [zeroR], by simp [zeroR], by simp [zeroR], by simp [zeroR], by simp [zeroR], by simp only [zeroR]; omega, rfl⟩
  exact this.le (by omega)

/-! ### sums over all rows -/
def sumR (f : Rw → Int) (t : List Rw) : Int := (t.map f).sum
theorem sum_modify {f : Rw → Int} {g : Rw → Rw} {d : Int} (hg : ∀ x, f (g x) = f x + d) : ∀ (t : List Rw) (i : Nat), i < t.length → sumR f (t.modify i g) = sumR f t + d
  | [], i, h => by simp at h
  | a :: t, 0, _ => by simp [sumR, hg]; omega
  | a :: t, i + 1, h => by
    have := sum_modify hg t i (by simpa using h)
    simp only [sumR, List.modify_succ_cons, List.map_cons, List.sum_cons] at this ⊢
    omega
theorem sum_init {f : Rw → Int} (h : ∀ i, f (zeroR i) = 0) : ∀ n, sumR f (initR n) = 0
  | 0 => rfl
  | n + 1 => by
    have := sum_init h n
    simp only [sumR, initR, List.range_succ, List.map_append, List.map_cons, List.map_nil, List.sum_append, List.sum_cons, List.sum_nil, h] at this ⊢
    omega
structure Sums (t : List Rw) (k : Int) : Prop where
  wl : sumR (·.won) t = sumR (·.lost) t
  gt : sumR (·.fr) t = sumR (·.ag) t
  pl : sumR (·.played) t = 2 * k
  dr : sumR (·.drawn) t % 2 = 0
theorem sums_step {r : Ru} {n : Nat} {t : List Rw} {m : Ma} {k : Int} (hm : MaOk n m) (ht : t.length = n) (h : Sums t k) : Sums (stepR r t m) (k + 1) := by
  have h1 : m.home.toNat < t.length := by have := hm.home; omega
  have h2 : m.away.toNat < t.length := by have := hm.away; omega
  have two : ∀ (f : Rw → Int) (d e : Int), (∀ x, f (addR r x (goA r m) (goB r m) (winL r m)) = f x + d) → (∀ x, f (addR r x (goB r m) (goA r m) (- winL r m)) = f x + e) → sumR f (stepR r t m) = sumR f t + d + e := by
    intro f d e hd he
    unfold stepR
    rw [sum_modify he _ _ (by simpa using h2), sum_modify hd _ _ h1]
  have w := two (·.won) _ _ (fun x => rfl) (fun x => rfl)
  have l := two (·.lost) _ _ (fun x => rfl) (fun x => rfl)
  have d := two (·.drawn) _ _ (fun x => rfl) (fun x => rfl)
  have p := two (·.played) _ _ (fun x => rfl) (fun x => rfl)
  have f := two (·.fr) _ _ (fun x => rfl) (fun x => rfl)
  have a := two (·.ag) _ _ (fun x => rfl) (fun x => rfl)
  obtain ⟨s1, s2, s3, s4⟩ := h
  refine ⟨?_, ?_, ?_, ?_⟩
  · rw [w, l]
    split <;> split <;> split <;> split <;> omega
  · rw [f, a]; omega
  · rw [p]; omega
  · rw [d]
    split <;> split <;> omega
theorem sums_rows {r : Ru} {n : Nat} {l : List Ma} (hl : ∀ m ∈ l, MaOk n m) : Sums (rowsF r n l) l.length := by
  suffices hh : ∀ (l : List Ma) (t : List Rw) (k : Int), t.length = n → (∀ m ∈ l, MaOk n m) → Sums t k → Sums (l.foldl (stepR r) t) (k + l.length) from by
    have := hh l (initR n) 0 (by simp [initR]) hl ⟨?_, ?_, ?_, ?_⟩
    · simpa [rowsF] using this
    · rw [sum_init (fun _ => rfl), sum_init (fun _ => rfl)]
    · rw [sum_init (fun _ => rfl), sum_init (fun _ => rfl)]
    · rw [sum_init (fun _ => rfl)]; rfl
    · rw [sum_init (fun _ => rfl)]; rfl
  intro l
  induction l with
  | nil => intro t k _ _ h; simpa using h
  | cons m l ih =>
    intro t k ht hl h
    have := ih (stepR r t m) (k + 1) (by rw [stepR_len, ht]) (fun m' hm => hl m' (List.mem_cons_of_mem _ hm)) (sums_step (hl m (List.mem_cons_self ..)) ht h)
    rw [List.foldl_cons, List.length_cons]
    have e : k + ((l.length + 1 : Nat) : Int) = k + 1 + (l.length : Int) := by omega
    rw [e]; exact this
theorem sum_perm {f : Rw → Int} {s t : List Rw} (h : s.Perm t) : sumR f s = sumR f t := by
  induction h with
  | nil => rfl
  | cons a _ ih => simp only [sumR, List.map_cons, List.sum_cons] at ih ⊢; omega
  | swap a b l => simp only [sumR, List.map_cons, List.sum_cons]; omega
  | trans _ _ h1 h2 => exact h1.trans h2

/-! ### how teams are compared -/
abbrev Fg := Int × Int × Int
def figL (x : Rw) : Fg := (x.pts, x.fr - x.ag, x.fr)
/-- what teams with the same figures have among themselves -/
def amongL (r : Ru) (n : Nat) (l : List Ma) (i : Nat) : Fg :=
  let t := rowsF r n l
  let same := fun (k : Int) => decide ((t[k.toNat]?.map figL) = (t[i]?.map figL))
  match (rowsF r n (l.filter fun m => same m.home && same m.away))[i]? with
  | some x => (x.pts, x.fr - x.ag, 0)
  | none => (0, 0, 0)
def cmpL (a b : Int) : Int := if a < b then -1 else if a > b then 1 else 0
def orL (a b : Int) : Int := if a = 0 then b else a
def fgCmp (a b : Fg) : Int := orL (cmpL b.1 a.1) (orL (cmpL b.2.1 a.2.1) (cmpL b.2.2 a.2.2))
def betterL (am : Nat → Fg) (x y : Rw) : Int := orL (fgCmp (figL x) (figL y)) (fgCmp (am x.team.toNat) (am y.team.toNat))
def lessL (am : Nat → Fg) (x y : Rw) : Bool := decide (betterL am x y < 0)
/-- the first list is before the second one: its numbers are greater -/
def lexC : List Int → List Int → Int
  | a :: r, b :: s => if b < a then -1 else if a < b then 1 else lexC r s
  | _, _ => 0
theorem lexC_asymm : ∀ {a b : List Int}, lexC a b < 0 → ¬ lexC b a < 0
  | [], _, h => by simp [lexC] at h
  | _ :: _, [], h => by simp [lexC] at h
  | x :: a, y :: b, h => by
    simp only [lexC] at h ⊢
    by_cases h1 : y < x
    · have h2 : ¬ x < y := by omega
      rw [if_neg h2, if_pos h1]; omega
    · rw [if_neg h1] at h
      by_cases h2 : x < y
      · rw [if_pos h2] at h; omega
      · rw [if_neg h2] at h
        rw [if_neg h2, if_neg h1]
        exact lexC_asymm h
theorem lexC_trans : ∀ {a b c : List Int}, a.length = b.length → b.length = c.length → ¬ lexC b a < 0 → ¬ lexC c b < 0 → ¬ lexC c a < 0
  | [], [], [], _, _, _, _ => by simp [lexC]
  | x :: a, y :: b, z :: c, e1, e2, h1, h2 => by
    simp only [List.length_cons, Nat.add_right_cancel_iff] at e1 e2
    simp only [lexC] at h1 h2 ⊢
    by_cases p : x < y
    · rw [if_pos p] at h1; omega
    · rw [if_neg p] at h1
      by_cases q : y < z
      · rw [if_pos q] at h2; omega
      · rw [if_neg q] at h2
        by_cases p' : y < x
        · rw [if_neg (by omega), if_pos (by omega)]; omega
        · by_cases q' : z < y
          · rw [if_neg (by omega), if_pos (by omega)]; omega
          · rw [if_neg p'] at h1
            rw [if_neg q'] at h2
            rw [if_neg (by omega), if_neg (by omega)]
            exact lexC_trans e1 e2 h1 h2
theorem lexC_zero : ∀ {a b : List Int}, a.length = b.length → lexC a b = 0 → a = b
  | [], [], _, _ => rfl
  | x :: a, y :: b, e, h => by
    simp only [List.length_cons, Nat.add_right_cancel_iff] at e
    simp only [lexC] at h
    by_cases h1 : y < x
    · rw [if_pos h1] at h; omega
    · rw [if_neg h1] at h
      by_cases h2 : x < y
      · rw [if_pos h2] at h; omega
      · rw [if_neg h2] at h
        have : x = y := by omega
        rw [this, lexC_zero e h]
def keyL (am : Nat → Fg) (x : Rw) : List Int := [(figL x).1, (figL x).2.1, (figL x).2.2, (am x.team.toNat).1, (am x.team.toNat).2.1, (am x.team.toNat).2.2]
theorem cmp_lex {a b : Int} {r s : List Int} : orL (cmpL b a) (lexC r s) = lexC (a :: r) (b :: s) := by
  simp only [orL, cmpL, lexC]
  by_cases h1 : b < a
  · simp [h1]
  · by_cases h2 : b > a
    · have : a < b := h2
      simp [h1, this]
    · have : ¬ a < b := h2
      simp [h1, this]
theorem or_assoc (a b c : Int) : orL (orL a b) c = orL a (orL b c) := by
  unfold orL
  by_cases h : a = 0 <;> simp [h]
theorem or_zero (a : Int) : orL a 0 = a := by
  unfold orL
  by_cases h : a = 0 <;> simp [h]
theorem betterL_lex (am : Nat → Fg) (x y : Rw) : betterL am x y = lexC (keyL am x) (keyL am y) := by
  unfold betterL fgCmp keyL
  rw [← cmp_lex, ← cmp_lex, ← cmp_lex, ← cmp_lex, ← cmp_lex, ← cmp_lex]
  simp only [or_assoc, lexC, or_zero]
theorem less_weak (am : Nat → Fg) : Weak (lessL am) := by
  refine ⟨fun x y h => ?_, fun x y z h1 h2 => ?_⟩
  · simp only [lessL, decide_eq_true_eq, decide_eq_false_iff_not, betterL_lex] at h ⊢
    exact lexC_asymm h
  · simp only [lessL, decide_eq_false_iff_not, betterL_lex] at h1 h2 ⊢
    exact lexC_trans (a := keyL am x) (b := keyL am y) (c := keyL am z) rfl rfl h1 h2

/-! ### the table -/
/-- insertion keeps the order of those that are alike -/
def Stb (am : Nat → Fg) (t : List Rw) : Prop := t.Pairwise fun x y => lessL am x y = true ∨ (lessL am y x = false ∧ x.team < y.team)
theorem insR_stb {am : Nat → Fg} {x : Rw} : ∀ {s : List Rw}, Stb am s → (∀ y ∈ s, y.team < x.team) → Stb am (insR (lessL am) x s)
  | [], _, _ => by simp [insR, Stb]
  | y :: r, h, ht => by
    have h1 := List.pairwise_cons.1 h
    have w := less_weak am
    simp only [insR]
    split
    · rename_i ha
      rw [List.all_eq_true] at ha
      exact List.pairwise_cons.2 ⟨fun b hb => .inl (ha b hb), h⟩
    · rename_i ha
      refine List.pairwise_cons.2 ⟨fun b hb => ?_, insR_stb h1.2 fun z hz => ht z (List.mem_cons_of_mem _ hz)⟩
      rcases List.mem_cons.1 ((insR_perm r).subset hb) with rfl | hb
      · refine .inr ⟨?_, ht y (List.mem_cons_self ..)⟩
        have hz : ∃ z ∈ y :: r, lessL am b z = false := by
          by_cases hh : ∃ z ∈ y :: r, lessL am b z = false
          · exact hh
          · exfalso; apply ha
            rw [List.all_eq_true]
            intro z hz
            cases e : lessL am b z
            · exact absurd ⟨z, hz, e⟩ hh
            · rfl
        obtain ⟨z, hz, e⟩ := hz
        rcases List.mem_cons.1 hz with rfl | hz
        · exact e
        · refine w.trans _ _ _ ?_ e
          rcases h1.1 z hz with h | h
          · exact w.asymm _ _ h
          · exact h.1
      · exact h1.1 b hb
theorem isort_stb {am : Nat → Fg} {t : List Rw} (h : t.Pairwise fun x y => x.team < y.team) : Stb am (isort (lessL am) t) := by
  suffices hh : ∀ (t s : List Rw), Stb am s → t.Pairwise (fun x y => x.team < y.team) → (∀ x ∈ s, ∀ y ∈ t, x.team < y.team) → Stb am (t.foldl (fun s x => insR (lessL am) x s) s) from
    hh t [] .nil h (by simp)
  intro t
  induction t with
  | nil => intro s h _ _; exact h
  | cons a r ih =>
    intro s hs hp hlt
    have h3 := List.pairwise_cons.1 hp
    refine ih _ (insR_stb hs fun y hy => hlt y hy a (List.mem_cons_self ..)) h3.2 ?_
    · intro x hx y hy
      rcases List.mem_cons.1 ((insR_perm s).subset hx) with rfl | hx
      · exact h3.1 y hy
      · exact hlt x hx y (List.mem_cons_of_mem _ hy)
/-- the ranks, behind the sorting -/
def rankL (am : Nat → Fg) (t : List Rw) : Nat → Int
  | 0 => 1
  | i + 1 => match t[i]?, t[i + 1]? with
    | some x, some y => if betterL am x y = 0 then rankL am t i else ((i + 2 : Nat) : Int)
    | _, _ => 0
def rankedL (am : Nat → Fg) (t : List Rw) : List Rw := (List.range t.length).map fun i => match t[i]? with
  | some x => { x with rank := rankL am t i }
  | none => zeroR 0
def tableL (r : Ru) (n : Nat) (l : List Ma) : List Rw := rankedL (amongL r n l) (isort (lessL (amongL r n l)) (rowsF r n l))
end Go.Proofs.YtppflopinmkpgaaDoor
