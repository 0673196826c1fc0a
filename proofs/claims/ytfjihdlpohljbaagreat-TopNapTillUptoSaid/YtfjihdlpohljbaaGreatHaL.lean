/- Plain law: the hall's rates, prices, shares. -/
import Derived.Test.YtfjihdlpohljbaaGreatTcB
noncomputable section
namespace Go.Proofs.YtfjihdlpohljbaaGreat
open Go Go.Den
set_option maxRecDepth 100000

/-- the sum of c from a on, of n numbers -/
def sumF (c : Nat → Int) (a : Nat) : Nat → Int
  | 0 => 0
  | n + 1 => sumF c a n + c (a + n)
theorem sumF_add (c : Nat → Int) (a m : Nat) : ∀ n, sumF c a (m + n) = sumF c a m + sumF c (a + m) n
  | 0 => by simp [sumF]
  | n + 1 => by
    have := sumF_add c a m n
    show sumF c a (m + n) + c (a + (m + n)) = _
    rw [this, sumF, Nat.add_assoc]; omega
theorem sumF_congr {c d : Nat → Int} {a : Nat} : ∀ {n}, (∀ i, i < n → c (a + i) = d (a + i)) → sumF c a n = sumF d a n
  | 0, _ => rfl
  | n + 1, h => by
    have := sumF_congr (n := n) fun i hi => h i (by omega)
    simp only [sumF, this, h n (by omega)]
theorem sumF_const {c : Nat → Int} {a : Nat} {p : Int} : ∀ {n}, (∀ i, i < n → c (a + i) = p) → sumF c a n = p * n
  | 0, _ => by simp [sumF]
  | n + 1, h => by
    have := sumF_const (n := n) fun i hi => h i (by omega)
    simp only [sumF, this, h n (by omega)]
    rw [Int.natCast_add, Int.mul_add]; simp
abbrev Rt := Nat × Nat × Int
/-- rates that follow each other, from a to b -/
def partOf : Nat → List Rt → Nat → Prop
  | a, [], b => a = b
  | a, x :: r, b => x.1 = a ∧ x.1 < x.2.1 ∧ partOf x.2.1 r b
theorem partOf_le : ∀ {l : List Rt} {a b : Nat}, partOf a l b → a ≤ b
  | [], _, _, h => Nat.le_of_eq h
  | x :: r, a, b, h => by
    have := partOf_le h.2.2
    have h1 := h.1
    have h2 := h.2.1
    omega
def rateAt : List Rt → Nat → Int
  | [], _ => 0
  | x :: r, j => if j < x.2.1 then x.2.2 else rateAt r j
def cutR (x : Rt) (m : Nat) : Nat := min x.2.1 m - x.1
def untilM (l : List Rt) (m : Nat) : Int := (l.map fun x => x.2.2 * (cutR x m : Nat)).sum
theorem untilM_eq : ∀ {l : List Rt} {a b m : Nat}, partOf a l b → untilM l m = sumF (rateAt l) a (min b m - a)
  | [], a, b, m, h => by
    have : min b m - a = 0 := by have h : a = b := h; omega
    rw [this]; rfl
  | x :: r, a, b, m, h => by
    obtain ⟨h1, h2, h3⟩ := h
    have hb := partOf_le h3
    have ih := untilM_eq (m := m) h3
    have e : untilM (x :: r) m = x.2.2 * (cutR x m : Nat) + untilM r m := rfl
    rw [e, ih]
    by_cases hm : m ≤ x.2.1
    · have e1 : min b m - x.2.1 = 0 := by omega
      have e2 : cutR x m = min b m - a := by unfold cutR; omega
      rw [e1, e2, sumF_const (c := rateAt (x :: r)) (p := x.2.2) (fun i hi => by
        simp only [rateAt]; rw [if_pos (by omega)])]
      simp [sumF]
    · have e1 : min b m - a = (x.2.1 - a) + (min b m - x.2.1) := by omega
      have e2 : cutR x m = x.2.1 - a := by unfold cutR; omega
      rw [e1, sumF_add, e2, sumF_const (c := rateAt (x :: r)) (p := x.2.2) (fun i hi => by
        simp only [rateAt]; rw [if_pos (by omega)])]
      congr 1
      have e3 : a + (x.2.1 - a) = x.2.1 := by omega
      rw [e3]
      exact sumF_congr fun i _ => by simp only [rateAt]; rw [if_neg (by omega)]
/-- the price of the quarters from 0 to q -/
def upTo (l : List Rt) (q : Nat) : Int := sumF (fun j => rateAt l (j % 96)) 0 q
theorem upTo_day (l : List Rt) (k : Nat) : ∀ d, sumF (fun j => rateAt l (j % 96)) (96 * k) d = sumF (fun j => rateAt l (j % 96)) 0 d
  | 0 => rfl
  | d + 1 => by
    have := upTo_day l k d
    simp only [sumF, this]
    congr 2
    omega
theorem upTo_split (l : List Rt) : ∀ (k m : Nat), upTo l (96 * k + m) = (k : Int) * upTo l 96 + upTo l m
  | 0, m => by simp
  | k + 1, m => by
    have ih := upTo_split l k m
    have e : 96 * (k + 1) + m = 96 + (96 * k + m) := by omega
    have key : upTo l (96 + (96 * k + m)) = upTo l 96 + upTo l (96 * k + m) := by
      unfold upTo
      rw [sumF_add]
      congr 1
      exact upTo_day l 1 _
    rw [e, key, ih, Int.natCast_add, Int.add_mul]
    simp
    omega
theorem upTo_small {l : List Rt} (h : partOf 0 l 96) {m : Nat} (hm : m ≤ 96) : upTo l m = untilM l m := by
  rw [untilM_eq h, show min 96 m - 0 = m by omega]
  unfold upTo
  exact sumF_congr fun i hi => by
    show rateAt l ((0 + i) % 96) = rateAt l (0 + i)
    rw [Nat.mod_eq_of_lt (by omega)]
/-- what the program adds up -/
theorem until_eq {l : List Rt} (h : partOf 0 l 96) (q : Nat) : upTo l q = (q / 96 : Nat) * untilM l 96 + untilM l (q % 96) := by
  have e := upTo_split l (q / 96) (q % 96)
  rw [Nat.div_add_mod] at e
  rw [e, upTo_small h (Nat.le_refl _), upTo_small h (Nat.le_of_lt (Nat.mod_lt _ (by omega)))]
/-! ### rates as they are given -/
structure Ra where
  frm : Int
  to : Int
  price : Int
def ra (x : Ra) : List Value := [I x.frm, I x.to, I x.price]
theorem ra_len (x : Ra) : (ra x).length = 3 := rfl
def lastTo (l : List Ra) : Int := match l.getLast? with
  | some x => x.to
  | none => 0
def rateE (pre : List Ra) (x : Ra) : Int := firstL [whenL (decide (x.frm ≠ lastTo pre) || decide (x.to ≤ x.frm)) 11, whenL (decide (x.to > 96)) 3, whenL (outL x.price 0 100000) 3]
def ratesE (l : List Ra) : Int := if l.length = 0 then 12 else firstL [if l.length > 96 then 5 else restG rateE l, whenL (lastTo l != 96) 2]
def toRt (x : Ra) : Rt := (x.frm.toNat, x.to.toNat, x.price)
theorem firstL_allZ {l : List Int} (h : firstL l = 0) : ∀ x ∈ l, x = 0 := by
  induction l with
  | nil => intro x hx; cases hx
  | cons a r ih =>
    intro x hx
    by_cases e : a = 0
    · have h2 : firstL r = 0 := by simpa [firstL, e] using h
      rcases List.mem_cons.1 hx with rfl | hx
      · exact e
      · exact ih h2 x hx
    · have h2 : firstL (a :: r) = a := by simp [firstL, e]
      rw [h2] at h; exact absurd h e
theorem whenL_z {b : Bool} {e : Int} (h : whenL b e = 0) (he : e ≠ 0) : b = false := by
  cases b
  · rfl
  · simp [whenL] at h; exact absurd h he
theorem restG_zero {α : Type} {err : List α → α → Int} {l : List α} (h : restG err l = 0) {i : Nat} (hi : i < l.length) : err (l.take i) l[i] = 0 := by
  have := firstL_allZ h (errG err l i) (List.mem_map.2 ⟨i, List.mem_range.2 hi, rfl⟩)
  rwa [errG_at hi] at this
structure RaOk (a : Int) (x : Ra) : Prop where
  frm : x.frm = a
  lt : x.frm < x.to
  to : x.to ≤ 96
  price : 0 ≤ x.price ∧ x.price ≤ 100000
theorem rateE_zero {pre : List Ra} {x : Ra} (h : rateE pre x = 0) : RaOk (lastTo pre) x := by
  have t := firstL_allZ h
  have t1 := whenL_z (t _ (List.mem_cons_self ..)) (by decide)
  have t2 := whenL_z (t _ (List.mem_cons_of_mem _ (List.mem_cons_self ..))) (by decide)
  have t3 := whenL_z (t _ (List.mem_cons_of_mem _ (List.mem_cons_of_mem _ (List.mem_cons_self ..)))) (by decide)
  simp only [Bool.or_eq_false_iff, decide_eq_false_iff_not, outL] at t1 t2 t3
  exact ⟨by omega, by omega, by omega, by omega⟩
/-- each one begins where the one before ends -/
def RaFrom : Int → List Ra → Prop
  | _, [] => True
  | a, x :: r => RaOk a x ∧ RaFrom x.to r
theorem lastTo_cons {x : Ra} : ∀ {l : List Ra}, lastTo (x :: l) = if l = [] then x.to else lastTo l
  | [] => rfl
  | y :: l => by simp [lastTo, List.getLast?_cons_cons]
theorem raFrom_of : ∀ {l pre : List Ra}, (∀ i (h : i < l.length), RaOk (lastTo (pre ++ l.take i)) l[i]) → RaFrom (lastTo pre) l
  | [], _, _ => trivial
  | x :: r, pre, h => by
    have h0 := h 0 (by simp)
    simp only [List.take_zero, List.append_nil, List.getElem_cons_zero] at h0
    refine ⟨h0, ?_⟩
    have e : lastTo (pre ++ [x]) = x.to := by simp [lastTo]
    rw [← e]
    refine raFrom_of fun i hi => ?_
    have := h (i + 1) (by simpa using hi)
    simpa using this
theorem partOf_of : ∀ {l : List Ra} {a : Int}, 0 ≤ a → RaFrom a l → partOf a.toNat (l.map toRt) (if l = [] then a else lastTo l).toNat
  | [], a, _, _ => rfl
  | x :: r, a, ha, h => by
    obtain ⟨⟨h1, h2, h3, h4⟩, h5⟩ := h
    refine ⟨by simp only [toRt]; omega, by simp only [toRt]; omega, ?_⟩
    have := partOf_of (by omega : 0 ≤ x.to) h5
    rw [if_neg (by simp), lastTo_cons]
    exact this
structure RatesOk (l : List Ra) : Prop where
  ne : l ≠ []
  len : l.length ≤ 96
  frm : RaFrom 0 l
  last : lastTo l = 96
theorem rates_ok {l : List Ra} (h : ratesE l = 0) : RatesOk l := by
  unfold ratesE at h
  split at h
  · omega
  · rename_i hne
    have hn : l ≠ [] := fun e => hne (by rw [e]; rfl)
    have t := firstL_allZ h
    have t1 := t _ (List.mem_cons_self ..)
    have t2 := whenL_z (t _ (List.mem_cons_of_mem _ (List.mem_cons_self ..))) (by decide)
    split at t1
    · omega
    · exact ⟨hn, by omega, raFrom_of (pre := []) fun i hi => rateE_zero (restG_zero t1 hi), by simpa using t2⟩
theorem rates_part {l : List Ra} (h : RatesOk l) : partOf 0 (l.map toRt) 96 := by
  have := partOf_of (by omega : (0 : Int) ≤ 0) h.frm
  rw [if_neg h.ne, h.last] at this
  exact this
theorem raFrom_mem : ∀ {l : List Ra} {a : Int}, 0 ≤ a → RaFrom a l → ∀ x ∈ l, 0 ≤ x.frm ∧ x.frm < x.to ∧ x.to ≤ 96 ∧ 0 ≤ x.price ∧ x.price ≤ 100000
  | [], _, _, _, x, hx => by cases hx
  | y :: r, a, ha, h, x, hx => by
    obtain ⟨⟨h1, h2, h3, h4⟩, h5⟩ := h
    rcases List.mem_cons.1 hx with rfl | hx
    · omega
    · exact raFrom_mem (by omega) h5 x hx
/-- what the program adds up for the quarters from 0 on -/
def untilR (q : Nat) (x : Ra) : Int := x.price * (((q / 96 : Nat) : Int) * (x.to - x.frm)) + x.price * max 0 (min x.to ((q % 96 : Nat) : Int) - x.frm)
def untilP (l : List Ra) (q : Nat) : Int := (l.map (untilR q)).sum
theorem untilP_eq {l : List Ra} (q : Nat) (hl : ∀ x ∈ l, 0 ≤ x.frm ∧ x.frm < x.to ∧ x.to ≤ 96 ∧ 0 ≤ x.price ∧ x.price ≤ 100000) : untilP l q = ((q / 96 : Nat) : Int) * untilM (l.map toRt) 96 + untilM (l.map toRt) (q % 96) := by
  induction l with
  | nil => simp [untilP, untilM]
  | cons x r ih =>
    have ih := ih fun y hy => hl y (List.mem_cons_of_mem _ hy)
    obtain ⟨h1, h2, h3, h4, h5⟩ := hl x (List.mem_cons_self ..)
    have e0 : untilP (x :: r) q = untilR q x + untilP r q := by simp [untilP]
    have e1 : ∀ m, untilM ((x :: r).map toRt) m = x.price * ((cutR (toRt x) m : Nat) : Int) + untilM (r.map toRt) m := fun m => by simp [untilM, toRt]
    have c1 : ((cutR (toRt x) 96 : Nat) : Int) = x.to - x.frm := by simp only [cutR, toRt]; omega
    have c2 : ((cutR (toRt x) (q % 96) : Nat) : Int) = max 0 (min x.to ((q % 96 : Nat) : Int) - x.frm) := by simp only [cutR, toRt]; omega
    rw [e0, ih, e1, e1, c1, c2]
    unfold untilR
    rw [Int.mul_add, ← Int.mul_assoc, ← Int.mul_assoc, Int.mul_comm x.price ((q / 96 : Nat) : Int)]
    omega
theorem untilP_up {l : List Ra} (h : RatesOk l) (q : Nat) : untilP l q = upTo (l.map toRt) q := by
  rw [until_eq (rates_part h), untilP_eq q (raFrom_mem (by omega) h.frm)]
theorem rateAt_bd : ∀ {l : List Ra}, (∀ x ∈ l, 0 ≤ x.frm ∧ x.frm < x.to ∧ x.to ≤ 96 ∧ 0 ≤ x.price ∧ x.price ≤ 100000) → ∀ j, 0 ≤ rateAt (l.map toRt) j ∧ rateAt (l.map toRt) j ≤ 100000
  | [], _, _ => by simp [rateAt]
  | x :: r, h, j => by
    have h0 := h x (List.mem_cons_self ..)
    have ih := rateAt_bd (l := r) (fun y hy => h y (List.mem_cons_of_mem _ hy)) j
    simp only [List.map_cons, rateAt]
    split
    · simp only [toRt]; omega
    · exact ih
theorem sumF_bd {c : Nat → Int} (h : ∀ j, 0 ≤ c j ∧ c j ≤ 100000) (a : Nat) : ∀ n : Nat, 0 ≤ sumF c a n ∧ sumF c a n ≤ 100000 * (n : Int)
  | 0 => by simp [sumF]
  | n + 1 => by
    have := sumF_bd h a n
    have h2 := h (a + n)
    simp only [sumF]
    omega
/-- a price -/
def priceP (l : List Ra) (a b : Nat) : Int := untilP l b - untilP l a
theorem priceP_sum {l : List Ra} (h : RatesOk l) {a b : Nat} (hab : a ≤ b) : priceP l a b = sumF (fun j => rateAt (l.map toRt) (j % 96)) a (b - a) := by
  unfold priceP
  rw [untilP_up h, untilP_up h]
  unfold upTo
  have : b = a + (b - a) := by omega
  conv => lhs; rw [this]
  rw [sumF_add, Nat.zero_add]
  omega
theorem priceP_bd {l : List Ra} (h : RatesOk l) {a b : Nat} (hab : a ≤ b) : 0 ≤ priceP l a b ∧ priceP l a b ≤ 100000 * ((b - a : Nat) : Int) := by
  rw [priceP_sum h hab]
  exact sumF_bd (fun j => rateAt_bd (raFrom_mem (by omega) h.frm) _) a (b - a)
theorem untilP_bd {l : List Ra} (h : RatesOk l) (q : Nat) : 0 ≤ untilP l q ∧ untilP l q ≤ 100000 * (q : Int) := by
  have := priceP_bd h (Nat.zero_le q)
  have e : untilP l 0 = 0 := by rw [untilP_up h]; rfl
  unfold priceP at this
  omega
/-- prices of neighbouring spans add up -/
theorem priceP_add {l : List Ra} (a b c : Nat) : priceP l a b + priceP l b c = priceP l a c := by unfold priceP; omega
/-! ### shares of equal weights -/
def shareP (total n i : Nat) : Int := ((total / n : Nat) : Int) + if i < total % n then 1 else 0
def sharesP (total n : Nat) : List Int := (List.range n).map (shareP total n)
theorem sharesP_len {total n : Nat} : (sharesP total n).length = n := by simp [sharesP]
end Go.Proofs.YtfjihdlpohljbaaGreat
