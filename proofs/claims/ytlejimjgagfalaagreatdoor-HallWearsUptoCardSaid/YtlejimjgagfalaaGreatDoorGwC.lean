import Derived.Test.YtlejimjgagfalaaGreatDoorQnB
import Derived.Test.YtlejimjgagfalaaGreatDoorQaB
import Derived.Test.YtlejimjgagfalaaGreatDoorHaC
namespace Go.Den
def dotR : List Rat → (Nat → Rat) → Rat
 | [], _ => 0
 | a :: r, v => a * v 0 + dotR r (fun k => v (k + 1))
theorem zfy (b : Rat) : ∀ (l : List Rat) (v : Nat → Rat), dotR (l.map fun a => a * b) v = dotR l v * b
 | [], v => by simp [dotR, Rat.zero_mul]
 | a :: r, v => by simp only [List.map_cons, dotR, zfy b r]; grind
def subR (t : Rat) : List Rat → List Rat → List Rat
 | a :: r, b :: s => (a - t * b) :: subR t r s
 | _, _ => []
theorem zib (t : Rat) : ∀ {l m : List Rat}, l.length = m.length → (subR t l m).length = l.length
 | [], [], _ => rfl
 | a :: r, b :: s, h => by simp only [subR, List.length_cons]; rw [zib t (by simpa using h)]
theorem ziG (t : Rat) : ∀ {l m : List Rat} (v : Nat → Rat), l.length = m.length → dotR (subR t l m) v = dotR l v - t * dotR m v
 | [], [], v, _ => by simp only [subR, dotR]; grind
 | a :: r, b :: s, v, h => by
  simp only [subR, dotR]; rw [ziG t _ (by simpa using h)]; grind
theorem zic (t : Rat) : ∀ {l m : List Rat} (k : Nat), l.length = m.length → (subR t l m)[k]?.getD 0 = l[k]?.getD 0 - t * m[k]?.getD 0
 | [], [], k, _ => by simp [subR]; grind
 | a :: r, b :: s, 0, _ => by simp [subR]
 | a :: r, b :: s, k + 1, h => by simp only [subR, List.getElem?_cons_succ]; exact zic t k (by simpa using h)
theorem zi0 : ∀ {l m : List Rat}, l.length = m.length → subR 0 l m = l
 | [], [], _ => rfl
 | a :: r, b :: s, h => by simp only [subR]; rw [zi0 (by simpa using h)]; congr 1; grind
theorem zjH : ∀ (l : List Rat) (v w : Nat → Rat) (c : Rat), dotR l (fun k => v k + c * w k) = dotR l v + c * dotR l w
 | [], v, w, c => by simp only [dotR]; grind
 | a :: r, v, w, c => by simp only [dotR]; rw [zjH r]; grind
theorem zg9 : ∀ (l : List Rat) (j : Nat), dotR l (fun k => if k = j then 1 else 0) = l[j]?.getD 0
 | [], j => by simp [dotR]
 | a :: r, 0 => by
  simp only [dotR];have : (fun k => if k + 1 = 0 then (1 : Rat) else 0) = fun k => (0 : Rat) + 0 * 0 := by funext k; simp; grind
  have h0 : ∀ (l : List Rat), dotR l (fun _ => (0 : Rat) + 0 * 0) = 0 := by
   intro l; induction l with
   | nil => rfl
   | cons a r ih => simp only [dotR, ih]; grind
  rw [this, h0]; simp; grind
 | a :: r, j + 1 => by
  simp only [dotR];have e : (fun k => if k + 1 = j + 1 then (1 : Rat) else 0) = fun k => if k = j then (1 : Rat) else 0 := by funext k; simp
  rw [e, zg9 r j]; simp; grind
theorem zhT : ∀ (l : List Rat) {v w : Nat → Rat}, (∀ k, k < l.length → v k = w k) → dotR l v = dotR l w
 | [], _, _, _ => rfl
 | a :: r, v, w, h => by
  simp only [dotR]; rw [h 0 (by simp), zhT r (fun k hk => h (k + 1) (by simpa using hk))]
abbrev Mat := List (List Rat)
def ent (M : Mat) (i k : Nat) : Rat := (M[i]?.getD [])[k]?.getD 0
def pivAt (M : Mat) (c : Nat) : Nat → Nat → Option Nat
 | 0, _ => none
 | n + 1, r => if ent M r c ≠ 0 then some r else pivAt M c n (r + 1)
theorem zfm {M : Mat} {c : Nat} : ∀ {n r i : Nat}, pivAt M c n r = some i → r ≤ i ∧ i < r + n ∧ ent M i c ≠ 0 ∧ ∀ j, r ≤ j → j < i → ent M j c = 0
 | 0, _, _, h => by simp [pivAt] at h
 | n + 1, r, i, h => by
  unfold pivAt at h;split at h
  ·next hn => cases h; exact ⟨Nat.le_refl _, by omega, hn, fun j h1 h2 => by omega⟩
  ·next hn =>
   obtain ⟨h1, h2, h3, h4⟩ := zfm h;refine ⟨by omega, by omega, h3, fun j h5 h6 => ?_⟩;rcases Nat.eq_or_lt_of_le h5 with e | e
   ·subst e; exact Classical.byContradiction fun hh => hn hh
   ·exact h4 j e h6
theorem zhF {M : Mat} {c : Nat} : ∀ {n r : Nat}, pivAt M c n r = none → ∀ j, r ≤ j → j < r + n → ent M j c = 0
 | 0, _, _, j, _, _ => by omega
 | n + 1, r, h, j, h1, h2 => by
  unfold pivAt at h;split at h
  ·simp at h
  ·next hn =>
   rcases Nat.eq_or_lt_of_le h1 with e | e
   ·subst e; exact Classical.byContradiction fun hh => hn hh
   ·exact zhF h j e (by omega)
def swapM (M : Mat) (i j : Nat) : Mat := (M.set i (M[j]?.getD [])).set j (M[i]?.getD [])
def scaleM (M : Mat) (r : Nat) (b : Rat) : Mat := M.set r ((M[r]?.getD []).map fun a => a * b)
def elimR (M : Mat) (r c : Nat) (i : Nat) : List Rat := if i = r then M[i]?.getD [] else subR (ent M i c) (M[i]?.getD []) (M[r]?.getD [])
def elimN (M : Mat) (r c : Nat) (n : Nat) : Mat := (List.range M.length).map fun i => if i < n then elimR M r c i else M[i]?.getD []
def elimM (M : Mat) (r c : Nat) : Mat := (List.range M.length).map fun i => elimR M r c i
def pivS (M : Mat) (r c i : Nat) : Mat := elimM (scaleM (swapM M i r) r (ent (swapM M i r) r c)⁻¹) r c
def pivF (s : Mat × List Nat) (c : Nat) : Mat × List Nat :=
 match pivAt s.1 c (s.1.length - s.2.length) s.2.length with
 | some i => (pivS s.1 s.2.length c i, s.2 ++ [c])
 | none => s
def pivK (M : Mat) (c : Nat) : Mat × List Nat := (List.range c).foldl pivF (M, [])
theorem zcB (M : Mat) (c : Nat) : pivK M (c + 1) = pivF (pivK M c) c := by
 unfold pivK; rw [List.range_succ, List.foldl_append]; rfl
theorem zbm {M : Mat} {i j : Nat} : (swapM M i j).length = M.length := by simp [swapM]
theorem zb4 {M : Mat} {r : Nat} {b : Rat} : (scaleM M r b).length = M.length := by simp [scaleM]
theorem zeW {M : Mat} {r c : Nat} : (elimM M r c).length = M.length := by simp [elimM]
theorem zeK {M : Mat} {r c i : Nat} : (pivS M r c i).length = M.length := by rw [pivS, zeW, zb4, zbm]
def Wide (w : Nat) (M : Mat) : Prop := ∀ i, i < M.length → (M[i]?.getD []).length = w
theorem zcw {M : Mat} {i j : Nat} (hi : i < M.length) (hj : j < M.length) (k : Nat) : (swapM M i j)[k]?.getD [] = if k = j then M[i]?.getD [] else if k = i then M[j]?.getD [] else M[k]?.getD [] := by
 unfold swapM;by_cases h : k = j
 ·subst h; rw [if_pos rfl, List.getElem?_set_self (by simpa using hj)]; rfl
 ·rw [if_neg h, List.getElem?_set_ne (fun e => h e.symm)];by_cases h2 : k = i
  ·subst h2; rw [if_pos rfl, List.getElem?_set_self hi]; rfl
  ·rw [if_neg h2, List.getElem?_set_ne (fun e => h2 e.symm)]
theorem zd2 {M : Mat} {r : Nat} {b : Rat} (hr : r < M.length) (k : Nat) : (scaleM M r b)[k]?.getD [] = if k = r then (M[r]?.getD []).map (fun a => a * b) else M[k]?.getD [] := by
 unfold scaleM;by_cases h : k = r
 ·subst h; rw [if_pos rfl, List.getElem?_set_self hr]; rfl
 ·rw [if_neg h, List.getElem?_set_ne (fun e => h e.symm)]
theorem zdR {M : Mat} {r c k : Nat} (hk : k < M.length) : (elimM M r c)[k]?.getD [] = elimR M r c k := by
 simp [elimM, List.getElem?_map, List.getElem?_range hk]
theorem map_get (l : List Rat) (b : Rat) (k : Nat) : (l.map fun a => a * b)[k]?.getD 0 = l[k]?.getD 0 * b := by
 rw [List.getElem?_map]; cases l[k]? <;> simp <;> grind
def Null (M : Mat) (v : Nat → Rat) : Prop := ∀ i, i < M.length → dotR (M[i]?.getD []) v = 0
theorem zoD {M : Mat} {i j : Nat} (hi : i < M.length) (hj : j < M.length) (v : Nat → Rat) : Null (swapM M i j) v ↔ Null M v := by
 unfold Null;rw [zbm];constructor
 ·intro h k hk;by_cases h1 : k = i
  ·subst h1; have := h j hj; rw [zcw hi hj, if_pos rfl] at this; exact this
  ·by_cases h2 : k = j
   ·subst h2; have := h i hi; rw [zcw hi hj] at this;by_cases e : i = k
    ·exact absurd e.symm h1
    ·rw [if_neg e, if_pos rfl] at this; exact this
   ·have := h k hk; rw [zcw hi hj, if_neg h2, if_neg h1] at this; exact this
 ·intro h k hk;rw [zcw hi hj];split
  ·exact h i hi
  ·split
   ·exact h j hj
   ·exact h k hk
theorem zmR {M : Mat} {r : Nat} {b : Rat} (hr : r < M.length) (hb : b ≠ 0) (v : Nat → Rat) : Null (scaleM M r b) v ↔ Null M v := by
 unfold Null;rw [zb4];constructor
 ·intro h k hk;have := h k hk;rw [zd2 hr] at this;split at this
  ·next e => subst e; rw [zfy] at this; grind
  ·exact this
 ·intro h k hk;rw [zd2 hr];split
  ·next e => subst e; rw [zfy, h k hr]; grind
  ·exact h k hk
theorem zoE {M : Mat} {w r c : Nat} (hw : Wide w M) (hr : r < M.length) (v : Nat → Rat) : Null (elimM M r c) v ↔ Null M v := by
 unfold Null;rw [zeW];have hl : ∀ k, k < M.length → (M[k]?.getD []).length = (M[r]?.getD []).length := fun k hk => by rw [hw k hk, hw r hr]
 constructor
 ·intro h;have h0 : dotR (M[r]?.getD []) v = 0 := by have := h r hr; rw [zdR hr, elimR, if_pos rfl] at this; exact this
  intro k hk;have := h k hk;rw [zdR hk, elimR] at this;split at this
  ·exact this
  ·rw [ziG _ _ (hl k hk), h0] at this; grind
 ·intro h k hk;rw [zdR hk, elimR];split
  ·exact h k hk
  ·rw [ziG _ _ (hl k hk), h k hk, h r hr]; grind
theorem zgl {M : Mat} {w i j : Nat} (h : Wide w M) (hi : i < M.length) (hj : j < M.length) : Wide w (swapM M i j) := by
 intro k hk;rw [zbm] at hk;rw [zcw hi hj];split
 ·exact h i hi
 ·split
  ·exact h j hj
  ·exact h k hk
theorem zhx {M : Mat} {w r : Nat} {b : Rat} (h : Wide w M) (hr : r < M.length) : Wide w (scaleM M r b) := by
 intro k hk;rw [zb4] at hk;rw [zd2 hr];split
 ·simp [h r hr]
 ·exact h k hk
theorem znk {M : Mat} {w r c : Nat} (h : Wide w M) (hr : r < M.length) : Wide w (elimM M r c) := by
 intro k hk;rw [zeW] at hk;rw [zdR hk, elimR];split
 ·exact h k hk
 ·rw [zib _ (by rw [h k hk, h r hr])]; exact h k hk
theorem zcL {M : Mat} {i j : Nat} (hi : i < M.length) (hj : j < M.length) (k c : Nat) : ent (swapM M i j) k c = if k = j then ent M i c else if k = i then ent M j c else ent M k c := by
 unfold ent; rw [zcw hi hj]; split
 ·rfl
 ·split <;> rfl
theorem zeV {M : Mat} {r : Nat} {b : Rat} (hr : r < M.length) (k c : Nat) : ent (scaleM M r b) k c = if k = r then ent M r c * b else ent M k c := by
 unfold ent; rw [zd2 hr]; split
 ·exact map_get _ _ _
 ·rfl
theorem zqO {M : Mat} {w r c k : Nat} (hw : Wide w M) (hr : r < M.length) (hk : k < M.length) (d : Nat) : ent (elimM M r c) k d = if k = r then ent M r d else ent M k d - ent M k c * ent M r d := by
 unfold ent; rw [zdR hk, elimR]; split
 ·next e => subst e; rfl
 ·rw [zic _ _ (by rw [hw k hk, hw r hr])]; rfl
theorem ziF {M : Mat} {w r c i k : Nat} (hw : Wide w M) (hr : r < M.length) (hi : i < M.length) (hk : k < M.length) (d : Nat) : ent (pivS M r c i) k d = if k = r then ent M i d * (ent M i c)⁻¹ else (if k = i then ent M r d - ent M r c * (ent M i d * (ent M i c)⁻¹) else ent M k d - ent M k c * (ent M i d * (ent M i c)⁻¹)) := by
 unfold pivS;have hw1 := zgl hw hi hr;have hr1 : r < (swapM M i r).length := by rw [zbm]; exact hr
 have hk1 : k < (swapM M i r).length := by rw [zbm]; exact hk
 have hw2 := zhx (b := (ent (swapM M i r) r c)⁻¹) hw1 hr1;rw [zqO hw2 (by rw [zb4]; exact hr1) (by rw [zb4]; exact hk1), zeV hr1, zeV hr1, zeV hr1, zcL hi hr, zcL hi hr, zcL hi hr, zcL hi hr];by_cases h : k = r
 ·simp only [if_pos h, if_true]
 ·simp only [if_neg h, if_true];split <;> rfl
structure PInv (w : Nat) (M0 : Mat) (c : Nat) (s : Mat × List Nat) : Prop where
 len : s.1.length = M0.length
 wide : Wide w s.1
 null : ∀ v, Null s.1 v ↔ Null M0 v
 le : s.2.length ≤ s.1.length
 lt : ∀ j (h : j < s.2.length), s.2[j] < c
 asc : s.2.Pairwise (· < ·)
 piv : ∀ j (h : j < s.2.length) i, i < s.1.length → ent s.1 i s.2[j] = if i = j then 1 else 0
 zero : ∀ d, d < c → ∀ i, s.2.length ≤ i → i < s.1.length → ent s.1 i d = 0
theorem zos {w : Nat} {M : Mat} (h : Wide w M) : PInv w M 0 (M, []) where
 len := rfl
 wide := h
 null v := Iff.rfl
 le := by simp
 lt j h := by simp at h
 asc := List.Pairwise.nil
 piv j h := by simp at h
 zero d h := by omega
theorem zot {w : Nat} {M0 : Mat} {c : Nat} {s : Mat × List Nat} (h : PInv w M0 c s) : PInv w M0 (c + 1) (pivF s c) := by
 obtain ⟨M, cols⟩ := s;unfold pivF;simp only
 cases hp : pivAt M c (M.length - cols.length) cols.length with
 | none =>
  have hn := zhF hp;have hle := h.le;simp only at hle;refine ⟨h.len, h.wide, h.null, h.le, fun j hj => Nat.lt_succ_of_lt (h.lt j hj), h.asc, h.piv, fun d hd i h1 h2 => ?_⟩;rcases Nat.lt_succ_iff_lt_or_eq.1 hd with h3 | h3
  ·exact h.zero d h3 i h1 h2
  ·subst h3; exact hn i h1 (by simp only at h1 h2; omega)
 | some i =>
  obtain ⟨h1, h2, h3, h4⟩ := zfm hp;have hle := h.le;have hwd : Wide w M := h.wide;simp only at hle;have hi : i < M.length := by omega
  have hr : cols.length < M.length := by omega
  have hw1 := zgl hwd hi hr;have hr1 : cols.length < (swapM M i cols.length).length := by rw [zbm]; exact hr
  have hx : ent (swapM M i cols.length) cols.length c = ent M i c := by rw [zcL hi hr, if_pos rfl]
  have hb : (ent (swapM M i cols.length) cols.length c)⁻¹ ≠ 0 := by rw [hx]; grind
  have hw2 := zhx (b := (ent (swapM M i cols.length) cols.length c)⁻¹) hw1 hr1;have hr2 : cols.length < (scaleM (swapM M i cols.length) cols.length (ent (swapM M i cols.length) cols.length c)⁻¹).length := by rw [zb4]; exact hr1
  have oldz : ∀ j (hj : j < cols.length), ent M i cols[j] = 0 := fun j hj => by
   have := h.piv j hj i hi; rw [this, if_neg (by omega)]
  refine ⟨?_, ?_, ?_, ?_, ?_, ?_, ?_, ?_⟩
  ·show (pivS M _ _ _).length = _;rw [zeK]; exact h.len
  ·exact znk hw2 hr2
  ·intro v;rw [show (pivS M cols.length c i, cols ++ [c]).1 = pivS M cols.length c i from rfl, pivS, zoE hw2 hr2, zmR hr1 hb, zoD hi hr];exact h.null v
  ·show (cols ++ [c]).length ≤ (pivS M _ _ _).length;rw [zeK]; simp; omega
  ·intro j hj;simp only [List.length_append, List.length_singleton] at hj;rcases Nat.lt_succ_iff_lt_or_eq.1 hj with h5 | h5
   ·simp only [List.getElem_append_left h5]; exact Nat.lt_succ_of_lt (h.lt j h5)
   ·subst h5; simp
  ·show (cols ++ [c]).Pairwise (· < ·);rw [List.pairwise_append];refine ⟨h.asc, by simp, fun a ha b hb => ?_⟩;rw [List.mem_singleton.1 hb];obtain ⟨j, hj, rfl⟩ := List.getElem_of_mem ha;exact h.lt j hj
  ·intro j hj k hk;show ent (pivS M cols.length c i) k _ = _;have hk : k < M.length := by have : k < (pivS M cols.length c i).length := hk; rw [zeK] at this; exact this
   simp only [List.length_append, List.length_singleton] at hj;rcases Nat.lt_succ_iff_lt_or_eq.1 hj with h5 | h5
   ·simp only [List.getElem_append_left h5];rw [ziF hwd hr hi hk, oldz j h5];have p1 := h.piv j h5 k hk;have p2 := h.piv j h5 cols.length hr;simp only at p1 p2;rw [p1, p2];by_cases e1 : k = cols.length
    ·rw [if_pos e1, if_neg (by omega)]; grind
    ·rw [if_neg e1];by_cases e2 : k = i
     ·rw [if_pos e2, if_neg (by omega), if_neg (by omega)]; grind
     ·rw [if_neg e2]; split <;> grind
   ·subst h5;simp only [List.getElem_append_right (Nat.le_refl _), Nat.sub_self, List.getElem_singleton];rw [ziF hwd hr hi hk];by_cases e1 : k = cols.length
    ·rw [if_pos e1, if_pos e1]; grind
    ·rw [if_neg e1, if_neg e1];by_cases e2 : k = i
     ·rw [if_pos e2]; grind
     ·rw [if_neg e2]; grind
  ·intro d hd k h5 hk;show ent (pivS M cols.length c i) k d = _;have hk : k < M.length := by have : k < (pivS M cols.length c i).length := hk; rw [zeK] at this; exact this
   simp only [List.length_append, List.length_singleton] at h5;rw [ziF hwd hr hi hk, if_neg (by omega)];rcases Nat.lt_succ_iff_lt_or_eq.1 hd with h6 | h6
   ·have z1 := h.zero d h6 i (by simp only; omega) hi;have z2 := h.zero d h6 k (by simp only; omega) hk;have z3 := h.zero d h6 cols.length (Nat.le_refl _) hr;simp only at z1 z2 z3;rw [z1, z2, z3]; split <;> grind
   ·subst h6; split <;> grind
theorem zcg {w : Nat} {M : Mat} (h : Wide w M) : ∀ c, PInv w M c (pivK M c)
 | 0 => zos h
 | c + 1 => by rw [zcB]; exact zot (zcg h c)
theorem zdj (M : Mat) : ∀ c, (pivK M c).2.length ≤ c
 | 0 => Nat.le_refl _
 | c + 1 => by
  have := zdj M c;rw [zcB, pivF];split
  ·simp; omega
  ·omega
theorem zgN (M : Mat) : ∀ {c}, (pivK M c).2.length = c → (pivK M c).2 = List.range c
 | 0, _ => rfl
 | c + 1, h => by
  have h1 := zdj M c;rw [zcB, pivF] at h ⊢;split at h
  ·next i hi =>
   simp only [List.length_append, List.length_singleton] at h;rw [zgN M (c := c) (by omega), List.range_succ]
  ·omega
theorem zjl {w : Nat} {M : Mat} (hw : Wide w M) : ∀ {c}, (pivK M c).2.length < c → ∃ f, f < c ∧ f ∉ (pivK M c).2
 | 0, h => by omega
 | c + 1, h => by
  have hlt := (zcg hw c).lt;rw [zcB] at h ⊢
  cases hp : pivAt (pivK M c).1 c ((pivK M c).1.length - (pivK M c).2.length) (pivK M c).2.length with
  | some i =>
   have e : pivF (pivK M c) c = (pivS (pivK M c).1 (pivK M c).2.length c i, (pivK M c).2 ++ [c]) := by unfold pivF; rw [hp]
   rw [e] at h ⊢;simp only [List.length_append, List.length_singleton] at h;obtain ⟨f, h1, h2⟩ := zjl hw (c := c) (by omega);refine ⟨f, by omega, fun hm => ?_⟩;rcases List.mem_append.1 hm with h3 | h3
   ·exact h2 h3
   ·rw [List.mem_singleton.1 h3] at h1; omega
  | none =>
   have e : pivF (pivK M c) c = pivK M c := by unfold pivF; rw [hp]
   rw [e] at h ⊢;refine ⟨c, by omega, fun hm => ?_⟩;obtain ⟨j, hj, e⟩ := List.getElem_of_mem hm;have := hlt j hj;omega
def freeV (M : Mat) (cols : List Nat) (f : Nat) : Nat → Nat → Rat
 | 0 => fun k => if k = f then 1 else 0
 | n + 1 => fun k => freeV M cols f n k + (-(ent M n f)) * (if k = cols[n]?.getD 0 then 1 else 0)
theorem zo5 {M : Mat} {cols : List Nat} {f : Nat} (h : f ∉ cols) : ∀ n, n ≤ cols.length → freeV M cols f n f = 1
 | 0, _ => by simp [freeV]
 | n + 1, hn => by
  simp only [freeV];rw [zo5 h n (by omega), List.getElem?_eq_getElem (by omega)];have : f ≠ cols[n] := fun e => h (e ▸ List.getElem_mem _)
  simp only [Option.getD_some, if_neg this]; grind
theorem zjB {M : Mat} {cols : List Nat} {f c : Nat} (hf : f < c) (hlt : ∀ j (h : j < cols.length), cols[j] < c) {k : Nat} (hk : c ≤ k) : ∀ n, n ≤ cols.length → freeV M cols f n k = 0
 | 0, _ => by simp [freeV]; omega
 | n + 1, hn => by
  simp only [freeV];rw [zjB hf hlt hk n (by omega), List.getElem?_eq_getElem (by omega)];have := hlt n (by omega);simp only [Option.getD_some, if_neg (show ¬ k = cols[n] by omega)]; grind
theorem zjC {w c f : Nat} {M0 M : Mat} {cols : List Nat} (h : PInv w M0 c (M, cols)) {i : Nat} (hi : i < M.length) : ∀ n, n ≤ cols.length → dotR (M[i]?.getD []) (freeV M cols f n) = if i < n then 0 else ent M i f
 | 0, _ => by simp only [freeV]; rw [zg9, if_neg (by omega)]; rfl
 | n + 1, hn => by
  simp only [freeV];rw [zjH, zg9, zjC h hi n (by omega)];have hc : cols[n]?.getD 0 = cols[n] := by rw [List.getElem?_eq_getElem (by omega)]; rfl
  have hp : ent M i cols[n] = if i = n then 1 else 0 := h.piv n (by simp only; omega) i hi
  have : (M[i]?.getD [])[cols[n]?.getD 0]?.getD 0 = if i = n then (1 : Rat) else 0 := by rw [hc]; exact hp
  rw [this];by_cases e : i = n
  ·subst e; rw [if_neg (by omega), if_pos rfl, if_pos (by omega)]; grind
  ·rw [if_neg e];by_cases e2 : i < n
   ·rw [if_pos e2, if_pos (by omega)]; grind
   ·rw [if_neg e2, if_neg (by omega)]; grind
theorem zjA {w c : Nat} {M : Mat} (hw : Wide w M) (hlt : (pivK M c).2.length < c) : ∃ v, Null M v ∧ (∃ f, f < c ∧ v f ≠ 0) ∧ ∀ k, c ≤ k → v k = 0 := by
 obtain ⟨f, h1, h2⟩ := zjl hw hlt;have h := zcg hw c;refine ⟨freeV (pivK M c).1 (pivK M c).2 f (pivK M c).2.length, ?_, ⟨f, h1, ?_⟩, fun k hk => zjB h1 h.lt hk _ (Nat.le_refl _)⟩
 ·rw [← h.null];intro i hi;have hd := zjC (M := (pivK M c).1) (cols := (pivK M c).2) (f := f) h hi _ (Nat.le_refl _);rw [hd];split
  ·rfl
  ·next hn => exact h.zero f h1 i (by omega) hi
 ·rw [zo5 h2 _ (Nat.le_refl _)]; grind
theorem zgh : ∀ (a b : List Rat) (v : Nat → Rat), dotR (a ++ b) v = dotR a v + dotR b (fun k => v (k + a.length))
 | [], b, v => by simp [dotR]; grind
 | x :: a, b, v => by
  simp only [List.cons_append, dotR, List.length_cons];rw [zgh a b];have : (fun k => v (k + (a.length + 1))) = fun k => v (k + a.length + 1) := by funext k; congr 1
  rw [this]; grind
theorem zfx : ∀ {l : List Rat} (v : Nat → Rat), (∀ k, k < l.length → l[k]?.getD 0 = 0) → dotR l v = 0
 | [], _, _ => rfl
 | a :: r, v, h => by
  simp only [dotR];have h0 := h 0 (by simp);simp only [List.getElem?_cons_zero, Option.getD_some] at h0;rw [h0, zfx _ (fun k hk => by have := h (k + 1) (by simpa using hk); simpa using this)]; grind
theorem zhS : ∀ {l : List Rat} {j : Nat} (v : Nat → Rat), j < l.length → (∀ k, k < l.length → l[k]?.getD 0 = if j = k then 1 else 0) → dotR l v = v j
 | a :: r, 0, v, _, h => by
  simp only [dotR];have h0 := h 0 (by simp);simp only [List.getElem?_cons_zero, Option.getD_some, if_pos] at h0
  rw [h0, zfx _ (fun k hk => by have := h (k + 1) (by simpa using hk); simpa using this)]; grind
 | a :: r, j + 1, v, hj, h => by
  simp only [dotR];have h0 := h 0 (by simp);simp only [List.getElem?_cons_zero, Option.getD_some] at h0;rw [if_neg (by omega)] at h0;rw [h0, zhS (j := j) _ (by simpa using hj) (fun k hk => by have := h (k + 1) (by simpa using hk); simpa using this)]; grind
def Triv (n : Nat) (M : Mat) : Prop := ∀ v, Null M v → ∀ k, k < n → v k = 0
theorem zlv {w c : Nat} {M : Mat} (hw : Wide w M) (hcw : c ≤ w) (hf : (pivK M c).2.length = c) {i : Nat} (hi : i < (pivK M c).1.length) (v : Nat → Rat) :
  dotR (((pivK M c).1)[i]?.getD []) v = (if i < c then v i else 0) + dotR ((((pivK M c).1)[i]?.getD []).drop c) (fun k => v (k + c)) := by
 have h := zcg hw c;have hr := h.wide i hi;obtain ⟨row, hrow⟩ : ∃ r, r = ((pivK M c).1)[i]?.getD [] := ⟨_, rfl⟩
 rw [← hrow] at hr ⊢;have hsplit : row = row.take c ++ row.drop c := (List.take_append_drop c row).symm;have hlen : (row.take c).length = c := by rw [List.length_take, hr]; omega
 have hent : ∀ k, k < c → row[k]?.getD 0 = if i = k then 1 else 0 := fun k hk => by
  have hcol : (pivK M c).2[k]'(by omega) = k := by simp only [zgN M hf, List.getElem_range]
  have := h.piv k (by omega) i hi;rw [hcol] at this;rw [hrow]; exact this
 conv => lhs; rw [hsplit]
 rw [zgh, hlen]
 congr 1
 have ht : ∀ k, k < (row.take c).length → (row.take c)[k]?.getD 0 = if i = k then 1 else 0 := fun k hk => by
  rw [hlen] at hk;rw [List.getElem?_take, if_pos hk]; exact hent k hk
 split
 ·next h1 => exact zhS v (by omega) ht
 ·next h1 => exact zfx v (fun k hk => by rw [ht k hk, if_neg (by omega)])
theorem zgF {n : Nat} {M : Mat} (hw : Wide n M) : Triv n M ↔ (pivK M n).2.length = n := by
 constructor
 ·intro h;rcases Nat.lt_or_eq_of_le (zdj M n) with h1 | h1
  ·obtain ⟨v, h2, ⟨f, h3, h4⟩, _⟩ := zjA hw h1;exact absurd (h v h2 f h3) h4
  ·exact h1
 ·intro h v hv k hk;have hp := zcg hw n;rw [← hp.null] at hv;have hle := hp.le;have hi : k < (pivK M n).1.length := by omega
  have := hv k hi;rw [zlv hw (Nat.le_refl _) h hi, if_pos hk] at this;have hz : (((pivK M n).1)[k]?.getD []).drop n = [] := List.drop_eq_nil_of_le (by rw [hp.wide k hi]; exact Nat.le_refl _);rw [hz] at this; simp only [dotR] at this; grind
def wideM (M : Mat) (b : List Rat) : Mat := List.zipWith (fun r x => r ++ [x]) M b
theorem zcd {M : Mat} {b : List Rat} (h : b.length = M.length) : (wideM M b).length = M.length := by simp [wideM, h]
theorem zgn {M : Mat} {b : List Rat} (h : b.length = M.length) {i : Nat} (hi : i < M.length) : (wideM M b)[i]?.getD [] = M[i]?.getD [] ++ [b[i]?.getD 0] := by
 unfold wideM;rw [List.getElem?_zipWith, List.getElem?_eq_getElem hi, List.getElem?_eq_getElem (by omega)]; rfl
theorem zb2 {n : Nat} {M : Mat} {b : List Rat} (hw : Wide n M) (h : b.length = M.length) : Wide (n + 1) (wideM M b) := by
 intro i hi;rw [zcd h] at hi;rw [zgn h hi]; simp [hw i hi]
theorem zjo {n : Nat} {M : Mat} {b : List Rat} (hw : Wide n M) (h : b.length = M.length) (v : Nat → Rat) : Null (wideM M b) v ↔ ∀ i, i < M.length → dotR (M[i]?.getD []) v + b[i]?.getD 0 * v n = 0 := by
 unfold Null;rw [zcd h];constructor
 ·intro hn i hi;have := hn i hi;rw [zgn h hi, zgh, hw i hi] at this;simp only [dotR, Nat.zero_add] at this; grind
 ·intro hn i hi;have := hn i hi;rw [zgn h hi, zgh, hw i hi];simp only [dotR, Nat.zero_add]; grind
theorem zgm {n : Nat} {M : Mat} {b : List Rat} (hw : Wide n M) (h : b.length = M.length) (ht : Triv n M) : (pivK (wideM M b) n).2.length = n := by
 rcases Nat.lt_or_eq_of_le (zdj (wideM M b) n) with h1 | h1
 ·obtain ⟨v, h2, ⟨f, h3, h4⟩, h5⟩ := zjA (zb2 hw h) h1;refine absurd (ht v (fun i hi => ?_) f h3) h4;have := (zjo hw h v).1 h2 i hi;rw [h5 n (Nat.le_refl _)] at this; grind
 ·exact h1
def Sol (M : Mat) (b : List Rat) (y : Nat → Rat) : Prop := ∀ i, i < M.length → dotR (M[i]?.getD []) y = b[i]?.getD 0
theorem sol_iff {n : Nat} {M : Mat} {b : List Rat} (hw : Wide n M) (h : b.length = M.length) (ht : Triv n M) (y : Nat → Rat) :
  Sol M b y ↔ ∀ i, i < M.length → ent (pivK (wideM M b) n).1 i n = if i < n then y i else 0 := by
 have hf := zgm hw h ht;have hww := zb2 hw h;have hp := zcg hww n;have hlen : (pivK (wideM M b) n).1.length = M.length := by rw [hp.len, zcd h]
 obtain ⟨v, hv⟩ : ∃ v : Nat → Rat, v = fun k => if k < n then y k else if k = n then -1 else 0 := ⟨_, rfl⟩
 have hvn : v n = -1 := by rw [hv]; simp
 have hd : ∀ i, i < M.length → dotR (M[i]?.getD []) v = dotR (M[i]?.getD []) y := fun i hi => zhT _ (fun k hk => by rw [hw i hi] at hk; rw [hv]; simp [hk])
 have h1 : Sol M b y ↔ Null (wideM M b) v := by
  rw [zjo hw h];constructor
  ·intro hs i hi; rw [hd i hi, hs i hi, hvn]; grind
  ·intro hs i hi; have := hs i hi; rw [hd i hi, hvn] at this; grind
 rw [h1, ← hp.null]
 have hrow : ∀ i, i < M.length → dotR ((pivK (wideM M b) n).1[i]?.getD []) v = (if i < n then y i else 0) - ent (pivK (wideM M b) n).1 i n := fun i hi => by
  have hi' : i < (pivK (wideM M b) n).1.length := by rw [hlen]; exact hi
  have hr := hp.wide i hi';rw [zlv hww (by omega) hf hi']
  have e1 : (if i < n then v i else 0) = if i < n then y i else 0 := by
   split
   ·next h => rw [hv]; simp [h]
   ·rfl
  rw [e1];obtain ⟨row, hrow⟩ : ∃ r, r = ((pivK (wideM M b) n).1)[i]?.getD [] := ⟨_, rfl⟩
  have hen : ent (pivK (wideM M b) n).1 i n = row[n]?.getD 0 := by rw [hrow]; rfl
  rw [hen, ← hrow];rw [← hrow] at hr
  have hdrop : row.drop n = [row[n]?.getD 0] := by
   rw [List.drop_eq_getElem_cons (by omega), List.drop_eq_nil_of_le (by omega), List.getElem?_eq_getElem (by omega)]; rfl
  rw [hdrop];simp only [dotR, Nat.zero_add, hvn]; grind
 unfold Null;rw [hlen];constructor
 ·intro hs i hi;have := hs i hi;rw [hrow i hi] at this; grind
 ·intro hs i hi;rw [hrow i hi, hs i hi]; grind
end Go.Den
namespace Go.Den
structure QB (B : Nat) (x : Rat) : Prop where
 n : x.num.natAbs ≤ B
 d : x.den ≤ B
theorem QB.mono {B C : Nat} {x : Rat} (h : QB B x) (hb : B ≤ C) : QB C x := ⟨Nat.le_trans h.n hb, Nat.le_trans h.d hb⟩
theorem mk_bd (n : Int) {d B : Nat} (hd : d ≠ 0) (h1 : n.natAbs ≤ B) (h2 : d ≤ B) : QB B (mkRat n d) := by
 constructor
 ·rw [Rat.num_mkRat, if_neg hd, Int.natAbs_ediv_of_dvd (Int.ofNat_dvd_left.2 (Nat.gcd_dvd_right _ _))];exact Nat.le_trans (Nat.div_le_self _ _) h1
 ·rw [Rat.den_mkRat, if_neg hd];exact Nat.le_trans (Nat.div_le_self _ _) h2
theorem QB.mul {B C : Nat} {x y : Rat} (h : QB B x) (k : QB C y) : QB (B * C) (x * y) := by
 rw [Rat.mul_def'];refine mk_bd _ (Nat.mul_ne_zero x.den_nz y.den_nz) ?_ (Nat.mul_le_mul h.d k.d);rw [Int.natAbs_mul]; exact Nat.mul_le_mul h.n k.n
theorem qb_of {x : Rat} {D B : Nat} {N : Int} (hD : 0 < D) (h : x * (D : Rat) = (N : Rat)) (h1 : N.natAbs ≤ B) (h2 : D ≤ B) : QB B x := by
 have e : x = mkRat N D := by
  rw [Rat.mkRat_eq_div]
  have : (D : Rat) ≠ 0 := by
   intro h0;have := Rat.natCast_inj.1 (show ((D : Nat) : Rat) = ((0 : Nat) : Rat) from h0);omega
  grind
 rw [e]; exact mk_bd N (by omega) h1 h2
structure BM (B : Nat) (M : Mat) : Prop where
 out : ∃ D : Nat, 0 < D ∧ D ≤ B ∧ ∀ i k, ∃ N : Int, ent M i k * (D : Rat) = (N : Rat) ∧ N.natAbs ≤ B
theorem BM.qb {B : Nat} {M : Mat} (h : BM B M) (i k : Nat) : QB B (ent M i k) := by
 obtain ⟨D, h1, h2, h3⟩ := h.out;obtain ⟨N, h4, h5⟩ := h3 i k;exact qb_of h1 h4 h5 h2
theorem BM.mono {B C : Nat} {M : Mat} (h : BM B M) (hb : B ≤ C) : BM C M := by
 obtain ⟨D, h1, h2, h3⟩ := h.out;refine ⟨D, h1, Nat.le_trans h2 hb, fun i k => ?_⟩;obtain ⟨N, h4, h5⟩ := h3 i k;exact ⟨N, h4, Nat.le_trans h5 hb⟩
theorem BM.div {B : Nat} {M : Mat} (h : BM B M) (i j k c : Nat) (hp : ent M j c ≠ 0) : QB B (ent M i k * (ent M j c)⁻¹) := by
 obtain ⟨D, h1, h2, h3⟩ := h.out;obtain ⟨N, h4, h5⟩ := h3 i k;obtain ⟨N2, h6, h7⟩ := h3 j c
 have hD : (D : Rat) ≠ 0 := by
  intro h0;have := Rat.natCast_inj.1 (show ((D : Nat) : Rat) = ((0 : Nat) : Rat) from h0);omega
 have hN2 : N2 ≠ 0 := by
  intro h0; subst h0;have : ent M j c * (D : Rat) = 0 := h6;rcases Rat.mul_eq_zero.1 this with h | h
  ·exact hp h
  ·exact hD h
 rcases Int.lt_or_gt_of_ne hN2 with hs | hs
 ·refine qb_of (D := N2.natAbs) (N := -N) (by omega) ?_ (by omega) (by omega)
  have e : ((N2.natAbs : Nat) : Rat) = -(N2 : Rat) := by
   have : (N2.natAbs : Int) = -N2 := by omega
   rw [← Rat.intCast_natCast, this, Rat.intCast_neg]
  rw [e, ← h6, Rat.intCast_neg, ← h4]; grind
 ·refine qb_of (D := N2.natAbs) (N := N) (by omega) ?_ (by omega) (by omega)
  have e : ((N2.natAbs : Nat) : Rat) = (N2 : Rat) := by
   have : (N2.natAbs : Int) = N2 := by omega
   rw [← Rat.intCast_natCast, this]
  rw [e, ← h6, ← h4]; grind
theorem ent_out {M : Mat} {i k : Nat} (h : M.length ≤ i) : ent M i k = 0 := by
 unfold ent; rw [List.getElem?_eq_none h]; rfl
theorem abs2 {a b c d : Int} {B : Nat} (h1 : a.natAbs ≤ B) (h2 : b.natAbs ≤ B) (h3 : c.natAbs ≤ B) (h4 : d.natAbs ≤ B) : (a * b - c * d).natAbs ≤ 2 * B * B := by
 have e1 : (a * b).natAbs ≤ B * B := by rw [Int.natAbs_mul]; exact Nat.mul_le_mul h1 h2
 have e2 : (c * d).natAbs ≤ B * B := by rw [Int.natAbs_mul]; exact Nat.mul_le_mul h3 h4
 have := Int.natAbs_sub_le (a * b) (c * d);rw [Nat.mul_assoc]; omega
theorem BM.step {B w r c i : Nat} {M : Mat} (h : BM B M) (hw : Wide w M) (hr : r < M.length) (hi : i < M.length) (hp : ent M i c ≠ 0) : BM (2 * B * B) (pivS M r c i) := by
 obtain ⟨D, h1, h2, h3⟩ := h.out;obtain ⟨P, h6, h7⟩ := h3 i c
 have hD : (D : Rat) ≠ 0 := by
  intro h0;have := Rat.natCast_inj.1 (show ((D : Nat) : Rat) = ((0 : Nat) : Rat) from h0);omega
 have hP : P ≠ 0 := by
  intro h0; subst h0;have : ent M i c * (D : Rat) = 0 := h6;rcases Rat.mul_eq_zero.1 this with h | h
  ·exact hp h
  ·exact hD h
 obtain ⟨σ, hs, hs2, hs3⟩ : ∃ σ : Int, (P.natAbs : Int) = σ * P ∧ (σ = 1 ∨ σ = -1) ∧ ((P.natAbs : Nat) : Rat) = (σ : Rat) * (P : Rat) := by
  rcases Int.lt_or_gt_of_ne hP with hs | hs
  ·exact ⟨-1, by omega, .inr rfl, by rw [← Rat.intCast_natCast, ← Rat.intCast_mul]; congr 1; omega⟩
  ·exact ⟨1, by omega, .inl rfl, by rw [← Rat.intCast_natCast, ← Rat.intCast_mul]; congr 1; omega⟩
 have hB : 1 ≤ B := by omega
 have hBB : B * B ≤ 2 * B * B := by rw [Nat.mul_assoc]; omega
 refine ⟨D * P.natAbs, Nat.mul_pos h1 (by omega), Nat.le_trans (Nat.mul_le_mul h2 h7) hBB, fun k d => ?_⟩;rcases Nat.lt_or_ge k M.length with hk | hk
 ·rw [ziF hw hr hi hk, Rat.natCast_mul, hs3];obtain ⟨A, a1, a2⟩ := h3 i d;have sa : ∀ z : Int, (σ * z).natAbs = z.natAbs := fun z => by rcases hs2 with e | e <;> subst e <;> omega
  by_cases e1 : k = r
  ·rw [if_pos e1];refine ⟨σ * (A * D), ?_, ?_⟩
   ·rw [Rat.intCast_mul, Rat.intCast_mul, ← a1, ← h6, Rat.intCast_natCast]; grind
   ·rw [sa, Int.natAbs_mul, Int.natAbs_natCast]; exact Nat.le_trans (Nat.mul_le_mul a2 h2) hBB
  ·rw [if_neg e1]
   have gen : ∀ j, ∃ N : Int, (ent M j d - ent M j c * (ent M i d * (ent M i c)⁻¹)) * ((D : Rat) * ((σ : Rat) * (P : Rat))) = (N : Rat) ∧ N.natAbs ≤ 2 * B * B := fun j => by
    obtain ⟨E, b1, b2⟩ := h3 j d;obtain ⟨F, c1, c2⟩ := h3 j c;refine ⟨σ * (E * P - F * A), ?_, ?_⟩
    ·rw [Rat.intCast_mul, Rat.intCast_sub, Rat.intCast_mul, Rat.intCast_mul, ← a1, ← b1, ← c1, ← h6]; grind
    ·rw [sa]; exact abs2 b2 h7 c2 a2
   split
   ·exact gen r
   ·exact gen k
 ·rw [ent_out (by rw [zeK]; exact hk)];exact ⟨0, by rw [Rat.zero_mul]; rfl, by simp⟩
def bK (B : Nat) : Nat → Nat
 | 0 => B
 | n + 1 => 2 * bK B n * bK B n
theorem zlT {B : Nat} (h : 0 < B) : ∀ n, 0 < bK B n
 | 0 => h
 | n + 1 => by
  have := zlT h n;unfold bK; exact Nat.mul_pos (Nat.mul_pos (by decide) this) this
theorem zpB {B w : Nat} {M : Mat} (hB : 0 < B) (hw : Wide w M) (h : BM B M) : ∀ c, BM (bK B c) (pivK M c).1
 | 0 => h
 | c + 1 => by
  have ih := zpB hB hw h c;have hp := zcg hw c;have h0 := zlT hB c;rw [zcB]
  cases e : pivAt (pivK M c).1 c ((pivK M c).1.length - (pivK M c).2.length) (pivK M c).2.length with
  | none =>
   have : pivF (pivK M c) c = pivK M c := by unfold pivF; rw [e]
   rw [this];refine ih.mono ?_;show bK B c ≤ 2 * bK B c * bK B c
   exact Nat.le_trans (by omega) (Nat.le_mul_of_pos_right _ h0)
  | some i =>
   have : pivF (pivK M c) c = (pivS (pivK M c).1 (pivK M c).2.length c i, (pivK M c).2 ++ [c]) := by unfold pivF; rw [e]
   rw [this];obtain ⟨h1, h2, h3, _⟩ := zfm e;have hle := hp.le;exact ih.step hp.wide (by omega) (by omega) h3
theorem bm_of {B : Nat} {M : Mat} (hB : 0 < B) (h : ∀ i k, ∃ N : Int, ent M i k = (N : Rat) ∧ N.natAbs ≤ B) : BM B M := by
 refine ⟨1, by decide, hB, fun i k => ?_⟩;obtain ⟨N, h1, h2⟩ := h i k;exact ⟨N, by rw [h1]; exact Rat.mul_one _, h2⟩
end Go.Den
noncomputable section
namespace Go.Proofs.YtlejimjgagfalaaGreatDoor
open Go Go.Den Go.Lib
set_option maxRecDepth 100000
abbrev sV (x : Rat) : Value := .string (tx (rt x))
abbrev s1q (x : Rat) : List Value := [sV x]
abbrev slN (n : Nat) (q : Option Addr × Nat) : List Value := [.slice q.1 n q.2]
structure GridAt (H : AHeap) (p : Option Addr) (n : Nat) (M : Mat) : Prop where
 out : ∃ Q : List (Option Addr × Nat), Q.length = M.length ∧ SlAt H 1 (slN n) p Q ∧ ∀ i (h : i < M.length) (h2 : i < Q.length), SlAt H 1 s1q Q[i].1 M[i]
theorem GridAt.ext {H H' : AHeap} {p : Option Addr} {n : Nat} {M : Mat} (h : GridAt H p n M) (hE : Ext H H') : GridAt H' p n M := by
 obtain ⟨Q, h1, h2, h3⟩ := h.out;exact ⟨Q, h1, h2.ext hE, fun i a b => (h3 i a b).ext hE⟩
abbrev rwU (n : Nat) (b : Nat) : Value := .slice (some ⟨b, 0, none⟩) n n
abbrev rwV (n : Nat) (b : Nat) : List Value := [rwU n b]
theorem zdl {α : Type} (g : α → Value) : ∀ l : List α, l.flatMap (fun x => [g x]) = l.map g
 | [] => rfl
 | a :: r => by rw [List.flatMap_cons, List.map_cons, zdl g r]; rfl
structure RowsAt (H : AHeap) (K : Nat) (bs : List Nat) (n : Nat) (M : Mat) : Prop where
 len : bs.length = M.length
 wide : Wide n M
 top : ∃ z s, H.get K = some (.cells (bs.map (rwU n)) z s false)
 row : ∀ i (h : i < M.length) (h2 : i < bs.length), ∃ z s, H.get bs[i] = some (.cells (M[i].map sV) z s false)
 nodup : bs.Nodup
 off : K ∉ bs
theorem zb1 {n : Nat} {M : Mat} (hw : Wide n M) {i : Nat} (h : i < M.length) : M[i].length = n := by
 have := hw i h;rw [List.getElem?_eq_getElem h] at this; exact this
theorem RowsAt.grid {H : AHeap} {K : Nat} {bs : List Nat} {n : Nat} {M : Mat} (h : RowsAt H K bs n M) : GridAt H (some ⟨K, 0, none⟩) n M := by
 obtain ⟨z, s, hg⟩ := h.top;refine ⟨bs.map fun b => (some ⟨b, 0, none⟩, n), by rw [List.length_map]; exact h.len, ?_, fun i a b => ?_⟩
 ·refine zaB (g := fun q : Option Addr × Nat => .slice q.1 n q.2) (z := z) (s := s) (ro := false) ?_;rw [List.map_map]; exact hg
 ·rw [List.length_map] at b;obtain ⟨z, s, hr⟩ := h.row i a b;simp only [List.getElem_map];exact zaB (g := sV) hr
theorem zom {cs : List Value} {o i n m : Nat} {Q : List (Option Addr × Nat)} (hw : ∀ i (h : i < Q.length), sliceIn cs (o + i * 1) 1 = some (slN n Q[i])) (h : i < Q.length) : pt false m cs (o + i * 1) = some (.slice Q[i].1 n Q[i].2) :=
 zgK (g := fun q : Option Addr × Nat => .slice q.1 n q.2) hw h
theorem znj {H : AHeap} {p : Option Addr} {c n : Nat} {M : Mat} (hg : GridAt H p n M) (hM : M ≠ []) : Ret Tryz.prog 141 [.slice p M.length c] H (I n) H := by
 obtain ⟨Q, hQ, hs, hr⟩ := hg.out;have h0 : 0 < M.length := List.length_pos_iff.2 hM;have h0' : 0 < Q.length := by omega
 obtain ⟨b, o, cs, z, s, ro, rfl, hb, hw⟩ := hs.out (by intro e; rw [e] at h0'; simp at h0');rw [← hQ] at h0 ⊢;clear hr hQ h0';refine zae Tryz.func141 rfl rfl rfl fun hc => ?_
 refine zst ?_;refine zq0 ?_;apply zaf;refine zah rfl (by rw [beq_eq_false_iff_ne]; omega) ?_;refine zst ?_;refine zq2 ?_;apply zad; exact zaw rfl (by exact zaj (by assumption) (by assumption)) rfl (by exact zom (by assumption) (by omega)); exact rfl;refine zst ?_;exact zab hc rfl rfl ⟨rfl, rfl⟩
structure MatK (H h : AHeap) (K : Nat) (bs : List Nat) (n : Nat) (M : Mat) : Prop where
 clo : Closed h
 ext : Ext H h
 rows : RowsAt h K bs n M
 k0 : own K = true
 k1 : K < h.fresh
 k2 : H.fresh ≤ K
 b0 : ∀ b ∈ bs, own b = true ∧ b < h.fresh ∧ H.fresh ≤ b
section
variable {H h : AHeap} {K : Nat} {bs : List Nat} {n : Nat} {M : Mat}
theorem zg3 (hc : Closed H) (hE : Ext H h) {b : Nat} (hb : own b = true) (hge : H.fresh ≤ b) (x : ABlk) : Ext H (h.put b x) := fun c y hy => by
 have hne : c ≠ b := by
  intro e;subst e;have := Closed.lt hc hy;rcases this with h1 | h1
  ·rw [zao.1 hb] at h1; omega
  ·omega
 exact zk8 hb hne (hE c y hy)
theorem zjp {l : List Nat} (h : l.Nodup) {x y : Nat} (hx : x < l.length) (hy : y < l.length) (e : l[x] = l[y]) : x = y := by
 rcases Nat.lt_trichotomy x y with h1 | h1 | h1
 ·exact absurd e (List.pairwise_iff_getElem.1 h x y hx hy h1)
 ·exact h1
 ·exact absurd e.symm (List.pairwise_iff_getElem.1 h y x hy hx h1)
theorem MatK.turn (hc : Closed H) (h1 : MatK H h K bs n M) {i : Nat} (hi : i < M.length) (hi2 : i < bs.length) (r : List Rat) (hr : r.length = n) {z : Nat} {s : Bool} (hz : True) :
  MatK H (h.put bs[i] (.cells (r.map sV) z s false)) K bs n (M.set i r) := by
 have hb := h1.b0 _ (List.getElem_mem hi2);have hKb : K ≠ bs[i] := fun e => h1.rows.off (e ▸ List.getElem_mem hi2)
 refine ⟨zc9 h1.clo hb.1 hb.2.1, zg3 hc h1.ext hb.1 hb.2.2 _, ⟨by rw [List.length_set]; exact h1.rows.len, ?_, ?_, ?_, h1.rows.nodup, h1.rows.off⟩, h1.k0, h1.k1, h1.k2, h1.b0⟩
 ·intro k hk;rw [List.length_set] at hk;by_cases e : k = i
  ·subst e; rw [List.getElem?_set_self hi]; exact hr
  ·rw [List.getElem?_set_ne (fun e2 => e e2.symm)]; exact h1.rows.wide k hk
 ·obtain ⟨z, s, hg⟩ := h1.rows.top;exact ⟨z, s, zk8 hb.1 hKb hg⟩
 ·intro k hk hk2;rw [List.length_set] at hk;by_cases e : k = i
  ·subst e;refine ⟨z, s, ?_⟩;rw [List.getElem_set_self, zf9 hb.1]
  ·obtain ⟨z', s', hg⟩ := h1.rows.row k hk hk2;refine ⟨z', s', ?_⟩;rw [List.getElem_set_ne (fun e2 => e e2.symm)];refine zk8 hb.1 (fun e2 => e ?_) hg;exact zjp h1.rows.nodup hk2 hi2 e2
theorem MatK.swap (hc : Closed H) (h1 : MatK H h K bs n M) {i j : Nat} (hi : i < M.length) (hj : j < M.length) (hi2 : i < bs.length) (hj2 : j < bs.length) {z : Nat} {s : Bool} :
  MatK H (h.put K (.cells (((bs.set i bs[j]).set j bs[i]).map (rwU n)) z s false)) K ((bs.set i bs[j]).set j bs[i]) n (swapM M i j) := by
 have hlen : ((bs.set i bs[j]).set j bs[i]).length = bs.length := by simp
 have hget : ∀ k (hk : k < ((bs.set i bs[j]).set j bs[i]).length), ((bs.set i bs[j]).set j bs[i])[k] = if k = j then bs[i] else if k = i then bs[j] else bs[k]'(by rw [hlen] at hk; exact hk) := fun k hk => by
  rw [List.getElem_set, List.getElem_set];by_cases e : j = k
  ·rw [if_pos e, if_pos e.symm]
  ·rw [if_neg e, if_neg (show ¬ k = j from fun x => e x.symm)];by_cases e2 : i = k
   ·rw [if_pos e2, if_pos e2.symm]
   ·rw [if_neg e2, if_neg (show ¬ k = i from fun x => e2 x.symm)]
 have hmem : ∀ b ∈ (bs.set i bs[j]).set j bs[i], b ∈ bs := fun b hb => by
  obtain ⟨k, hk, rfl⟩ := List.getElem_of_mem hb;rw [hget k hk];split
  ·exact List.getElem_mem _
  ·split <;> exact List.getElem_mem _
 refine ⟨zc9 h1.clo h1.k0 h1.k1, zg3 hc h1.ext h1.k0 h1.k2 _, ⟨by rw [hlen, zbm]; exact h1.rows.len, zgl h1.rows.wide hi hj, ⟨z, s, zf9 h1.k0⟩, ?_, ?_, fun hm => h1.rows.off (hmem _ hm)⟩, h1.k0, h1.k1, h1.k2, fun b hb => h1.b0 b (hmem b hb)⟩
 ·intro k hk hk2;rw [zbm] at hk;have hk3 : k < bs.length := by rw [hlen] at hk2; exact hk2
  have gen : ∀ m (hm : m < M.length) (hm2 : m < bs.length), ((bs.set i bs[j]).set j bs[i])[k] = bs[m] → (swapM M i j)[k]?.getD [] = M[m]?.getD [] → ∃ z' s', (h.put K (.cells (((bs.set i bs[j]).set j bs[i]).map (rwU n)) z s false)).get (((bs.set i bs[j]).set j bs[i])[k]) = some (.cells (((swapM M i j)[k]'(by rw [zbm]; exact hk)).map sV) z' s' false) := by
   intro m hm hm2 e1 e2;obtain ⟨z', s', hg⟩ := h1.rows.row m hm hm2;rw [List.getElem?_eq_getElem (by rw [zbm]; exact hk), List.getElem?_eq_getElem hm] at e2;simp only [Option.getD_some] at e2;refine ⟨z', s', ?_⟩;rw [e1, e2];exact zk8 h1.k0 (fun e => h1.rows.off (e ▸ List.getElem_mem hm2)) hg
  have hS := zcw hi hj k;have hB := hget k hk2;by_cases e : k = j
  ·exact gen i hi hi2 (by rw [hB, if_pos e]) (by rw [hS, if_pos e])
  ·by_cases e2 : k = i
   ·exact gen j hj hj2 (by rw [hB, if_neg e, if_pos e2]) (by rw [hS, if_neg e, if_pos e2])
   ·exact gen k hk hk3 (by rw [hB, if_neg e, if_neg e2]) (by rw [hS, if_neg e, if_neg e2])
 ·rw [List.nodup_iff_pairwise_ne, List.pairwise_iff_getElem];intro a b ha hb hab;rw [hget a ha, hget b hb];have inj : ∀ x y (hx : x < bs.length) (hy : y < bs.length), bs[x] = bs[y] → x = y := fun x y hx hy e => zjp h1.rows.nodup hx hy e
  rw [hlen] at ha hb;intro e;by_cases a1 : a = j
  ·rw [if_pos a1, if_neg (show ¬ b = j by omega)] at e;by_cases b2 : b = i
   ·rw [if_pos b2] at e; have := inj _ _ hi2 hj2 e; omega
   ·rw [if_neg b2] at e; have := inj _ _ hi2 hb e; omega
  ·rw [if_neg a1] at e;by_cases a2 : a = i
   ·rw [if_pos a2] at e;by_cases b1 : b = j
    ·rw [if_pos b1] at e; have := inj _ _ hj2 hi2 e; omega
    ·rw [if_neg b1, if_neg (show ¬ b = i by omega)] at e;have := inj _ _ hj2 hb e; omega
   ·rw [if_neg a2] at e;by_cases b1 : b = j
    ·rw [if_pos b1] at e; have := inj _ _ ha hi2 e; omega
    ·rw [if_neg b1] at e;by_cases b2 : b = i
     ·rw [if_pos b2] at e; have := inj _ _ ha hj2 e; omega
     ·rw [if_neg b2] at e; have := inj _ _ ha hb e; omega
end
end Go.Proofs.YtlejimjgagfalaaGreatDoor
