import Derived.Test.YtlejimjgagfalaaGreatDoorMeA
import Derived.Test.YtlejimjgagfalaaGreatDoorQmC
import Derived.Test.YtlejimjgagfalaaGreatDoorSmA
import Derived.Test.YtlejimjgagfalaaGreatDoorQlA
import Derived.Test.YtlejimjgagfalaaGreatDoorQaB
noncomputable section
namespace Go.Proofs.YtlejimjgagfalaaGreatDoor
open Go Go.Den
set_option maxRecDepth 100000
theorem zga (k : Nat) : (0 : Int) < 1000000000 ^ k := by rw [powI]; exact Int.natCast_pos.2 (zaH k)
theorem zdZ : ∀ {l : List Int} {r : Nat}, DigL l → (∀ k, r ≤ k → l[k]?.getD 0 = 0) → 0 ≤ valW l ∧ valW l < 1000000000 ^ r
 | [], r, _, _ => ⟨Int.le_refl _, zga r⟩
 | x :: t, 0, h, hz => by
  have h0 := hz 0 (Nat.le_refl _);have ih := zdZ (l := t) (r := 0) h.tail (fun k _ => by have := hz (k + 1) (by omega); simpa using this);simp only [List.getElem?_cons_zero, Option.getD_some] at h0;simp only [valW, h0];rw [Int.pow_zero] at ih ⊢
  omega
 | x :: t, r + 1, h, hz => by
  have hx := h.bd x List.mem_cons_self;have ih := zdZ (l := t) (r := r) h.tail (fun k hk => by have := hz (k + 1) (by omega); simpa using this);simp only [valW];rw [Int.pow_succ];omega
theorem ze4 {l : List Int} (h : DigL l) (k : Nat) : 0 ≤ l[k]?.getD 0 ∧ l[k]?.getD 0 < 1000000000 := by
 rcases Nat.lt_or_ge k l.length with h1 | h1
 ·rw [List.getElem?_eq_getElem h1]; exact h.bd _ (List.getElem_mem h1)
 ·rw [List.getElem?_eq_none h1]; exact ⟨Int.le_refl _, by decide⟩
theorem digL_of {l : List Int} (h : ∀ k : Nat, 0 ≤ l[k]?.getD 0 ∧ l[k]?.getD 0 < 1000000000) : DigL l := ⟨fun x hx => by
 obtain ⟨k, hk, rfl⟩ := List.getElem_of_mem hx;have := h k;rw [List.getElem?_eq_getElem hk] at this; exact this⟩
structure SubI (m j u t V i : Nat) (O : List Int) (b : Int) : Prop where
 len : O.length = m
 dig : DigL O
 b0 : 0 ≤ b
 b1 : b ≤ 999999999
 rest : ∀ k, i + j ≤ k → O[k]? = (pw m u)[k]?
 val : valW O - b * 1000000000 ^ (i + j) = (u : Int) - ((t * (V % 1000000000 ^ i) * 1000000000 ^ j : Nat) : Int)
theorem znR {m j u t V : Nat} (hu : u < 1000000000 ^ m) : SubI m j u t V 0 (pw m u) 0 := by
 refine ⟨zaK _ _, zeH _ _, by omega, by omega, fun _ _ => rfl, ?_⟩;rw [zji, Nat.mod_eq_of_lt hu];simp [Nat.mod_one]
theorem znS {m j u t V i : Nat} {O : List Int} {b : Int} (h : SubI m j u t V i O b) (ht : t ≤ 999999999) (hi : i + j < m) {p : Int} (hp : p = ((t * (V / 1000000000 ^ i % 1000000000) : Nat) : Int) + b) :
  SubI m j u t V (i + 1) (O.set (i + j) (if O[i + j]?.getD 0 - p % 1000000000 < 0 then O[i + j]?.getD 0 - p % 1000000000 + 1000000000 else O[i + j]?.getD 0 - p % 1000000000)) (if O[i + j]?.getD 0 - p % 1000000000 < 0 then p / 1000000000 + 1 else p / 1000000000) ∧ 0 ≤ p ∧ p < 1000000000000000000 := by
 obtain ⟨h1, h2, h3, h4, h5, h6⟩ := h;have hO := ze4 h2 (i + j);have hd := Nat.mod_lt (V / 1000000000 ^ i) (show 0 < 1000000000 by omega);obtain ⟨d, hdd⟩ : ∃ d, d = V / 1000000000 ^ i % 1000000000 := ⟨_, rfl⟩
 rw [← hdd] at hp hd;have hm : t * d ≤ 999999999 * 999999999 := Nat.mul_le_mul ht (by omega);have hp0 : 0 ≤ p := by omega
 have hp1 : p ≤ 999999999 * 999999999 + 999999999 := by omega
 obtain ⟨w, hw⟩ : ∃ w, w = O[i + j]?.getD 0 := ⟨_, rfl⟩
 rw [← hw] at hO ⊢;obtain ⟨x', hx'⟩ : ∃ x, x = if w - p % 1000000000 < 0 then w - p % 1000000000 + 1000000000 else w - p % 1000000000 := ⟨_, rfl⟩
 obtain ⟨b', hb'⟩ : ∃ x, x = if w - p % 1000000000 < 0 then p / 1000000000 + 1 else p / 1000000000 := ⟨_, rfl⟩
 rw [← hx', ← hb']
 have key : x' - w = b' * 1000000000 - p ∧ 0 ≤ x' ∧ x' < 1000000000 ∧ 0 ≤ b' ∧ b' ≤ 999999999 := by
  rw [hx', hb'];by_cases hn : w - p % 1000000000 < 0
  ·simp only [if_pos hn]; omega
  ·simp only [if_neg hn]; omega
 refine ⟨⟨by rw [List.length_set]; exact h1, zdr h2 key.2.1 key.2.2.1, key.2.2.2.1, key.2.2.2.2, fun k hk => ?_, ?_⟩, hp0, by omega⟩
 ·rw [List.getElem?_set_ne (by omega)]; exact h5 k (by omega)
 ·rw [zbF _ _ _ (by omega), ← hw, key.1, zbQ V i, ← hdd];have e1 : (1000000000 : Int) ^ (i + 1 + j) = 1000000000 * 1000000000 ^ (i + j) := by rw [show i + 1 + j = (i + j) + 1 by omega, Int.pow_succ, Int.mul_comm]
  rw [e1]
  have e2 : ((t * (d * 1000000000 ^ i + V % 1000000000 ^ i) * 1000000000 ^ j : Nat) : Int) = ((t * d : Nat) : Int) * 1000000000 ^ (i + j) + ((t * (V % 1000000000 ^ i) * 1000000000 ^ j : Nat) : Int) := by
   rw [powI, ← Int.natCast_mul, ← Int.natCast_add]
   congr 1
   rw [zbl, Nat.mul_add, Nat.add_mul]
   congr 1
   rw [Nat.mul_assoc t d, Nat.mul_assoc t, Nat.mul_assoc d]
  rw [e2];generalize (1000000000 : Int) ^ (i + j) = Pw at *
  have e3 : (b' * 1000000000 - p) * Pw = b' * (1000000000 * Pw) - p * Pw := by rw [Int.sub_mul, Int.mul_assoc]
  have e4 : p * Pw = ((t * d : Nat) : Int) * Pw + b * Pw := by rw [hp, Int.add_mul]
  rw [e3, e4];omega
theorem zkV {m j u t V n : Nat} {O : List Int} {b : Int} (h : SubI m j u t V n O b) (hV : V < 1000000000 ^ n) (hr : n + j < m) (hu : u < 1000000000 ^ (n + j + 1)) (hum : u < 1000000000 ^ m) :
  ∃ z : Int, 0 ≤ z ∧ z < 1000000000 ^ (n + j) ∧ DigL (O.set (n + j) 0) ∧ valW (O.set (n + j) 0) = z ∧ (∀ k, n + j < k → O[k]?.getD 0 = 0) ∧ 0 ≤ O[n + j]?.getD 0 ∧ O[n + j]?.getD 0 < 1000000000 ∧ z + (O[n + j]?.getD 0 - b) * 1000000000 ^ (n + j) = (u : Int) - ((t * V * 1000000000 ^ j : Nat) : Int) := by
 obtain ⟨h1, h2, h3, h4, h5, h6⟩ := h;have hO := ze4 h2 (n + j);have hd : DigL (O.set (n + j) 0) := zdr h2 (Int.le_refl _) (by decide)
 have hz : ∀ k, n + j < k → O[k]?.getD 0 = 0 := fun k hk => by
  rw [h5 k (by omega)];rw [zfj hum];have : u < 1000000000 ^ k := Nat.lt_of_lt_of_le hu (Nat.pow_le_pow_right (by decide) hk);rw [Nat.div_eq_of_lt this]; rfl
 have hz0 := zdZ (r := n + j) hd (fun k hk => by
  rcases Nat.lt_or_ge (n + j) k with h7 | h7
  ·rw [List.getElem?_set_ne (by omega)]; exact hz k h7
  ·obtain rfl : k = n + j := by omega
   rw [List.getElem?_set_self (by omega)]; rfl)
 refine ⟨_, hz0.1, hz0.2, hd, rfl, hz, hO.1, hO.2, ?_⟩;rw [zbF _ _ _ (by omega)];rw [Nat.mod_eq_of_lt hV] at h6;rw [← h6];generalize (1000000000 : Int) ^ (n + j) = Pw at *
 rw [Int.sub_mul, Int.sub_mul];omega
theorem zfH {l : List Int} {r : Nat} {a b : Int} : (l.set r a).set r b = l.set r b := List.set_set ..
theorem znQ {m j u t V n : Nat} {O : List Int} {b : Int} (h : SubI m j u t V n O b) (hV : V < 1000000000 ^ n) (hr : n + j < m) (hu : u < 1000000000 ^ (n + j + 1)) (hum : u < 1000000000 ^ m) (ht : t * V * 1000000000 ^ j ≤ u) :
  0 ≤ O[n + j]?.getD 0 - b ∧ O.set (n + j) (O[n + j]?.getD 0 - b) = pw m (u - t * V * 1000000000 ^ j) := by
 obtain ⟨z, z0, z1, zd, zv, _, o0, o1, e⟩ := zkV h hV hr hu hum;have hb := h.b0;have hP := zga (n + j);have hlen := h.len
 have hge : 0 ≤ O[n + j]?.getD 0 - b := by
  rcases Int.lt_or_le (O[n + j]?.getD 0 - b) 0 with h1 | h1
  ·exfalso;have : (O[n + j]?.getD 0 - b) * 1000000000 ^ (n + j) ≤ (-1) * 1000000000 ^ (n + j) := Int.mul_le_mul_of_nonneg_right (by omega) (Int.le_of_lt hP);omega
  ·exact h1
 refine ⟨hge, zol (zdr h.dig hge (by omega)) (by rw [List.length_set]; exact hlen) ?_⟩;have : O.set (n + j) (O[n + j]?.getD 0 - b) = (O.set (n + j) 0).set (n + j) (O[n + j]?.getD 0 - b) := zfH.symm;rw [this, zbF _ _ _ (by rw [List.length_set]; omega), zv, List.getElem?_set_self (by omega)];simp only [Option.getD_some, Int.sub_zero];rw [e]; omega
structure AddI (m j : Nat) (v1 : Int) (V n i : Nat) (O : List Int) (c : Int) : Prop where
 len : O.length = m
 dig : ∀ k, k ≠ n + j → 0 ≤ O[k]?.getD 0 ∧ O[k]?.getD 0 < 1000000000
 top : O[n + j]?.getD 0 = -1
 above : ∀ k, n + j < k → O[k]?.getD 0 = 0
 c0 : 0 ≤ c
 c1 : c ≤ 1
 val : valW O + c * 1000000000 ^ (i + j) = v1 + ((V % 1000000000 ^ i * 1000000000 ^ j : Nat) : Int)
theorem znP {m j u t V n : Nat} {O : List Int} {b : Int} (h : SubI m j u t V n O b) (hV : V < 1000000000 ^ n) (hr : n + j < m) (hu : u < 1000000000 ^ (n + j + 1)) (hum : u < 1000000000 ^ m) (ht : u < t * V * 1000000000 ^ j) (ht2 : t * V * 1000000000 ^ j ≤ u + V * 1000000000 ^ j) :
  O[n + j]?.getD 0 - b = -1 ∧ AddI m j ((u : Int) - ((t * V * 1000000000 ^ j : Nat) : Int)) V n 0 (O.set (n + j) (O[n + j]?.getD 0 - b)) 0 := by
 obtain ⟨z, z0, z1, zd, zv, za, o0, o1, e⟩ := zkV h hV hr hu hum;have hb := h.b0;have hP := zga (n + j);have hlen := h.len
 have hVb : ((V * 1000000000 ^ j : Nat) : Int) < 1000000000 ^ (n + j) := by
  rw [powI, zbl];exact Int.ofNat_lt.2 (Nat.mul_lt_mul_of_pos_right hV (zaH j))
 have hneg : O[n + j]?.getD 0 - b = -1 := by
  rcases Int.lt_trichotomy (O[n + j]?.getD 0 - b) (-1) with h1 | h1 | h1
  ·exfalso;have : (O[n + j]?.getD 0 - b) * 1000000000 ^ (n + j) ≤ (-2) * 1000000000 ^ (n + j) := Int.mul_le_mul_of_nonneg_right (by omega) (Int.le_of_lt hP);omega
  ·exact h1
  ·exfalso;have : 0 ≤ (O[n + j]?.getD 0 - b) * 1000000000 ^ (n + j) := Int.mul_nonneg (by omega) (Int.le_of_lt hP);omega
 have hself : (O.set (n + j) (O[n + j]?.getD 0 - b))[n + j]?.getD 0 = -1 := by rw [List.getElem?_set_self (by omega), hneg]; rfl
 refine ⟨hneg, by rw [List.length_set]; exact hlen, fun k hk => ?_, hself, fun k hk => ?_, by omega, by omega, ?_⟩
 ·rw [List.getElem?_set_ne (by omega)]; exact ze4 h.dig k
 ·rw [List.getElem?_set_ne (by omega)]; exact za k hk
 ·have : O.set (n + j) (O[n + j]?.getD 0 - b) = (O.set (n + j) 0).set (n + j) (O[n + j]?.getD 0 - b) := zfH.symm;rw [this, zbF _ _ _ (by rw [List.length_set]; omega), zv, List.getElem?_set_self (by omega)];simp only [Option.getD_some, Int.sub_zero, Nat.pow_zero, Nat.mod_one, Nat.zero_mul, Int.zero_mul, Int.add_zero];rw [e]; simp
theorem zpI {m j : Nat} {v1 : Int} {V n i : Nat} {O : List Int} {c : Int} (h : AddI m j v1 V n i O c) (hi : i < n) (hr : n + j < m) {s : Int} (hs : s = O[i + j]?.getD 0 + ((V / 1000000000 ^ i % 1000000000 : Nat) : Int) + c) :
  AddI m j v1 V n (i + 1) (O.set (i + j) (s % 1000000000)) (s / 1000000000) ∧ 0 ≤ s ∧ s < 2000000000 := by
 obtain ⟨h1, h2, h3, h4, h5, h6, h7⟩ := h;have hO := h2 (i + j) (by omega);have hd := Nat.mod_lt (V / 1000000000 ^ i) (show 0 < 1000000000 by omega);obtain ⟨d, hdd⟩ : ∃ d, d = V / 1000000000 ^ i % 1000000000 := ⟨_, rfl⟩
 rw [← hdd] at hs hd;refine ⟨⟨by rw [List.length_set]; exact h1, fun k hk => ?_, ?_, fun k hk => ?_, by omega, by omega, ?_⟩, by omega, by omega⟩
 ·by_cases e : i + j = k
  ·subst e; rw [List.getElem?_set_self (by omega)]; simp only [Option.getD_some]; omega
  ·rw [List.getElem?_set_ne e]; exact h2 k hk
 ·rw [List.getElem?_set_ne (by omega)]; exact h3
 ·rw [List.getElem?_set_ne (by omega)]; exact h4 k hk
 ·rw [zbF _ _ _ (by omega), zbQ V i, ← hdd];have e1 : (1000000000 : Int) ^ (i + 1 + j) = 1000000000 * 1000000000 ^ (i + j) := by rw [show i + 1 + j = (i + j) + 1 by omega, Int.pow_succ, Int.mul_comm]
  rw [e1]
  have e2 : (((d * 1000000000 ^ i + V % 1000000000 ^ i) * 1000000000 ^ j : Nat) : Int) = (d : Int) * 1000000000 ^ (i + j) + ((V % 1000000000 ^ i * 1000000000 ^ j : Nat) : Int) := by
   rw [powI, ← Int.natCast_mul, ← Int.natCast_add]
   congr 1
   rw [zbl, Nat.add_mul, Nat.mul_assoc]
  rw [e2];generalize (1000000000 : Int) ^ (i + j) = Pw at *
  have e3 : (s % 1000000000 - O[i + j]?.getD 0) * Pw + s / 1000000000 * (1000000000 * Pw) = ((d : Int) + c) * Pw := by
   rw [← Int.mul_assoc, ← Int.add_mul]
   congr 1; omega
  rw [Int.add_mul] at e3;omega
theorem zrm {m j : Nat} {v1 : Int} {V n x : Nat} {O : List Int} {c : Int} (h : AddI m j v1 V n n O c) (hV : V < 1000000000 ^ n) (hr : n + j < m) (hx : v1 + ((V * 1000000000 ^ j : Nat) : Int) = (x : Int)) :
  O.set (n + j) (-1 + c) = pw m x := by
 obtain ⟨h1, h2, h3, h4, h5, h6, h7⟩ := h;rw [Nat.mod_eq_of_lt hV, hx] at h7;have hP := zga (n + j)
 have hd : DigL (O.set (n + j) 0) := digL_of fun k => by
  by_cases e : n + j = k
  ·subst e; rw [List.getElem?_set_self (by omega)]; exact ⟨Int.le_refl _, by decide⟩
  ·rw [List.getElem?_set_ne e]; exact h2 k (by omega)
 have hz := zdZ (r := n + j) hd (fun k hk => by
  by_cases e : n + j = k
  ·subst e; rw [List.getElem?_set_self (by omega)]; rfl
  ·rw [List.getElem?_set_ne e]; exact h4 k (by omega))
 have hv := zbF O (n + j) 0 (by omega);rw [h3] at hv
 have hc : c = 1 := by
  rcases Int.lt_or_le c 1 with h8 | h8
  ·exfalso;obtain rfl : c = 0 := by omega
   generalize (1000000000 : Int) ^ (n + j) = Pw at *
   omega
  ·omega
 subst hc;refine zol ?_ (by rw [List.length_set]; exact h1) ?_
 ·exact hd
 ·rw [zbF _ _ _ (by omega), h3];generalize (1000000000 : Int) ^ (n + j) = Pw at *
  omega
noncomputable def sndQ : Code → Code
 | .seq _ b => b
 | c => c
noncomputable def divC : Code := sndQ (sndQ (sndQ (sndQ (sndQ (sndQ (sndQ (sndQ (Tryz.f257.body.getD .skip))))))))
structure DS (n0 K q k V : Nat) (f : Int) (s : Bool) (M : List (Option ABlk)) (U Q : List Int) : Prop where
 len : M.length = n0
 m0 : M[0]? = some (some (.cells [I f] 1 false false))
 m1 : M[1]? = some (some (.cells ((pw (k + 3) V).map I) 1 false false))
 mu : M[K]? = some (some (.cells (U.map I) 1 s false))
 mq : M[q]? = some (some (.cells (Q.map I) 1 false false))
theorem DS.putU {n0 K q k V : Nat} {f : Int} {s : Bool} {M M' : List (Option ABlk)} {U U' Q : List Int} (h : DS n0 K q k V f s M U Q) (hK : 2 ≤ K) (hne : K ≠ q) (hl : M'.length = M.length) (ho : ∀ j, j ≠ K → M'[j]? = M[j]?) (hk : M'[K]? = some (some (.cells (U'.map I) 1 s false))) : DS n0 K q k V f s M' U' Q :=
 ⟨hl.trans h.len, (ho 0 (by omega)).trans h.m0, (ho 1 (by omega)).trans h.m1, hk, (ho q (by omega)).trans h.mq⟩
theorem DS.putQ {n0 K q k V : Nat} {f : Int} {s : Bool} {M M' : List (Option ABlk)} {U Q' Q : List Int} (h : DS n0 K q k V f s M U Q) (hq : 2 ≤ q) (hne : K ≠ q) (hl : M'.length = M.length) (ho : ∀ j, j ≠ q → M'[j]? = M[j]?) (hk : M'[q]? = some (some (.cells (Q'.map I) 1 false false))) : DS n0 K q k V f s M' U Q' :=
 ⟨hl.trans h.len, (ho 0 (by omega)).trans h.m0, (ho 1 (by omega)).trans h.m1, (ho K (by omega)).trans h.mu, hk⟩
def qHi (N z r : Nat) : List Int := pw N (z / 1000000000 ^ r * 1000000000 ^ r)
theorem zoi {N z j : Nat} (hj : j < N) (hz : z < 1000000000 ^ N) : (qHi N z (j + 1)).set j ((z / 1000000000 ^ j % 1000000000 : Nat) : Int) = qHi N z j := by
 have hP := zaH j;have l1 : z / 1000000000 ^ (j + 1) * 1000000000 ^ (j + 1) < 1000000000 ^ N := Nat.lt_of_le_of_lt (Nat.div_mul_le_self _ _) hz;have hd := Nat.mod_lt (z / 1000000000 ^ j) (show 0 < 1000000000 by omega);refine zol (zdr (zeH _ _) (by omega) (by omega)) (by rw [List.length_set]; exact zaK _ _) ?_;unfold qHi;rw [zbF _ _ _ (by rw [zaK]; exact hj), zji, Nat.mod_eq_of_lt l1, zfj l1]
 have e1 : z / 1000000000 ^ (j + 1) * 1000000000 ^ (j + 1) / 1000000000 ^ j % 1000000000 = 0 := by
  rw [Nat.pow_succ, Nat.mul_comm (1000000000 ^ j), ← Nat.mul_assoc, Nat.mul_div_cancel _ hP, Nat.mul_mod_left]
 rw [e1, powI]
 have e2 : z / 1000000000 ^ j = z / 1000000000 ^ (j + 1) * 1000000000 + z / 1000000000 ^ j % 1000000000 := by
  rw [Nat.pow_succ, ← Nat.div_div_eq_div_mul, Nat.mul_comm (z / 1000000000 ^ j / 1000000000)];exact (Nat.div_add_mod _ _).symm
 have e3 : z / 1000000000 ^ j * 1000000000 ^ j = z / 1000000000 ^ (j + 1) * 1000000000 ^ (j + 1) + z / 1000000000 ^ j % 1000000000 * 1000000000 ^ j := by
  conv => lhs; rw [e2]
  rw [Nat.add_mul, Nat.pow_succ, Nat.mul_comm (1000000000 ^ j) 1000000000, ← Nat.mul_assoc]
 rw [e3];simp
theorem qHi_top {N z : Nat} (hz : z < 1000000000 ^ N) : qHi N z N = List.replicate N 0 := by
 unfold qHi; rw [Nat.div_eq_of_lt hz, Nat.zero_mul, zki]
theorem zqg (N z : Nat) : qHi N z 0 = pw N z := by simp [qHi]
theorem zqa {A V j : Nat} (hV : 0 < V) : A % (V * 1000000000 ^ (j + 1)) / 1000000000 ^ j / V = A / V / 1000000000 ^ j % 1000000000 ∧
  A % (V * 1000000000 ^ (j + 1)) / 1000000000 ^ j < 1000000000 * V ∧
  A % (V * 1000000000 ^ j) + A / V / 1000000000 ^ j % 1000000000 * V * 1000000000 ^ j = A % (V * 1000000000 ^ (j + 1)) := by
 have hP := zaH j;have e0 : V * 1000000000 ^ (j + 1) = V * 1000000000 ^ j * 1000000000 := by rw [Nat.pow_succ, Nat.mul_assoc]
 have e1 : A % (V * 1000000000 ^ (j + 1)) / 1000000000 ^ j / V = A / V / 1000000000 ^ j % 1000000000 := by
  rw [Nat.div_div_eq_div_mul, Nat.mul_comm (1000000000 ^ j), e0, Nat.mod_mul_right_div_self, Nat.div_div_eq_div_mul]
 refine ⟨e1, ?_, ?_⟩
 ·rw [Nat.div_lt_iff_lt_mul hP];refine Nat.lt_of_lt_of_le (Nat.mod_lt _ (Nat.mul_pos hV (zaH _))) ?_;rw [e0, Nat.mul_comm 1000000000 V, Nat.mul_assoc, Nat.mul_assoc, Nat.mul_comm 1000000000];exact Nat.le_refl _
 ·rw [Nat.div_div_eq_div_mul, e0, Nat.mod_mul (x := A) (a := V * 1000000000 ^ j) (b := 1000000000)];rw [Nat.mul_assoc, Nat.mul_comm (A / (V * 1000000000 ^ j) % 1000000000)]
theorem zph {a : List Int} {d : Int} : ∀ j k, j ≤ a.length → k < a.length - j → (dvQ a d j)[k]?.getD 0 = 0
 | 0, k, _, h => by
  simp only [dvQ, List.getElem?_replicate]
  split <;> rfl
 | j + 1, k, h, hk => by
  simp only [dvQ];rw [List.getElem?_set_ne (by omega)];exact zph j k (by omega) (by omega)
theorem znG {a : List Int} {k : Nat} (h : k < a.length) : valW (a.take (k + 1)) = valW (a.take k) + a[k]?.getD 0 * 1000000000 ^ k := by
 rw [List.take_succ_eq_append_getElem h, ziW, List.length_take, Nat.min_eq_left (by omega), List.getElem?_eq_getElem h]; rfl
theorem zpg {a : List Int} {d : Int} (hd : 0 < d) : ∀ j, j ≤ a.length → valW (dvQ a d j) * d + dvR a d j * 1000000000 ^ (a.length - j) = valW a - valW (a.take (a.length - j))
 | 0, _ => by simp [dvQ, dvR, znF]
 | j + 1, h => by
  have ih := zpg (a := a) hd j (by omega);have hlow := zph (a := a) (d := d) j (a.length - (j + 1)) (by omega) (by omega);obtain ⟨k, hk⟩ : ∃ k, k = a.length - (j + 1) := ⟨_, rfl⟩
  have hk2 : a.length - j = k + 1 := by omega
  have hl := zen a d j;rw [hk2, znG (by omega), Int.pow_succ] at ih;simp only [dvQ, dvR];rw [← hk];rw [← hk] at hlow;rw [zbF _ _ _ (by omega), hlow, Int.sub_zero];have eS : dvS a d j = dvR a d j * 1000000000 + a[k]?.getD 0 := by unfold dvS; rw [← hk]
  rw [eS];obtain ⟨S, hS⟩ : ∃ S, S = dvR a d j * 1000000000 + a[k]?.getD 0 := ⟨_, rfl⟩
  rw [← hS];have e1 := Int.mul_ediv_add_emod S d;generalize (1000000000 : Int) ^ k = P at *
  have e2 : (valW (dvQ a d j) + S / d * P) * d + S % d * P = valW (dvQ a d j) * d + S * P := by
   rw [Int.add_mul, Int.add_assoc]
   congr 1
   rw [Int.mul_right_comm, ← Int.add_mul, Int.mul_comm (S / d), e1]
  rw [e2, hS, Int.add_mul];have e3 : dvR a d j * 1000000000 * P = dvR a d j * (P * 1000000000) := by rw [Int.mul_assoc, Int.mul_comm P]
  rw [e3];omega
theorem zpi {a : List Int} {d : Int} (ha : DigL a) (hd : 0 < d) (hd2 : d < 1000000000) : ∀ j, DigL (dvQ a d j)
 | 0 => ⟨fun x hx => by simp only [dvQ, List.mem_replicate] at hx; omega⟩
 | j + 1 => by
  obtain ⟨h1, h2⟩ := zrE ha hd hd2 j;refine zdr (zpi ha hd hd2 j) (Int.ediv_nonneg h1 (by omega)) ?_;exact Int.ediv_lt_of_lt_mul hd (by rw [Int.mul_comm]; exact h2)
theorem zrF {n v f : Nat} (hv : v < 1000000000 ^ n) (hf : 1 ≤ f) (hf2 : f < 1000000000) : dvQ (pw n v) (f : Int) n = pw n (v / f) ∧ dvR (pw n v) (f : Int) n = ((v % f : Nat) : Int) := by
 have hd : (0 : Int) < f := by omega
 have h1 := zpg (a := pw n v) hd n (by rw [zaK]; exact Nat.le_refl _);have h2 := zpf (a := pw n v) hd n;rw [zaK, Nat.sub_self, List.take_zero, zji, Nat.mod_eq_of_lt hv] at h1;simp only [Int.pow_zero, Int.mul_one, valW, Int.sub_zero] at h1;have h3 := zpi (zeH n v) hd (by omega) n;have h4 := zkT h3;obtain ⟨Q, hQ⟩ : ∃ Q : Nat, valW (dvQ (pw n v) (f : Int) n) = (Q : Int) := ⟨(valW (dvQ (pw n v) (f : Int) n)).toNat, by omega⟩
 obtain ⟨R, hR⟩ : ∃ R : Nat, dvR (pw n v) (f : Int) n = (R : Int) := ⟨(dvR (pw n v) (f : Int) n).toNat, by omega⟩
 rw [hQ, hR] at h1;rw [hR] at h2
 have e : v = f * Q + R := by
  rw [← Int.natCast_mul, ← Int.natCast_add] at h1;have := Int.ofNat.inj h1;rw [Nat.mul_comm]; exact this.symm
 have hRf : R < f := by omega
 have eq1 : v / f = Q := by rw [e, Nat.mul_add_div (by omega), Nat.div_eq_of_lt hRf, Nat.add_zero]
 have eq2 : v % f = R := by rw [e, Nat.mul_add_mod, Nat.mod_eq_of_lt hRf]
 rw [eq1, eq2];exact ⟨zol h3 (by rw [zen, zaK]) hQ, hR⟩
def divVal (H : AHeap) (la k f x y : Nat) : Value := .tuple ⟨[.slice (some ⟨H.fresh, 0, none⟩) (dlen (x / y)) (la - 1 - k), .slice (some ⟨H.fresh + 2, 0, none⟩) (dlen (x % y)) (dlen (x % y * f))]⟩
def divHp (H : AHeap) (la k f x y : Nat) : AHeap := (H.add (.cells ((pw (la - 1 - k) (x / y)).map I) 1 false false)).add (.cells ((pw (dlen (x % y * f)) (x % y)).map I) 1 false false)
set_option maxHeartbeats 16000000 in
theorem zjJ {H : AHeap} {lo : Nat} {L : List (Option ABlk)} {K la k f x y : Nat} {cc : Nat} {s : Bool} {Qn : St → Prop} {Qe : Nat → St → Prop} (hc : Closed H)
  (g0 : L[0]? = some (some (.cells [I f] 1 false false))) (g1 : L[1]? = some (some (.cells ((pw (k + 3) (y * f)).map I) 1 false false))) (gK : L[K]? = some (some (.cells ((pw (la + 1) (x * f)).map I) 1 s false))) (hK : 2 ≤ K)
  (hy : y * f < 1000000000 ^ (k + 2)) (hy1 : 1000000000 ^ (k + 1) ≤ y) (hf : 1 ≤ f) (hf2 : f < 1000000000) (hx : x < 1000000000 ^ la) (hn : k + 2 ≤ la) (hla : la ≤ 900) (hcc : la + 1 ≤ cc) :
  CT Tryz.prog none Tryz.f257.ntmps divC ⟨ofA [(8, .slice (some ⟨nb H 0, 0, none⟩) 1 1), (9, .slice (some ⟨nb H 1, 0, none⟩) (k + 2) (k + 3)), (10, I ((k + 2 : Nat) : Int)), (11, .slice (some ⟨nb H K, 0, none⟩) (la + 1) cc)], [], ext H lo L⟩ Qn Qe (Go.Den.Fin Tryz.prog Tryz.f257.results H (fun u h => u = divVal H la k f x y ∧ h = divHp H la k f x y)) := by
 obtain ⟨N, hN⟩ : ∃ N, N = la - 1 - k := ⟨_, rfl⟩
 have hKl : K < L.length := (List.getElem?_eq_some_iff.1 gK).1;refine zst ?_;apply zad; exact zfz rfl rfl (by omega) (by omega); exact rfl;rw [show la + 1 - (k + 2) = N by omega];apply zbO; exact mkInts rfl (by omega) rfl rfl rfl rfl; exact rfl;refine zst ?_;apply zad; exact zfz rfl rfl (by omega) (by omega); exact rfl;apply zad; exact zgi rfl rfl (by omega) (by omega); exact rfl;refine zst ?_;apply zar;rw [show la + 1 - (k + 2) = N by omega]
 skip;have hN1 : 1 ≤ N := by omega
 have e13 : ((N - 1 : Nat) : Int) = (N : Int) - 1 := by omega
 rw [e13];obtain ⟨V, hVd⟩ : ∃ V, V = y * f := ⟨_, rfl⟩
 obtain ⟨A, hAd⟩ : ∃ A, A = x * f := ⟨_, rfl⟩
 obtain ⟨q, hqd⟩ : ∃ q, q = L.length := ⟨_, rfl⟩
 have hAV : A / V = x / y := by rw [hAd, hVd]; exact Nat.mul_div_mul_right _ _ hf
 have hy0 : 0 < y := Nat.lt_of_lt_of_le (zaH _) hy1;have hV0 : 0 < V := by rw [hVd]; exact Nat.mul_pos hy0 hf
 have hVy : y ≤ V := by rw [hVd]; exact Nat.le_mul_of_pos_right _ hf
 have hV1 : 1000000000 ^ (k + 1) ≤ V := Nat.le_trans hy1 hVy
 have hxy : x < y * 1000000000 ^ N := by
  have e : la = k + 1 + N := by omega
  rw [e, zbl] at hx;exact Nat.lt_of_lt_of_le hx (Nat.mul_le_mul_right _ hy1)
 have hAlt : A < V * 1000000000 ^ N := by
  rw [hAd, hVd, Nat.mul_right_comm];exact Nat.mul_lt_mul_of_pos_right hxy hf
 have hz : x / y < 1000000000 ^ N := by rw [Nat.div_lt_iff_lt_mul hy0, Nat.mul_comm]; exact hxy
 have hA : A < 1000000000 ^ (la + 1) := by
  rw [hAd, Nat.pow_succ];exact Nat.lt_of_lt_of_le (Nat.mul_lt_mul_of_pos_right hx hf) (Nat.mul_le_mul_left _ (by omega))
 rw [← hVd] at g1 hy;rw [← hAd] at gK;rw [← hqd];refine zaA (α := Nat × List (Option ABlk)) (fun a => [(8, .slice (some ⟨nb H 0, 0, none⟩) 1 1), (9, .slice (some ⟨nb H 1, 0, none⟩) (k + 2) (k + 3)), (10, I ((k + 2 : Nat) : Int)), (11, .slice (some ⟨nb H K, 0, none⟩) (la + 1) cc), (12, .slice (some ⟨nb H q, 0, none⟩) N N), (13, I ((a.1 : Int) - 1))]) (fun a => ext H lo a.2) (fun a => a.1 ≤ N ∧ DS (L.length + 1) K q k V f s a.2 (pw (la + 1) (A % (V * 1000000000 ^ a.1))) (qHi N (x / y) a.1)) (fun a => a.1) ?_ (N, L ++ [some (.cells ((List.replicate N (0 : Int)).map I) 1 false false)]) ⟨Nat.le_refl _, by simp, getApp g0, getApp g1, by rw [Nat.mod_eq_of_lt hAlt]; exact getApp gK, by rw [qHi_top hz, hqd]; exact List.getElem?_concat_length⟩ zsb (.refl _)
 rintro ⟨r, M⟩ ⟨hr, hD⟩ ih
 have ih' := fun r' M' a1 a2 => ih (r', M') a1 a2
 clear ih;simp only at hr hD ih'
 dsimp only
 have hqK : K ≠ q := by omega
 have hq2 : 2 ≤ q := by omega
 clear g0 g1 gK;obtain ⟨n0, hn0⟩ : ∃ n, n = L.length + 1 := ⟨_, rfl⟩
 rw [← hn0] at hD ih';have hKn : K < n0 := by omega
 have hqn : q < n0 := by omega
 clear hKl hqd;rcases Nat.eq_zero_or_pos r with hr0 | hr0
 ·subst hr0;refine zst ?_;refine zq0 ?_;apply zaf;refine zah rfl (decide_eq_false (by omega)) ?_;apply zap;apply zaq
  ·exact rfl
  have ez : A % (V * 1000000000 ^ 0) = x % y * f := by rw [Nat.pow_zero, Nat.mul_one, hAd, hVd, Nat.mul_mod_mul_right]
  rw [ez, zqg] at hD;obtain ⟨z, hzd⟩ : ∃ z, z = x % y * f := ⟨_, rfl⟩
  rw [← hzd] at hD;have hzV : z < V := by rw [hzd, hVd]; exact Nat.mul_lt_mul_of_pos_right (Nat.mod_lt _ hy0) hf
  have hzk : z < 1000000000 ^ (k + 2) := Nat.lt_trans hzV hy;have hdz := za3 hzk;have ezf : z / f = x % y := by rw [hzd]; exact Nat.mul_div_cancel _ hf
  have hxz : x % y ≤ z := by rw [hzd]; exact Nat.le_mul_of_pos_right _ hf
  have k0 := hD.m0;have kK := hD.mu;have kq := hD.mq;have lM := hD.len;clear hD ih' ez;refine zcH (l' := [(8, .slice (some ⟨nb H 0, 0, none⟩) 1 1), (9, .slice (some ⟨nb H 1, 0, none⟩) (k + 2) (k + 3)), (10, I ((k + 2 : Nat) : Int)), (11, .slice (some ⟨nb H K, 0, none⟩) (la + 1) cc), (12, .slice (some ⟨nb H q, 0, none⟩) N N)]) (h' := ext H lo M) zsb (.refl _) ?_;have ctr := fun lo (M : List (Option ABlk)) (x6 : M[K]? = some (some (.cells ((pw (la + 1) z).map I) 1 s false))) => zgp (H := ext H lo M) (q := some ⟨nb H K, 0, none⟩) (c := cc) (l := (pw (la + 1) z).take (k + 2)) ((zaB (g := I) (l := pw (la + 1) z) (zaa x6)).take (k + 2)) (OldS.new (List.getElem?_eq_some_iff.1 x6).1) ⟨by rw [List.length_take, zaK]; omega, (fun e => by cases e), (fun _ e => by cases e; rfl)⟩ (by rw [List.length_take, zaK]; omega)
  have ctq := fun lo (M : List (Option ABlk)) (x7 : M[q]? = some (some (.cells ((pw N (x / y)).map I) 1 false false))) => zgp (H := ext H lo M) (q := some ⟨nb H q, 0, none⟩) (c := N) (l := pw N (x / y)) (zaB (g := I) (zaa x7)) (OldS.new (List.getElem?_eq_some_iff.1 x7).1) ⟨by rw [zaK]; exact Nat.le_refl _, (fun e => by cases e), (fun _ e => by cases e; rfl)⟩ (by rw [zaK]; omega)
  have cdd := fun lo (M : List (Option ABlk)) (x6 : M[K]? = some (some (.cells ((pw (la + 1) z).map I) 1 s false))) => zhW (H := ext H lo M) (p := some ⟨nb H K, 0, none⟩) (c := cc) (a := (pw (la + 1) z).take (dlen z)) (d := (f : Int)) ((zaB (g := I) (l := pw (la + 1) z) (zaa x6)).take (dlen z)) (by rw [List.length_take, zaK]; omega) (by rw [zeg (by omega)]; exact zeH _ _) (by omega) (by omega)
  simp only [zeg (show k + 2 ≤ la + 1 by omega), zeg (show dlen z ≤ la + 1 by omega), zaK, zck hzk, zck hz] at ctr ctq cdd;obtain ⟨dq1, dq2⟩ := zrF (n := dlen z) (zaD z) hf hf2;rw [dq1, dq2, ezf, zck (Nat.lt_of_le_of_lt hxz (zaD z))] at cdd;apply zcj;apply zax (by assumption); decide +kernel;(iterate 2 (refine zq5 ?_));apply zaS (hfree := rfl); exact zb9 (i := k + 2) rfl rfl rfl (by intro e; cases e) (by rintro _ ⟨⟩; rfl) (by omega); exact rfl;apply zaC (ht := rfl); exact ctr _ _ (getApp kK); exact rfl;refine zq5 ?_;apply zau (hfree := rfl); intro _; exact zaR rfl rfl rfl (by exact rfl); exact rfl;refine zq35 ?_;refine zbk (v := fun b => .tuple ⟨[.slice (some ⟨b, 0, none⟩) (dlen (x % y)) (dlen z), I ((z % f : Nat) : Int)]⟩) (x := .cells ((pw (dlen z) (x % y)).map I) 1 false false) rfl rfl (by decide +kernel) (cdd _ _ (getApp kK)) rfl ?_;refine zq5 ?_;(iterate 2 (apply zau (hfree := rfl); intro _; exact zd7 rfl rfl; exact rfl));(iterate 2 (refine zq14 ?_));apply zaz;refine zst ?_;apply zac (ht := rfl); exact ctq _ _ (getApp kq); exact rfl;refine zst ?_;rw [lM];refine zkt (vs := [.slice (some ⟨nb H q, 0, none⟩) (dlen (x / y)) N, .slice (some ⟨nb H n0, 0, none⟩) (dlen (x % y)) (dlen z)]) (j := q) (k := n0) hc rfl (getApp kq) (by rw [List.getElem?_append_right (by omega), lM, Nat.sub_self]; rfl) (by omega) zaY zaY (v := .tuple ⟨[.slice (some ⟨H.fresh, 0, none⟩) (dlen (x / y)) N, .slice (some ⟨H.fresh + 2, 0, none⟩) (dlen (x % y)) (dlen z)]⟩) (by simp [packA, renV, renL, zfh (show q ≠ n0 by omega)]) ⟨?_, ?_⟩
  ·unfold divVal; rw [← hzd, ← hN]
  ·unfold divHp; rw [← hzd, ← hN]
 obtain ⟨j, rfl⟩ : ∃ j, r = j + 1 := ⟨r - 1, by omega⟩
 have e14 : ((j + 1 : Nat) : Int) - 1 = (j : Int) := by omega
 rw [e14];obtain ⟨w1, w2, w3⟩ := zqa (A := A) (j := j) hV0;rw [hAV] at w1 w3;obtain ⟨u, hu⟩ : ∃ u, u = A % (V * 1000000000 ^ (j + 1)) := ⟨_, rfl⟩
 rw [← hu] at w1 w2 w3 hD;have hum : u < 1000000000 ^ (la + 1) := by rw [hu]; exact Nat.lt_of_le_of_lt (Nat.mod_le _ _) hA
 have huj : u < 1000000000 ^ (k + 2 + j + 1) := by
  have h1 : u < V * 1000000000 ^ (j + 1) := by rw [hu]; exact Nat.mod_lt _ (Nat.mul_pos hV0 (zaH _))
  have h2 : V * 1000000000 ^ (j + 1) ≤ 1000000000 ^ (k + 2) * 1000000000 ^ (j + 1) := Nat.mul_le_mul_right _ (Nat.le_of_lt hy);rw [← zbl] at h2;rw [show k + 2 + j + 1 = k + 2 + (j + 1) by omega];omega
 obtain ⟨Z, hZ⟩ : ∃ Z, Z = x / y / 1000000000 ^ j % 1000000000 := ⟨_, rfl⟩
 rw [← hZ] at w1 w3;have hsu : SlAt (ext H lo M) 1 i1 (some ⟨nb H K, 0, none⟩) (pw (la + 1) u) := zaB (zaa hD.mu)
 have hsv : SlAt (ext H lo M) 1 i1 (some ⟨nb H 1, 0, none⟩) (pw (k + 2) V) := by
  have := (zaB (g := I) (l := pw (k + 3) V) (zaa (H := H) (lo := lo) hD.m1)).take (k + 2)
  rwa [zeg (by omega)] at this
 have cg := guess_c (c := cc) (e := k + 3) (j := j) hsu hsv hy hV1 (by omega) w2 (by omega);refine zst ?_;refine zq0 ?_;apply zaf;refine zam rfl (decide_eq_true (by omega)) ?_;refine zst ?_;refine zcx rfl cg rfl (fun v h' hv => ?_);obtain ⟨rfl, t, rfl, t1, t2, t3⟩ := hv;clear cg hsu hsv hu;refine zst ?_;apply zar;refine zaA (α := Nat × List Int × Int × List (Option ABlk)) (fun a => [(8, .slice (some ⟨nb H 0, 0, none⟩) 1 1), (9, .slice (some ⟨nb H 1, 0, none⟩) (k + 2) (k + 3)), (10, I ((k + 2 : Nat) : Int)), (11, .slice (some ⟨nb H K, 0, none⟩) (la + 1) cc), (12, .slice (some ⟨nb H q, 0, none⟩) N N), (13, I j), (14, I t), (15, I a.2.2.1), (16, I a.1)]) (fun a => ext H lo a.2.2.2) (fun a => a.1 ≤ k + 2 ∧ SubI (la + 1) j u t V a.1 a.2.1 a.2.2.1 ∧ DS n0 K q k V f s a.2.2.2 a.2.1 (qHi N (x / y) (j + 1))) (fun a => k + 2 - a.1) ?_ (0, pw (la + 1) u, 0, M) ⟨Nat.zero_le _, znR hum, hD⟩ zsb (.refl _)
 rintro ⟨i, O, b, M2⟩ ⟨hi, hS, hD2⟩ ih2
 have ih2' := fun i' O' b' M' a1 a2 => ih2 (i', O', b', M') a1 a2
 clear ih2;simp only at hi hS hD2 ih2'
 dsimp only
 have hOl := hS.len;have hb0 := hS.b0;have hb1 := hS.b1;have hM2 := hD2.len;have mu2 := hD2.mu;have m12 := hD2.m1;refine zst ?_;refine zq0 ?_;apply zaf;refine zai rfl (fun h2 => ?_) (fun h2 => ?_)
 ·have h2 : i < k + 2 := by simp only [decide_eq_true_eq] at h2; omega
  obtain ⟨p, hp⟩ : ∃ p, p = ((t * (V / 1000000000 ^ i % 1000000000) : Nat) : Int) + b := ⟨_, rfl⟩
  obtain ⟨st, p0, p1⟩ := znS hS t3 (by omega) hp;have hd := Nat.mod_lt (V / 1000000000 ^ i) (show 0 < 1000000000 by omega);have hm : t * (V / 1000000000 ^ i % 1000000000) ≤ 999999999 * 999999999 := Nat.mul_le_mul t3 (by omega);have eO : O[i + j]?.getD 0 = O[i + j]'(by omega) := by rw [List.getElem?_eq_getElem (show i + j < O.length by omega)]; rfl
  have bO := ze4 hS.dig (i + j);rw [eO] at st bO;have pm : 0 ≤ p % 1000000000 ∧ p % 1000000000 < 1000000000 := by omega
  refine zst ?_;refine zq2 ?_;apply zad; exact zaw rfl (by exact zaa (by assumption)) rfl (by exact zoo (by omega)); exact rfl;apply zad; exact zhc rfl rfl (by omega); exact rfl;refine zst ?_;refine zq26 ?_;refine zst ?_;refine zq36 ?_;refine zq2 ?_;refine zq43 ?_;refine zst ?_;apply zad; exact zfB rfl rfl (by omega) (by omega); exact rfl;refine zq27 ?_;refine zst ?_;apply zad; exact zeq rfl rfl (by omega) (by omega) (by omega); exact rfl;refine zst ?_;refine zq0 ?_;apply zaf;rw [← hp]
  skip;by_cases hneg : O[i + j]'(by omega) - p % 1000000000 < 0
  ·rw [if_pos hneg, if_pos hneg] at st;refine zam rfl (decide_eq_true hneg) ?_;refine zst ?_;refine zq26 ?_;refine zst ?_;refine zq26 ?_;refine zst ?_;refine zq36 ?_;refine zst ?_;refine zq2 ?_;refine za7 (k := K) hc (by omega) (zav rfl rfl (zaa mu2) rfl (zbj (by omega) rfl rfl) (zat _)) (fun M3 n1 n2 n3 => ?_);refine zst ?_;refine zq4 ?_;refine zst ?_;exact zaN zsb (.refl _) (ih2' (i + 1) _ _ M3 (by omega) ⟨by omega, st, hD2.putU hK hqK n1 n2 n3⟩)
  ·rw [if_neg hneg, if_neg hneg] at st;refine zah rfl (decide_eq_false hneg) ?_;refine zst ?_;refine zq36 ?_;refine zst ?_;refine zq2 ?_;refine za7 (k := K) hc (by omega) (zav rfl rfl (zaa mu2) rfl (zbj (by omega) rfl rfl) (zat _)) (fun M3 n1 n2 n3 => ?_);refine zst ?_;refine zq4 ?_;refine zst ?_;exact zaN zsb (.refl _) (ih2' (i + 1) _ _ M3 (by omega) ⟨by omega, st, hD2.putU hK hqK n1 n2 n3⟩)
 ·have h2 : i = k + 2 := by simp only [decide_eq_false_iff_not] at h2; omega
  subst h2;have en : j + (k + 2) = k + 2 + j := by omega
  have eO : O[k + 2 + j]?.getD 0 = O[k + 2 + j]'(by omega) := by rw [List.getElem?_eq_getElem (show k + 2 + j < O.length by omega)]; rfl
  have bO := ze4 hS.dig (k + 2 + j);rw [eO] at bO;have htq : t = Z ∨ t = Z + 1 := by omega
  have hP := zaH j;have e3 : u - Z * V * 1000000000 ^ j = A % (V * 1000000000 ^ j) := by omega
  have hZV : Z * V * 1000000000 ^ j ≤ u := by omega
  have bO2 : 0 ≤ O[j + (k + 2)]'(by omega) ∧ O[j + (k + 2)]'(by omega) < 1000000000 := by simp only [en]; exact bO
  rcases htq with htq | htq
  ·rw [htq] at hS ⊢;obtain ⟨r1, r2⟩ := znQ hS hy (by omega) huj hum hZV;rw [eO] at r1 r2;rw [e3] at r2;apply zap;apply zaq; exact rfl;refine zst ?_;refine zq36 ?_;refine zst ?_;refine zq36 ?_;refine zq2 ?_;refine zq43 ?_;refine zst ?_;refine zq27 ?_;refine zq2 ?_;simp only [en];refine za7 (k := K) hc (by omega) (zav rfl rfl (zaa mu2) rfl (zbj (by omega) rfl rfl) (zat _)) (fun M3 n1 n2 n3 => ?_);rw [r2] at n3;have hD3 := hD2.putU hK hqK n1 n2 n3;have mu3 := hD3.mu;clear hS hD2 mu2 m12 n1 n2 n3 ih2';refine zst ?_;refine zq36 ?_;refine zq2 ?_;apply zad; exact zaw rfl (by exact zaa (by assumption)) rfl (by exact zoo (by omega)); exact rfl;refine zq0 ?_;apply zaf;refine zah rfl (decide_eq_false (by omega)) ?_;refine zst ?_;refine zq2 ?_;refine za7 (k := q) hc (by have := hD3.len; omega) (zav rfl rfl (zaa hD3.mq) rfl (zbj (by unfold qHi; rw [zaK]; omega) rfl rfl) (zat _)) (fun M4 n1 n2 n3 => ?_);rw [hZ, zoi (by omega) hz] at n3;have hD4 := hD3.putQ hq2 hqK n1 n2 n3;refine zst ?_;refine zq27 ?_;refine zst ?_;exact zaN zsb (.refl _) (ih' j M4 (by omega) ⟨by omega, hD4⟩)
  ·have hW : u < (Z + 1) * V * 1000000000 ^ j := by
    have h1 : u / 1000000000 ^ j < (Z + 1) * V := by
     rw [← w1];have := Nat.lt_mul_div_succ (u / 1000000000 ^ j) hV0;rw [Nat.mul_comm]; exact this
    have h2 := Nat.lt_mul_div_succ u hP;refine Nat.lt_of_lt_of_le h2 ?_;rw [Nat.mul_comm];exact Nat.mul_le_mul_right _ h1
   have hW2 : (Z + 1) * V * 1000000000 ^ j ≤ u + V * 1000000000 ^ j := by
    rw [Nat.add_mul, Nat.add_mul, Nat.one_mul]; omega
   rw [htq] at hS ⊢;obtain ⟨r1, r2⟩ := znP hS hy (by omega) huj hum hW hW2;rw [eO] at r1 r2;rw [r1] at r2
   have hv1 : (u : Int) - (((Z + 1) * V * 1000000000 ^ j : Nat) : Int) + ((V * 1000000000 ^ j : Nat) : Int) = ((A % (V * 1000000000 ^ j) : Nat) : Int) := by
    rw [Nat.add_mul, Nat.add_mul, Nat.one_mul];omega
   obtain ⟨v1, hv1d⟩ : ∃ v1 : Int, v1 = (u : Int) - (((Z + 1) * V * 1000000000 ^ j : Nat) : Int) := ⟨_, rfl⟩
   rw [← hv1d] at r2 hv1;apply zap;apply zaq; exact rfl;refine zst ?_;refine zq36 ?_;refine zst ?_;refine zq36 ?_;refine zq2 ?_;refine zq43 ?_;refine zst ?_;refine zq27 ?_;refine zq2 ?_;simp only [en];rw [r1];refine za7 (k := K) hc (by omega) (zav rfl rfl (zaa mu2) rfl (zbj (v := -1) (by omega) rfl rfl) (zat _)) (fun M3 n1 n2 n3 => ?_);have hD3 := hD2.putU hK hqK n1 n2 n3;have mu3 := hD3.mu;have hOl3 : (O.set (k + 2 + j) (-1)).length = la + 1 := by rw [List.length_set]; exact hOl
   have hneg : (O.set (k + 2 + j) (-1))[j + (k + 2)]'(by omega) = -1 := by simp only [en]; exact List.getElem_set_self _
   clear hS hD2 mu2 m12 n1 n2 n3 ih2';refine zst ?_;refine zq36 ?_;refine zq2 ?_;refine zq43 ?_;refine zq0 ?_;apply zaf;rw [hneg];refine zam rfl rfl ?_;refine zst ?_;apply zad; exact zcN rfl (by omega); exact rfl;refine zst ?_;apply zar;refine zaA (α := Nat × List Int × Int × List (Option ABlk)) (fun a => [(8, .slice (some ⟨nb H 0, 0, none⟩) 1 1), (9, .slice (some ⟨nb H 1, 0, none⟩) (k + 2) (k + 3)), (10, I ((k + 2 : Nat) : Int)), (11, .slice (some ⟨nb H K, 0, none⟩) (la + 1) cc), (12, .slice (some ⟨nb H q, 0, none⟩) N N), (13, I j), (14, I Z), (19, I a.2.2.1), (20, I a.1)]) (fun a => ext H lo a.2.2.2) (fun a => a.1 ≤ k + 2 ∧ AddI (la + 1) j v1 V (k + 2) a.1 a.2.1 a.2.2.1 ∧ DS n0 K q k V f s a.2.2.2 a.2.1 (qHi N (x / y) (j + 1))) (fun a => k + 2 - a.1) ?_ (0, O.set (k + 2 + j) (-1), 0, M3) ⟨Nat.zero_le _, r2, hD3⟩ zsb (.refl _);clear hD3 mu3 r2 hneg hOl3
   rintro ⟨i, Y, c, M5⟩ ⟨hi, hS, hD5⟩ ih5
   have ih5' := fun i' O' b' M' a1 a2 => ih5 (i', O', b', M') a1 a2
   clear ih5;simp only at hi hS hD5 ih5'
   dsimp only
   have hYl := hS.len;have hc0 := hS.c0;have hc1 := hS.c1;have mu5 := hD5.mu;have m15 := hD5.m1;have hM5 := hD5.len;refine zst ?_;refine zq0 ?_;apply zaf;refine zai rfl (fun h5 => ?_) (fun h5 => ?_)
   ·have h5 : i < k + 2 := by simp only [decide_eq_true_eq] at h5; omega
    have eY : Y[i + j]?.getD 0 = Y[i + j]'(by omega) := by rw [List.getElem?_eq_getElem (show i + j < Y.length by omega)]; rfl
    have bY := hS.dig (i + j) (by omega);obtain ⟨sm, hsm⟩ : ∃ p, p = Y[i + j]?.getD 0 + ((V / 1000000000 ^ i % 1000000000 : Nat) : Int) + c := ⟨_, rfl⟩
    obtain ⟨st, p0, p1⟩ := zpI hS h5 (by omega) hsm;have hd := Nat.mod_lt (V / 1000000000 ^ i) (show 0 < 1000000000 by omega);rw [eY] at hsm bY;refine zst ?_;apply zax (by assumption); decide +kernel;(iterate 3 (refine zq5 ?_));apply zau (hfree := rfl); intro _; exact zdV rfl rfl (by omega); exact rfl;refine zq6 ?_;apply zaS (hfree := rfl); exact zaw rfl (by exact zaa (getApp (by assumption))) rfl (by exact zdH (by omega)); exact rfl;(iterate 2 (refine zq5 ?_));refine zq6 ?_;apply zaS (hfree := rfl); exact zaw rfl (by exact zaa (getApp (by assumption))) rfl (by exact zoo (by omega)); exact rfl;refine zq31 ?_;refine zq5 ?_;refine zq31 ?_;refine zq14 ?_;apply zaz;refine zst ?_;refine zq36 ?_;refine zst ?_;apply zad; exact zfB rfl rfl (by omega) (by omega); exact rfl;refine zq2 ?_;rw [← hsm]
    skip;simp only [List.map_nil, List.append_nil];refine za7 (k := K) hc (by omega) (zav rfl rfl (zaa mu5) rfl (zbj (by omega) rfl rfl) (zat _)) (fun M6 n1 n2 n3 => ?_);refine zst ?_;apply zad; exact zeq rfl rfl (by omega) (by omega) (by omega); exact rfl;refine zst ?_;refine zq4 ?_;refine zst ?_;exact zaN zsb (.refl _) (ih5' (i + 1) _ _ M6 (by omega) ⟨by omega, st, hD5.putU hK hqK n1 n2 n3⟩)
   ·have h5 : i = k + 2 := by simp only [decide_eq_false_iff_not] at h5; omega
    subst h5;have hE := zrm hS hy (by omega) hv1
    have hneg : Y[j + (k + 2)]'(by omega) = -1 := by
     have := hS.top;rw [List.getElem?_eq_getElem (show k + 2 + j < Y.length by omega)] at this;simp only [en]; exact this
    apply zap;apply zaq; exact rfl;refine zst ?_;refine zq36 ?_;refine zst ?_;refine zq36 ?_;refine zq2 ?_;refine zq43 ?_;refine zst ?_;refine zq26 ?_;refine zq2 ?_;rw [hneg]
    skip;simp only [en];refine za7 (k := K) hc (by omega) (zav rfl rfl (zaa mu5) rfl (zbj (v := -1 + c) (by omega) rfl rfl) (zat _)) (fun M6 n1 n2 n3 => ?_);rw [hE] at n3;have hD3 := hD5.putU hK hqK n1 n2 n3;clear hS hD5 mu5 m15 n1 n2 n3 ih5' hE hneg;refine zst ?_;refine zq2 ?_;refine za7 (k := q) hc (by have := hD3.len; omega) (zav rfl rfl (zaa hD3.mq) rfl (zbj (by unfold qHi; rw [zaK]; omega) rfl rfl) (zat _)) (fun M4 n1 n2 n3 => ?_);rw [hZ, zoi (by omega) hz] at n3;have hD4 := hD3.putQ hq2 hqK n1 n2 n3;refine zst ?_;refine zq27 ?_;refine zst ?_;exact zaN zsb (.refl _) (ih' j M4 (by omega) ⟨by omega, hD4⟩)
end Go.Proofs.YtlejimjgagfalaaGreatDoor
