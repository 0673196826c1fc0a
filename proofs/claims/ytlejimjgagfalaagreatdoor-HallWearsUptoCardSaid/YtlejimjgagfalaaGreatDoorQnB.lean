import Derived.Test.YtlejimjgagfalaaGreatDoorQmC
import Derived.Test.YtlejimjgagfalaaGreatDoorQmF
import Derived.Test.YtlejimjgagfalaaGreatDoorQaB
import Derived.Test.YtlejimjgagfalaaGreatDoorQlA
import Derived.Test.YtlejimjgagfalaaGreatDoorSmA
import Derived.Test.YtlejimjgagfalaaGreatDoorQmB
noncomputable section
namespace Go.Proofs.YtlejimjgagfalaaGreatDoor
open Go Go.Den Go.Lib
set_option maxRecDepth 100000
set_option maxHeartbeats 4000000 in
theorem gcdN_c {H : AHeap} {a b : Nat} (ha : a < 9223372036854775808) (hb : b < 9223372036854775808) :
  Ret Tryz.prog 259 [I a, I b] H (I ((Nat.gcd a b : Nat) : Int)) H := by
 refine zae Tryz.func259 rfl rfl rfl fun hc => ?_
 obtain ⟨g, hg⟩ : ∃ g, g = Nat.gcd a b := ⟨_, rfl⟩
 rw [← hg];refine zst ?_;apply zar;refine zaA (α := Nat × Nat) (fun s => [(0, I (s.1 : Int)), (1, I (s.2 : Int))]) (fun _ => ext H H.fresh []) (fun s => s.1 < 9223372036854775808 ∧ s.2 < 9223372036854775808 ∧ Nat.gcd s.1 s.2 = g) (fun s => s.2) ?_ (a, b) ⟨ha, hb, hg.symm⟩ zsb (.refl _)
 rintro ⟨x, y⟩ ⟨hx, hy, hgc⟩ ih
 have ih' := fun x' y' a1 a2 => ih (x', y') a1 a2
 clear ih;simp only at hx hy hgc ih'
 dsimp only
 rcases Nat.eq_zero_or_pos y with h0 | h0
 ·subst h0;rw [Nat.gcd_zero_right] at hgc;refine zst ?_;refine zq0 ?_;apply zaf;refine zah rfl rfl ?_;apply zap;apply zaq; exact rfl;refine zst ?_;rw [hgc];exact zab hc rfl rfl ⟨rfl, rfl⟩
 ·have hlt := Nat.mod_lt x h0;refine zst ?_;refine zq0 ?_;apply zaf;refine zam rfl (decide_eq_true (by omega)) ?_;refine zst ?_;apply zax (by assumption); decide +kernel;(iterate 3 (refine zq5 ?_));apply zau (hfree := rfl); intro _; exact zfB rfl rfl (by omega) (by omega); exact rfl;(iterate 2 (refine zq14 ?_));apply zaz;exact zaN zsb (.refl _) (ih' y (x % y) hlt ⟨hy, by omega, by rw [← hgc, Nat.gcd_comm y, ← Nat.gcd_rec, Nat.gcd_comm]⟩)
def ofT (n d : Int) : List UInt8 := ratQ (decide (0 < n.natAbs) && (decide (n < 0) != decide (d < 0))) (n.natAbs / Nat.gcd n.natAbs d.natAbs) (d.natAbs / Nat.gcd n.natAbs d.natAbs)
set_option maxHeartbeats 16000000 in
theorem zjn {H : AHeap} {n d : Int} (h1 : -4000000000000000000 ≤ n) (h2 : n ≤ 4000000000000000000) (h3 : 1 ≤ d) (h4 : d ≤ 4000000000000000000) :
  Ret Tryz.prog 227 [I n, I d] H (.string (tx (ofT n d))) H := by
 refine zae Tryz.func227 rfl rfl rfl fun hc => ?_
 have e1 : decide (n < -4000000000000000000) = false := decide_eq_false (by omega);have e2 : decide (n > 4000000000000000000) = false := decide_eq_false (by omega);have e3 : decide (d < -4000000000000000000) = false := decide_eq_false (by omega);have e4 : decide (d > 4000000000000000000) = false := decide_eq_false (by omega);have e5 : decide (d < 0) = false := decide_eq_false (by omega);obtain ⟨m, hm⟩ : ∃ m, m = n.natAbs := ⟨_, rfl⟩
 obtain ⟨k, hk⟩ : ∃ k, k = d.natAbs := ⟨_, rfl⟩
 have hdk : d = (k : Int) := by omega
 have hmax : max n (0 - n) = (m : Int) := by omega
 have hk0 : 0 < k := by omega
 obtain ⟨g, hg⟩ : ∃ g, g = Nat.gcd m k := ⟨_, rfl⟩
 have hg0 : 0 < g := by rw [hg]; exact Nat.gcd_pos_of_pos_right _ hk0
 have hgm : g ∣ m := by rw [hg]; exact Nat.gcd_dvd_left _ _
 have hgk : g ≤ k := by rw [hg]; exact Nat.gcd_le_right _ hk0
 have cg := fun lo L => gcdN_c (H := ext H lo L) (a := m) (b := k) (by omega) (by omega)
 rw [← hg] at cg;have hkg : 1 ≤ k / g := Nat.div_pos hgk hg0;have hkl := Nat.div_le_self k g;have hml := Nat.div_le_self m g;have cd1 := fun lo L => zdW (H := ext H lo L) (n := k / g) (least := 1) (K := nd (k / g)) (by omega) (by omega) (by have := zhJ (n := k / g) (by omega); omega)
 rw [zkB (by omega)] at cd1
 have cn1 : ∀ lo L, Ret Tryz.prog 138 [I ((m / g : Nat) : Int), I 1] (ext H lo L) (.string (tx (decDigits (m / g)))) (ext H lo L) := fun lo L => by
  by_cases hz : m / g = 0
  ·have := zdW (H := ext H lo L) (n := m / g) (least := 1) (K := 1) (by omega) (by omega) (by rw [hz, zit]; rfl);have e : dpad 1 (m / g) = decDigits (m / g) := by rw [hz]; decide +kernel
   rwa [e] at this
  ·have := zdW (H := ext H lo L) (n := m / g) (least := 1) (K := nd (m / g)) (by omega) (by omega) (by have := zhJ (n := m / g) hz; omega)
   rwa [zkB hz] at this
 have hmg : n < 0 → 1 ≤ m / g := fun h => Nat.div_pos (Nat.le_of_dvd (by omega) hgm) hg0
 have hcast : ((m / g : Nat) : Int) = (m : Int) / (g : Int) := Int.natCast_ediv _ _
 have hpos : n < 0 → n.tdiv (g : Int) = -((m / g : Nat) : Int) := fun h => by
  have : n = -(m : Int) := by omega
  rw [this, Int.neg_tdiv]; rfl
 have hnon : ¬ n < 0 → n.tdiv (g : Int) = ((m / g : Nat) : Int) := fun h => by
  have : n = (m : Int) := by omega
  rw [this]; rfl
 have l1 := za8 (m / g) 19 (by omega) (by omega);have l2 := za8 (k / g) 19 (by omega) (by omega);obtain ⟨r, hr⟩ : ∃ r, r = m / g := ⟨_, rfl⟩
 obtain ⟨t, ht⟩ : ∃ t, t = k / g := ⟨_, rfl⟩
 have hkt : (k : Int) / (g : Int) = (t : Int) := by rw [ht]; rfl
 have eTT : ofT n d = ratQ (decide (n < 0)) r t := by
  unfold ofT;rw [e5, ← hm, ← hk, ← hg, ← hr, ← ht, Bool.bne_false]
  congr 1
  by_cases h : n < 0
  ·rw [decide_eq_true h, decide_eq_true (show 0 < m by omega)]; rfl
  ·rw [decide_eq_false h, Bool.and_false]
 rw [eTT];rw [← hr] at hmg hcast hpos hnon l1 hml cn1;rw [← ht] at l2 hkl hkg cd1;obtain ⟨n', hn'⟩ : ∃ n', n' = n.tdiv (g : Int) := ⟨_, rfl⟩
 rw [← hn'] at hpos hnon
 have hneg : decide (n' < 0) = decide (n < 0) := by
  rw [decide_eq_decide];by_cases h : n < 0
  ·have a1 := hmg h;have a2 := hpos h;omega
  ·have a2 := hnon h;omega
 have hmax' : max n' (0 - n') = (r : Int) := by
  by_cases h : n < 0
  ·have a2 := hpos h;omega
  ·have a2 := hnon h;omega
 have hbd : -4000000000000000000 ≤ n' ∧ n' ≤ 4000000000000000000 := by
  by_cases h : n < 0
  ·have a2 := hpos h;omega
  ·have a2 := hnon h;omega
 have qa : -9223372036854775808 < n := by omega
 have qb : n ≤ 9223372036854775807 := by omega
 have qc : (0 : Int) < (g : Int) := by omega
 have qd : -9223372036854775808 < (k : Int) := by omega
 have qe : (k : Int) ≤ 9223372036854775807 := by omega
 subst hdk;obtain ⟨b, hb⟩ : ∃ b, b = decide (n < 0) := ⟨_, rfl⟩
 rw [← hb] at hneg ⊢;clear eTT hm hk hg hb hr ht hpos hnon hcast hmg;refine zst ?_;refine zq0 ?_;refine zs1 ?_;rw [e1];refine zst ?_;refine zq1 ?_;(iterate 2 (refine zs1 ?_));rw [e2];refine zst ?_;refine zq1 ?_;refine zst ?_;refine zq1 ?_;(iterate 2 (refine zs1 ?_));rw [e3]
 skip;rw [e4]
 skip;refine zah rfl rfl ?_;refine zst ?_;refine zq0 ?_;apply zaf;refine zah rfl e5 ?_;refine zst ?_;refine zq27 ?_;apply zad; exact zlH rfl; exact rfl;refine zst ?_;rw [hmax];apply zac (ht := rfl); exact cg _ _; exact rfl;refine zst ?_;apply zax (by assumption); decide +kernel;(iterate 2 (refine zq5 ?_));apply zau (hfree := rfl); intro _; exact zfA rfl rfl (by assumption) (by assumption) (by assumption); exact rfl;(iterate 2 (refine zq5 ?_));apply zau (hfree := rfl); intro _; exact zeq rfl rfl (by omega) (by omega) (by omega); exact rfl;(iterate 2 (refine zq14 ?_));apply zaz;refine zst ?_;refine zq0 ?_;apply zaf;rw [← hn', hkt]
 cases b with
 | true =>
  refine zam rfl hneg ?_;refine zst ?_;refine zq27 ?_;apply zad; exact zlH rfl; exact rfl;rw [hmax']
  skip;apply zac (ht := rfl); exact cn1 _ _; exact rfl;refine zq44 ?_;refine zst ?_;refine zq0 ?_;apply zaf;by_cases h1t : t = 1
  ·subst h1t;refine zah rfl rfl ?_;refine zst ?_;rw [zeG];exact zab hc rfl rfl ⟨rfl, rfl⟩
  ·refine zam rfl (decide_eq_true (by omega)) ?_;refine zst ?_;refine zq44 ?_;refine zst ?_;apply zac (ht := rfl); exact cd1 _ _; exact rfl;refine zq44 ?_;refine zst ?_;rw [zc4 _ _ h1t];refine zab hc rfl rfl ⟨?_, rfl⟩;show Value.string _ = Value.string _
   rw [List.append_assoc]; rfl
 | false =>
  refine zah rfl hneg ?_;refine zst ?_;refine zq27 ?_;apply zad; exact zlH rfl; exact rfl;rw [hmax']
  skip;apply zac (ht := rfl); exact cn1 _ _; exact rfl;refine zq44 ?_;refine zst ?_;refine zq0 ?_;apply zaf;by_cases h1t : t = 1
  ·subst h1t;refine zah rfl rfl ?_;refine zst ?_;rw [zeG];exact zab hc rfl rfl ⟨rfl, rfl⟩
  ·refine zam rfl (decide_eq_true (by omega)) ?_;refine zst ?_;refine zq44 ?_;refine zst ?_;apply zac (ht := rfl); exact cd1 _ _; exact rfl;refine zq44 ?_;refine zst ?_;rw [zc4 _ _ h1t];refine zab hc rfl rfl ⟨?_, rfl⟩;show Value.string _ = Value.string _;rw [List.append_assoc]; rfl
def qkV (neg : Bool) (u d : Nat) : Value := if u < 1000000000 ∧ d < 1000000000 then .tuple ⟨[I (if neg = true then -(u : Int) else u), I d, .bool true]⟩ else .tuple ⟨[I 0, I 0, .bool false]⟩
set_option maxHeartbeats 8000000 in
theorem zf8 {H : AHeap} {neg : Bool} {u d : Nat} (hu : dlen u ≤ 1000) (hd : dlen d ≤ 1000) :
  Ret Tryz.prog 226 [.string (tx (ratQ neg u d))] H (qkV neg u d) H := by
 refine zae Tryz.func226 rfl rfl rfl fun hc => ?_
 have hlD : (Lib.decDigits u).length ≤ 10000 := zdF false hu;have hlE : (Lib.decDigits d).length ≤ 10000 := zdF false hd;have hpD := zbY u;have hpE := zbY d;have hdD := za9 u;have hdE := za9 d;have hvD := zbX u;have hvE := zbX d;have h9 : ¬ u < 1000000000 → 9 < (Lib.decDigits u).length := fun h => zee (by omega)
 have h9' : u < 1000000000 → (Lib.decDigits u).length ≤ 9 := fun h => za8 u 9 (by omega) (by omega)
 have f9 : ¬ d < 1000000000 → 9 < (Lib.decDigits d).length := fun h => zee (by omega)
 have f9' : d < 1000000000 → (Lib.decDigits d).length ≤ 9 := fun h => za8 d 9 (by omega) (by omega)
 have eS := zd3 false u d;obtain ⟨s, hs⟩ : ∃ s, s = ratQ neg u d := ⟨_, rfl⟩
 obtain ⟨B, hB⟩ : ∃ B, B = ratQ false u d := ⟨_, rfl⟩
 have hsB : s = if neg = true then 45 :: B else B := by
  rw [hs, hB]; unfold ratQ ratN;cases neg <;> simp <;> split <;> rfl
 have hBl : B.length = if d = 1 then (Lib.decDigits u).length else (Lib.decDigits u).length + 1 + (Lib.decDigits d).length := by
  rw [hB]; unfold ratQ ratN;split
  ·simp
  ·simp; omega
 have hBt : B.take (Lib.decDigits u).length = Lib.decDigits u := by
  rw [hB]; unfold ratQ ratN;split <;> simp
 have hBd : d ≠ 1 → B.drop ((Lib.decDigits u).length + 1) = Lib.decDigits d := fun h => by
  rw [hB, zc4 _ _ h, ← List.drop_drop]; simp [ratN]
 have hB0 : ∃ h : 0 < B.length, (((B[0]'h).toNat : Int) == 45) = false := by
  have h0 : 0 < B.length := by rw [hBl]; split <;> omega
  refine ⟨h0, ?_⟩
  have e : B[0]'h0 = (Lib.decDigits u)[0]'hpD := by
   have := congrArg (fun l : List UInt8 => l[0]?) hBt;simp only [List.getElem?_take] at this;rw [if_pos (show 0 < _ from hpD), List.getElem?_eq_getElem h0, List.getElem?_eq_getElem hpD, Option.some.injEq] at this;exact this
  rw [e];have := (zcS u hpD).1;simp; omega
 obtain ⟨hb0, eb0⟩ := hB0;rw [← hB] at eS;rw [show (ratN false u).length = (Lib.decDigits u).length from rfl] at eS;obtain ⟨D, hD⟩ : ∃ D, D = Lib.decDigits u := ⟨_, rfl⟩
 obtain ⟨E, hE⟩ : ∃ E, E = Lib.decDigits d := ⟨_, rfl⟩
 rw [← hD] at hlD hpD eS hBl hBt hBd hdD hvD h9 h9';rw [← hE] at hlE hBl hBd hdE hvE hpE f9 f9';rw [← hs]
 have hs0 : ∃ h : 0 < s.length, (((s[0]'h).toNat : Int) == 45) = neg := by
  cases neg
  ·simp only [Bool.false_eq_true, if_false] at hsB; subst hsB; exact ⟨hb0, eb0⟩
  ·simp only [if_true] at hsB; subst hsB; exact ⟨by simp, rfl⟩
 obtain ⟨h0, e1⟩ := hs0;have hBl40 : B.length ≤ 30000 := by rw [hBl]; split <;> omega
 have hsl : s.length ≤ B.length + 1 := by
  rw [hsB]; split
  ·simp
  ·omega
 have e0 : decide ((s.length : Int) > 0) = true := decide_eq_true (by omega);have hsB2 : neg = true → s.drop 1 = B := fun h => by rw [hsB, if_pos h]; rfl
 have hsB3 : neg = false → s = B := fun h => by rw [hsB, if_neg (by rw [h]; simp)]
 have hBl20 : u < 1000000000 → d < 1000000000 → B.length ≤ 19 := fun h g => by
  have := h9' h;have := f9' g;rw [hBl]; split <;> omega
 clear hsB hs hB hD hE;refine zst ?_;refine zq9 ?_;refine zq0 ?_;apply zaf;by_cases h20 : s.length > 20
 ·have hu9 : ¬ (u < 1000000000 ∧ d < 1000000000) := fun h => by have := hBl20 h.1 h.2; omega
  have ev : qkV neg u d = .tuple ⟨[I 0, I 0, .bool false]⟩ := if_neg hu9;rw [ev];refine zam rfl (decide_eq_true (by omega)) ?_;refine zst ?_;exact zab hc rfl rfl ⟨rfl, rfl⟩
 refine zah rfl (decide_eq_false (by omega)) ?_;refine zst ?_;refine zq9 ?_;refine zq0 ?_;refine zs1 ?_;rw [e0];refine zst ?_;apply zay (hd := rfl) (hl := rfl); exact zdT rfl rfl rfl (by exact zb7 (by omega)) (by omega); exact rfl;refine zq1 ?_;(iterate 8 (refine zs1 ?_));rw [e1]
 skip;refine ct_J [(5, .string (tx B)), (6, .bool neg)] (ds := []) (h := ext H H.fresh []) ?_ ?_
 ·refine zai rfl (fun u1 => ?_) (fun u1 => ?_)
  ·refine zst ?_;apply zad; exact zct 1 rfl rfl rfl rfl (by omega); exact rfl;rw [hsB2 u1];refine zst ?_;exact zaP zsb
  ·have u2 := hsB3 u1;subst u2;apply zbb;exact zaP zsb
 refine zst ?_;apply zac (ht := rfl); exact zj6 (by omega); exact rfl;refine zst ?_;refine zq0 ?_;refine zs1 ?_;rw [eS]
 skip;by_cases hu9 : u < 1000000000
 ·by_cases hd9 : d < 1000000000
  ·have ev : qkV neg u d = .tuple ⟨[I (if neg = true then -(u : Int) else u), I d, .bool true]⟩ := if_pos ⟨hu9, hd9⟩;have l9 := h9' hu9;have g9 := f9' hd9;rw [ev];have k1 : decide ((D.length : Int) > 9) = false := decide_eq_false (by omega);have k3 : B.length ≤ D.length + 10 := by rw [hBl]; split <;> omega
   have k4 : D.length ≤ B.length := by rw [hBl]; split <;> omega
   rw [k1];refine zst ?_;apply zay (hd := rfl) (hl := rfl); exact ziK rfl rfl rfl; exact rfl;refine zst ?_;apply zay (hd := rfl) (hl := rfl); exact zfz rfl rfl (by omega) (by omega); exact rfl;refine zq1 ?_;refine zst ?_;refine zah rfl (decide_eq_false (by omega)) ?_;refine zst ?_;apply zad; exact ziH D.length rfl rfl rfl rfl (by omega); exact rfl;rw [hBt];apply zac (ht := rfl); exact zh9 (by omega) (by assumption); exact rfl;refine zst ?_;refine zq9 ?_;refine zq0 ?_;apply zaf;rw [hvD];by_cases hd1' : d = 1
   ·have hl : B.length = D.length := by rw [hBl, if_pos hd1']
    subst hd1';refine zah rfl (decide_eq_false (by omega)) ?_;refine zst ?_;refine zai rfl (fun u1 => ?_) (fun u1 => ?_)
    ·subst u1;refine zst ?_;refine zq27 ?_;refine zst ?_;refine zab hc rfl rfl ⟨?_, rfl⟩;simp [packA]
    ·subst u1;refine zst ?_;refine zab hc rfl rfl ⟨?_, rfl⟩;simp [packA]
   ·have hl : B.length = D.length + 1 + E.length := by rw [hBl, if_neg hd1']
    refine zam rfl (decide_eq_true (by omega)) ?_;refine zst ?_;refine zq4 ?_;apply zad; exact zct (D.length + 1) rfl rfl rfl (by omega) (by omega); exact rfl;rw [hBd hd1'];apply zac (ht := rfl); exact zh9 (by omega) (by assumption); exact rfl;refine zst ?_;rw [hvE];refine zai rfl (fun u1 => ?_) (fun u1 => ?_)
    ·subst u1;refine zst ?_;refine zq27 ?_;refine zst ?_;refine zab hc rfl rfl ⟨?_, rfl⟩;simp [packA]
    ·subst u1;refine zst ?_;refine zab hc rfl rfl ⟨?_, rfl⟩;simp [packA]
  ·have ev : qkV neg u d = .tuple ⟨[I 0, I 0, .bool false]⟩ := if_neg (fun h => hd9 h.2);have l9 := h9' hu9;have g9 := f9 hd9;rw [ev];have k1 : decide ((D.length : Int) > 9) = false := decide_eq_false (by omega);have k4 : D.length ≤ B.length := by rw [hBl]; split <;> omega
   have hl : B.length = D.length + 1 + E.length := by rw [hBl, if_neg (by omega)]
   rw [k1];refine zst ?_;apply zay (hd := rfl) (hl := rfl); exact ziK rfl rfl rfl; exact rfl;refine zst ?_;apply zay (hd := rfl) (hl := rfl); exact zfz rfl rfl (by omega) (by omega); exact rfl;refine zq1 ?_;refine zst ?_;refine zam rfl (decide_eq_true (by omega)) ?_;refine zst ?_;exact zab hc rfl rfl ⟨rfl, rfl⟩
 ·have ev : qkV neg u d = .tuple ⟨[I 0, I 0, .bool false]⟩ := if_neg (fun h => hu9 h.1);have l9 := h9 hu9;rw [ev];have k1 : decide ((D.length : Int) > 9) = true := decide_eq_true (by omega);rw [k1];refine zst ?_;refine zam rfl rfl ?_;refine zst ?_;exact zab hc rfl rfl ⟨rfl, rfl⟩
def rt (x : Rat) : List UInt8 := ratQ (decide (x.num < 0)) x.num.natAbs x.den
def fT (neg : Bool) (a d : Nat) : List UInt8 := ratQ (neg && decide (0 < a)) (a / Nat.gcd a d) (d / Nat.gcd a d)
theorem zp6 (n : Int) {d : Nat} (hd : d ≠ 0) : rt (mkRat n d) = fT (decide (n < 0)) n.natAbs d := by
 unfold rt fT;rw [Rat.num_mkRat, Rat.den_mkRat, if_neg hd, if_neg hd, Nat.gcd_comm d];have hg : 0 < Nat.gcd n.natAbs d := Nat.gcd_pos_of_pos_right _ (by omega);obtain ⟨g, hgd⟩ : ∃ g, g = Nat.gcd n.natAbs d := ⟨_, rfl⟩
 have hdv : g ∣ n.natAbs := by rw [hgd]; exact Nat.gcd_dvd_left _ _
 rw [← hgd] at hg ⊢;obtain ⟨k, hk⟩ := hdv
 have e1 : (n / (g : Int)).natAbs = n.natAbs / g := by
  rw [hk, Nat.mul_div_cancel_left _ hg];rcases Int.natAbs_eq n with h | h
  ·rw [h, hk, Int.natCast_mul, Int.mul_ediv_cancel_left _ (by omega)]; rfl
  ·rw [h, hk, Int.natCast_mul, ← Int.mul_neg, Int.mul_ediv_cancel_left _ (by omega)];rw [Int.natAbs_neg]; rfl
 have e2 : decide (n / (g : Int) < 0) = (decide (n < 0) && decide (0 < n.natAbs)) := by
  rw [← Bool.decide_and, decide_eq_decide];constructor
  ·intro h
   have : n < 0 := by
    rcases Int.lt_or_le n 0 with h1 | h1
    ·exact h1
    ·have := Int.ediv_nonneg h1 (show (0 : Int) ≤ g by omega); omega
   exact ⟨this, by omega⟩
  ·intro h;exact Int.ediv_neg_of_neg_of_pos h.1 (by omega)
 rw [e1, e2]
structure RSz (k : Nat) (x : Rat) : Prop where
 n : dlen x.num.natAbs ≤ k
 d : dlen x.den ≤ k
theorem zgB {x : Rat} (h : decide (x.num < 0) = true) : x.num.natAbs ≠ 0 := by
 have := of_decide_eq_true h; omega
theorem zrD {n : Int} {a d : Nat} {b : Bool} (ha : a = n.natAbs) (hb : (b && decide (0 < a)) = decide (n < 0)) (hd : d ≠ 0) : fT b a d = rt (mkRat n d) := by
 rw [zp6 n hd];unfold fT;subst ha;rw [hb]
 congr 1
 rw [← Bool.decide_and, decide_eq_decide];omega
def sv (b : Bool) (v : Nat) : Int := if b = true then -(v : Int) else v
theorem plusG_c {H : AHeap} {p q : Option Addr} {c e X Y : Nat} {b1 b2 : Bool} (hp : SlAt H 1 i1 p (dg X)) (hq : SlAt H 1 i1 q (dg Y)) (h1 : b1 = true → X ≠ 0) (h2 : b2 = true → Y ≠ 0) (ha : dlen X ≤ 900) (hb : dlen Y ≤ 900) :
  ∃ neg v, sv (neg && decide (0 < v)) v = sv b1 X + sv b2 Y ∧ NewI H 261 [intQ b1 p (dlen X) c, intQ b2 q (dlen Y) e] neg v := by
 by_cases hb12 : b1 = b2
 ·subst hb12;refine ⟨b1, X + Y, ?_, zmM hp hq ha hb⟩;by_cases hz : 0 < X + Y
  ·rw [decide_eq_true hz, Bool.and_true];unfold sv; split <;> omega
  ·rw [decide_eq_false hz, Bool.and_false];unfold sv;rw [if_neg (by simp)];split <;> omega
 ·have e2 : b2 = !b1 := by cases b1 <;> cases b2 <;> simp_all
  have e1 : b1 = !b2 := by rw [e2]; simp
  rcases Nat.lt_or_ge X Y with hlt | hge
  ·refine ⟨b2, Y - X, ?_, ?_⟩
   ·rw [decide_eq_true (show 0 < Y - X by omega), Bool.and_true];unfold sv; rw [e1];cases b2 <;> simp <;> omega
   ·have := zmO (c := c) (e := e) (ng := b2) hp hq hlt hb
    rwa [← e1] at this
  ·have hX : X ≠ 0 := by
    intro h0;have hY : Y = 0 := by omega
    cases b1
    ·exact h2 (by rw [e2]; rfl) hY
    ·exact h1 rfl h0
   refine ⟨b1, X - Y, ?_, ?_⟩
   ·by_cases hz : 0 < X - Y
    ·rw [decide_eq_true hz, Bool.and_true];unfold sv; rw [e2];cases b1 <;> simp <;> omega
    ·rw [decide_eq_false hz, Bool.and_false];unfold sv; rw [e2];cases b1 <;> simp <;> omega
   ·have := zmN (c := c) (e := e) (ng := b1) hp hq hge hX ha
    rwa [← e2] at this
theorem zfW {H : AHeap} {lo k u : Nat} {L : List (Option ABlk)} (h : L[k]? = some (some (mB u))) : SlAt (ext H lo L) 1 i1 (some ⟨nb H k, 0, none⟩) (dg u) := by
 have := (zaB (g := I) (l := pw (ml u) u) (zaa (H := H) (lo := lo) h)).take (dlen u)
 rwa [zfa (ml_lt u)] at this
theorem zkn {H : AHeap} {lo k u n : Nat} {s : Bool} {L : List (Option ABlk)} (h : L[k]? = some (some (.cells ((pw n u).map I) 1 s false))) (hu : u < 1000000000 ^ n) : SlAt (ext H lo L) 1 i1 (some ⟨nb H k, 0, none⟩) (dg u) := by
 have := (zaB (g := I) (l := pw n u) (zaa (H := H) (lo := lo) h)).take (dlen u)
 rwa [zfa hu] at this
theorem mulB2 {a b p q : Int} (h1 : -p ≤ a) (h2 : a ≤ p) (h3 : -q ≤ b) (h4 : b ≤ q) : -(p * q) ≤ a * b ∧ a * b ≤ p * q := by
 have hp : 0 ≤ p := by omega
 have hq : 0 ≤ q := by omega
 have h : (a * b).natAbs ≤ p.natAbs * q.natAbs := by
  rw [Int.natAbs_mul]; exact Nat.mul_le_mul (by omega) (by omega)
 have e : ((p.natAbs * q.natAbs : Nat) : Int) = p * q := by
  rw [Int.natCast_mul]; congr 1 <;> omega
 omega
theorem zek {b n c : Nat} (h : n ≤ c) : LowS (some ⟨b, 0, none⟩) c n := ⟨h, (fun e => by cases e), (fun _ e => by cases e; rfl)⟩
theorem zpq (u : Nat) : dlen u ≤ ml u := by unfold ml; omega
theorem zrp {a : Bool} {u e : Nat} : sv (a && decide (0 < u * e)) (u * e) = sv a u * (e : Int) := by
 unfold sv
 cases a with
 | false => simp
 | true =>
  by_cases h : 0 < u * e
  ·rw [decide_eq_true h];simp only [Bool.and_true, if_true, Int.natCast_mul, Int.neg_mul]
  ·have h0 : u * e = 0 := by omega
   rw [decide_eq_false h, if_neg (by simp), if_pos rfl, Int.neg_mul, ← Int.natCast_mul, h0];rfl
theorem znO (a : Bool) (u : Nat) : (sv a u).natAbs = u := by unfold sv; split <;> omega
theorem sv_neg {B : Bool} {v : Nat} (h : B = true → 0 < v) : B = decide (sv B v < 0) := by
 cases B with
 | false => exact (decide_eq_false (by unfold sv; rw [if_neg (by simp)]; omega)).symm
 | true =>
  have := h rfl;exact (decide_eq_true (by unfold sv; rw [if_pos rfl]; omega)).symm
set_option maxHeartbeats 32000000 in
theorem addQ_c {H : AHeap} {x y : Rat} (hx : RSz 100 x) (hy : RSz 100 y) :
  Ret Tryz.prog 229 [.string (tx (rt x)), .string (tx (rt y))] H (.string (tx (rt (x + y)))) H := by
 have hx1 := hx.n;have hx2 := hx.d;have hy1 := hy.n;have hy2 := hy.d;have nx := x.den_nz;have ny := y.den_nz;rw [Rat.add_def'];obtain ⟨u, hu⟩ : ∃ u, u = x.num.natAbs := ⟨_, rfl⟩
 obtain ⟨m, hm⟩ : ∃ u, u = y.num.natAbs := ⟨_, rfl⟩
 obtain ⟨d, hd⟩ : ∃ u, u = x.den := ⟨_, rfl⟩
 obtain ⟨e, he⟩ : ∃ u, u = y.den := ⟨_, rfl⟩
 obtain ⟨a, ha⟩ : ∃ u, u = decide (x.num < 0) := ⟨_, rfl⟩
 obtain ⟨b, hb⟩ : ∃ u, u = decide (y.num < 0) := ⟨_, rfl⟩
 have erx : rt x = ratQ a u d := by unfold rt; rw [ha, hu, hd]
 have ery : rt y = ratQ b m e := by unfold rt; rw [hb, hm, he]
 have ex : x.num = sv a u := by
  unfold sv; rw [ha, hu];by_cases h : x.num < 0
  ·rw [decide_eq_true h, if_pos rfl]; omega
  ·rw [decide_eq_false h, if_neg (by simp)]; omega
 have ey : y.num = sv b m := by
  unfold sv; rw [hb, hm];by_cases h : y.num < 0
  ·rw [decide_eq_true h, if_pos rfl]; omega
  ·rw [decide_eq_false h, if_neg (by simp)]; omega
 have hau : a = true → u ≠ 0 := by rw [ha, hu]; exact fun h => zgB h
 have hbm : b = true → m ≠ 0 := by rw [hb, hm]; exact fun h => zgB h
 rw [← hu] at hx1;rw [← hm] at hy1;rw [← hd] at hx2 nx;rw [← he] at hy2 ny;rw [erx, ery, ex, ey, ← hd, ← he];clear hu hm hd he ha hb erx ery ex ey hx hy
 have eau : (a && decide (0 < u)) = a := by
  cases a with
  | false => rfl
  | true => rw [decide_eq_true (show 0 < u by have := hau rfl; omega)]; rfl
 have ebm : (b && decide (0 < m)) = b := by
  cases b with
  | false => rfl
  | true => rw [decide_eq_true (show 0 < m by have := hbm rfl; omega)]; rfl
 have hde : d * e ≠ 0 := Nat.mul_ne_zero nx ny;refine zae Tryz.func229 rfl rfl rfl fun hc => ?_
 have cq1 := fun lo L => zf8 (H := ext H lo L) (neg := a) (u := u) (d := d) (by omega) (by omega)
 have cq2 := fun lo L => zf8 (H := ext H lo L) (neg := b) (u := m) (d := e) (by omega) (by omega)
 by_cases hs : (u < 1000000000 ∧ d < 1000000000) ∧ (m < 1000000000 ∧ e < 1000000000)
 ·obtain ⟨⟨s1, s2⟩, s3, s4⟩ := hs;have e1 : qkV a u d = .tuple ⟨[I (sv a u), I d, .bool true]⟩ := if_pos ⟨s1, s2⟩;have e2 : qkV b m e = .tuple ⟨[I (sv b m), I e, .bool true]⟩ := if_pos ⟨s3, s4⟩;rw [e1] at cq1;rw [e2] at cq2;have z1 : -999999999 ≤ sv a u ∧ sv a u ≤ 999999999 := by unfold sv; split <;> omega
  have z2 : -999999999 ≤ sv b m ∧ sv b m ≤ 999999999 := by unfold sv; split <;> omega
  have p1 := mulB2 z1.1 z1.2 (show -999999999 ≤ (e : Int) by omega) (show (e : Int) ≤ 999999999 by omega);have p2 := mulB2 z2.1 z2.2 (show -999999999 ≤ (d : Int) by omega) (show (d : Int) ≤ 999999999 by omega)
  have p3 : (1 : Int) ≤ d * e ∧ (d : Int) * e ≤ 999999999 * 999999999 := by
   have h1 : d * e ≤ 999999999 * 999999999 := Nat.mul_le_mul (by omega) (by omega);rw [← Int.natCast_mul]; omega
  have q1 : -9223372036854775808 ≤ sv a u * (e : Int) ∧ sv a u * (e : Int) ≤ 9223372036854775807 := by omega
  have q2 : -9223372036854775808 ≤ sv b m * (d : Int) ∧ sv b m * (d : Int) ≤ 9223372036854775807 := by omega
  have q3 : -9223372036854775808 ≤ (d : Int) * (e : Int) ∧ (d : Int) * (e : Int) ≤ 9223372036854775807 := by omega
  have co := fun lo L => zjn (H := ext H lo L) (n := sv a u * (e : Int) + sv b m * (d : Int)) (d := (d : Int) * (e : Int)) (by omega) (by omega) (by omega) (by omega)
  have eo : ofT (sv a u * (e : Int) + sv b m * (d : Int)) ((d : Int) * (e : Int)) = rt (mkRat (sv a u * (e : Int) + sv b m * (d : Int)) (d * e)) := by
   rw [zp6 _ hde];unfold ofT fT;rw [decide_eq_false (show ¬ (d : Int) * (e : Int) < 0 by omega), Bool.bne_false, Bool.and_comm];rw [show ((d : Int) * (e : Int)).natAbs = d * e by rw [← Int.natCast_mul]; rfl]
  rw [eo] at co;refine zst ?_;apply zac (ht := rfl); exact cq1 _ _; exact rfl;refine zst ?_;apply zac (ht := rfl); exact cq2 _ _; exact rfl;refine zst ?_;refine zam rfl rfl ?_;refine zst ?_;refine zq33 ?_;refine zst ?_;refine zq33 ?_;refine zq26 ?_;refine zst ?_;apply zad; exact zhc rfl rfl (by omega); exact rfl;apply zac (ht := rfl); exact co _ _; exact rfl;refine zst ?_;exact zab hc rfl rfl ⟨rfl, rfl⟩
 ·obtain ⟨a1, a2, a3, e1, k1⟩ : ∃ a1 a2 a3, qkV a u d = .tuple ⟨[I a1, I a2, .bool a3]⟩ ∧ (a3 = true → u < 1000000000 ∧ d < 1000000000) := by
   unfold qkV;by_cases h : u < 1000000000 ∧ d < 1000000000
   ·rw [if_pos h]; exact ⟨_, _, true, rfl, fun _ => h⟩
   ·rw [if_neg h]; exact ⟨_, _, false, rfl, fun h => by cases h⟩
  obtain ⟨b1, b2, b3, e2, k2⟩ : ∃ a1 a2 a3, qkV b m e = .tuple ⟨[I a1, I a2, .bool a3]⟩ ∧ (a3 = true → m < 1000000000 ∧ e < 1000000000) := by
   unfold qkV;by_cases h : m < 1000000000 ∧ e < 1000000000
   ·rw [if_pos h]; exact ⟨_, _, true, rfl, fun _ => h⟩
   ·rw [if_neg h]; exact ⟨_, _, false, rfl, fun h => by cases h⟩
  rw [e1] at cq1;rw [e2] at cq2;have k3 : a3 = true → b3 = true → False := fun h1 h2 => hs ⟨k1 h1, k2 h2⟩
  clear e1 e2 k1 k2 hs;have cp1 := fun lo L => zeL (H := ext H lo L) (neg := a) (u := u) (d := d) (by omega) (by omega) (by omega)
  have cp2 := fun lo L => zeL (H := ext H lo L) (neg := b) (u := m) (d := e) (by omega) (by omega) (by omega)
  rw [eau] at cp1;rw [ebm] at cp2;simp only [zal, za2] at cp1 cp2;refine zst ?_;apply zac (ht := rfl); exact cq1 _ _; exact rfl;refine zst ?_;apply zac (ht := rfl); exact cq2 _ _; exact rfl;(iterate 13 (refine zs1 ?_));refine zdf [(0, .string (tx (ratQ a u d))), (1, .string (tx (ratQ b m e))), (30, .bool false)] (ds := []) (h := ext H H.fresh []) ?_ ?_
  ·cases a3 with
   | false =>
    refine zst ?_
    exact zaP zsb
   | true =>
    have hb3 : b3 = false := by
     cases b3 with
     | false => rfl
     | true => exact (k3 rfl rfl).elim
    subst hb3;refine zst ?_;exact zaP zsb
  refine zah rfl rfl ?_;refine zst ?_;apply zac (ht := rfl); exact cp1 _ _; exact rfl;refine zst ?_;refine zq32 ?_;refine zq29 ?_;refine zst ?_;apply zac (ht := rfl); exact cp2 _ _; exact rfl;refine zst ?_;refine zq32 ?_;refine zq29 ?_;apply zcj;refine zcH (l' := [(11, .pointer (some ⟨nb H 2, 0, none⟩)), (12, .pointer (some ⟨nb H 3, 0, none⟩)), (13, .pointer (some ⟨nb H 6, 0, none⟩)), (14, .pointer (some ⟨nb H 7, 0, none⟩))]) (h' := ext H H.fresh [some (mB u), some (mB d), some (.cells [.bool a, .slice (some ⟨nb H 0, 0, none⟩) (dlen u) (ml u)] 0 false false), some (.cells [.bool false, .slice (some ⟨nb H 1, 0, none⟩) (dlen d) (ml d)] 0 false false), some (mB m), some (mB e), some (.cells [.bool b, .slice (some ⟨nb H 4, 0, none⟩) (dlen m) (ml m)] 0 false false), some (.cells [.bool false, .slice (some ⟨nb H 5, 0, none⟩) (dlen e) (ml e)] 0 false false)]) zsb (.refl _) ?_;clear cq1 cq2 cp1 cp2 k3;have hue : u * e < 1000000000 ^ (dlen u + dlen e) := by rw [zbl]; exact Nat.mul_lt_mul'' (zaD u) (zaD e)
  have hmd : m * d < 1000000000 ^ (dlen m + dlen d) := by rw [zbl]; exact Nat.mul_lt_mul'' (zaD m) (zaD d)
  have hdd : d * e < 1000000000 ^ (dlen d + dlen e) := by rw [zbl]; exact Nat.mul_lt_mul'' (zaD d) (zaD e)
  have b8 := za3 hue;have b9 := za3 hmd;have b10 := za3 hdd;have t1 := fun lo (L : List (Option ABlk)) (h0 : L[0]? = some (some (mB u))) (h5 : L[5]? = some (some (mB e))) => zew (H := ext H lo L) (ng := a) (ng' := false) (c := ml u) (e := ml e) (zfW h0) (zfW h5) (by omega) (by omega)
  have t2 := fun lo (L : List (Option ABlk)) (h0 : L[4]? = some (some (mB m))) (h5 : L[1]? = some (some (mB d))) => zew (H := ext H lo L) (ng := b) (ng' := false) (c := ml m) (e := ml d) (zfW h0) (zfW h5) (by omega) (by omega)
  have t3 := fun lo (L : List (Option ABlk)) (h0 : L[1]? = some (some (mB d))) (h5 : L[5]? = some (some (mB e))) => zew (H := ext H lo L) (ng := false) (ng' := false) (c := ml d) (e := ml e) (zfW h0) (zfW h5) (by omega) (by omega)
  rw [Bool.bne_false] at t1 t2;rw [show (false != false) = false from rfl, Bool.false_and] at t3;have pl := plusG_c (H := ext H H.fresh ([some (mB u), some (mB d), some (.cells [.bool a, .slice (some ⟨nb H 0, 0, none⟩) (dlen u) (ml u)] 0 false false), some (.cells [.bool false, .slice (some ⟨nb H 1, 0, none⟩) (dlen d) (ml d)] 0 false false), some (mB m), some (mB e), some (.cells [.bool b, .slice (some ⟨nb H 4, 0, none⟩) (dlen m) (ml m)] 0 false false), some (.cells [.bool false, .slice (some ⟨nb H 5, 0, none⟩) (dlen e) (ml e)] 0 false false)] ++ [some (.cells ((pw (dlen u + dlen e) (u * e)).map I) 1 false false), some (.cells ((pw (dlen m + dlen d) (m * d)).map I) 1 false false)])) (p := some ⟨nb H 8, 0, none⟩) (q := some ⟨nb H 9, 0, none⟩) (c := dlen u + dlen e) (e := dlen m + dlen d) (X := u * e) (Y := m * d) (b1 := a && decide (0 < u * e)) (b2 := b && decide (0 < m * d)) (zkn rfl hue) (zkn rfl hmd) (by intro h; rw [Bool.and_eq_true, decide_eq_true_iff] at h; omega) (by intro h; rw [Bool.and_eq_true, decide_eq_true_iff] at h; omega) (by omega) (by omega);rw [zrp, zrp] at pl;obtain ⟨neg, v, hv, hN⟩ := pl;have hvn : v = (sv a u * (e : Int) + sv b m * (d : Int)).natAbs := by rw [← hv]; unfold sv; split <;> omega
  have hvl : dlen v ≤ 201 := by
   have h1 : v ≤ u * e + m * d := by
    rw [hvn];refine Nat.le_trans (Int.natAbs_add_le _ _) ?_;rw [Int.natAbs_mul, Int.natAbs_mul, znO, znO];exact Nat.le_refl _
   exact Nat.le_trans (zaZ h1) (ziM (n := 200) (by omega) (by omega))
  have eF : ratQ (neg && decide (0 < v)) (v / Nat.gcd v (d * e)) (d * e / Nat.gcd v (d * e)) = rt (mkRat (sv a u * (e : Int) + sv b m * (d : Int)) (d * e)) := by
   rw [← hv];exact zrD (b := neg) (by unfold sv; split <;> omega) (sv_neg (fun h => by rw [Bool.and_eq_true, decide_eq_true_iff] at h; exact h.2)) hde
  apply zax (by assumption); decide +kernel;(iterate 2 (refine zq13 ?_));refine zbk (v := fun bb => intQ (a && decide (0 < u * e)) (some ⟨bb, 0, none⟩) (dlen (u * e)) (dlen u + dlen e)) (x := (.cells ((pw (dlen u + dlen e) (u * e)).map I) 1 false false)) rfl rfl (by decide +kernel) (t1 _ _ rfl rfl) rfl ?_;(iterate 2 (refine zq13 ?_));refine zbk (v := fun bb => intQ (b && decide (0 < m * d)) (some ⟨bb, 0, none⟩) (dlen (m * d)) (dlen m + dlen d)) (x := (.cells ((pw (dlen m + dlen d) (m * d)).map I) 1 false false)) rfl rfl (by decide +kernel) (t2 _ _ rfl rfl) rfl ?_;rcases hN with ⟨hv0, hr⟩ | ⟨n, c', s, l1, l2, l3, hr⟩
  ·subst hv0;apply zbc (ht := rfl) (hw := rfl); decide +kernel; exact hr; exact rfl;(iterate 2 (refine zq13 ?_));refine zbk (v := fun bb => intQ false (some ⟨bb, 0, none⟩) (dlen (d * e)) (dlen d + dlen e)) (x := (.cells ((pw (dlen d + dlen e) (d * e)).map I) 1 false false)) rfl rfl (by decide +kernel) (t3 _ _ rfl rfl) rfl ?_
   skip;have fr := fun lo (L : List (Option ABlk)) (h10 : L[10]? = some (some (.cells ((pw (dlen d + dlen e) (d * e)).map I) 1 false false))) => zdk (H := ext H lo L) (p := none) (q := some ⟨nb H 10, 0, none⟩) (c := 0) (e := dlen d + dlen e) (x := 0) (y := d * e) (ng := false) (nd := false) (by rw [zer]; exact SlAt.nil) (by intro x hx; cases hx) ⟨by rw [zaO]; exact Nat.le_refl _, (fun _ => ⟨zaO, rfl⟩), (fun _ e => by cases e)⟩ (zkn h10 hdd) (OldS.new (List.getElem?_eq_some_iff.1 h10).1) (zek b10) hde (by rw [zaO]; omega) (by omega)
   have eR : ((if false = true then !false else false) && decide (0 < 0)) = (neg && decide (0 < 0)) := by simp
   simp only [eR, eF, zaO] at fr;apply zbc (ht := rfl) (hw := rfl); decide +kernel; exact fr _ _ rfl; exact rfl;refine zq14 ?_;apply zaz;apply zaV;exact zab hc rfl rfl ⟨rfl, rfl⟩
  ·simp only [zal, za2] at hr;refine zbk (v := fun bb => intQ (neg && decide (0 < v)) (some ⟨bb, 0, none⟩) (dlen v) c') (x := .cells ((pw n v).map I) 1 s false) rfl rfl (by decide +kernel) hr rfl ?_;(iterate 2 (refine zq13 ?_));refine zbk (v := fun bb => intQ false (some ⟨bb, 0, none⟩) (dlen (d * e)) (dlen d + dlen e)) (x := (.cells ((pw (dlen d + dlen e) (d * e)).map I) 1 false false)) rfl rfl (by decide +kernel) (t3 _ _ rfl rfl) rfl ?_
   skip;have fr := fun lo (L : List (Option ABlk)) (h9 : L[10]? = some (some (.cells ((pw n v).map I) 1 s false))) (h10 : L[11]? = some (some (.cells ((pw (dlen d + dlen e) (d * e)).map I) 1 false false))) => zdk (H := ext H lo L) (p := some ⟨nb H 10, 0, none⟩) (q := some ⟨nb H 11, 0, none⟩) (c := c') (e := dlen d + dlen e) (x := v) (y := d * e) (ng := neg && decide (0 < v)) (nd := false) (zkn h9 l1) (OldS.new (List.getElem?_eq_some_iff.1 h9).1) (zek (Nat.le_trans (za3 l1) l2)) (zkn h10 hdd) (OldS.new (List.getElem?_eq_some_iff.1 h10).1) (zek b10) hde (by omega) (by omega)
   have eR : ((if false = true then !(neg && decide (0 < v)) else (neg && decide (0 < v))) && decide (0 < v)) = (neg && decide (0 < v)) := by simp
   simp only [eR, eF] at fr;apply zbc (ht := rfl) (hw := rfl); decide +kernel; exact fr _ _ rfl rfl; exact rfl;refine zq14 ?_;apply zaz;apply zaV;exact zab hc rfl rfl ⟨rfl, rfl⟩
theorem sv_mul2 {a b : Bool} {u m : Nat} : sv a u * sv b m = sv (a != b) (u * m) := by
 unfold sv;cases a <;> cases b <;> simp [Int.natCast_mul, Int.neg_mul, Int.mul_neg]
theorem rt_at (x : Rat) : ∃ a u d, a = decide (x.num < 0) ∧ u = x.num.natAbs ∧ d = x.den ∧ rt x = ratQ a u d ∧ x.num = sv a u ∧ (a = true → u ≠ 0) ∧ d ≠ 0 ∧ (a && decide (0 < u)) = a := by
 refine ⟨_, _, _, rfl, rfl, rfl, rfl, ?_, zgB, x.den_nz, ?_⟩
 ·unfold sv;by_cases h : x.num < 0
  ·rw [decide_eq_true h, if_pos rfl]; omega
  ·rw [decide_eq_false h, if_neg (by simp)]; omega
 ·by_cases h : x.num < 0
  ·rw [decide_eq_true h, decide_eq_true (show 0 < x.num.natAbs by omega)]; rfl
  ·rw [decide_eq_false h]; rfl
set_option maxHeartbeats 4000000 in
theorem zrw {H : AHeap} {x y : Rat} (hx : RSz 100 x) (hy : RSz 100 y) :
  Ret Tryz.prog 192 [.string (tx (rt x)), .string (tx (rt y))] H (.string (tx (rt (x * y)))) H := by
 have hx1 := hx.n;have hx2 := hx.d;have hy1 := hy.n;have hy2 := hy.d;rw [Rat.mul_def'];obtain ⟨a, u, d, ha, hu, hd, erx, ex, hau, nx, eau⟩ := rt_at x;obtain ⟨b, m, e, hb, hm, he, ery, ey, hbm, ny, ebm⟩ := rt_at y;rw [← hu] at hx1;rw [← hm] at hy1;rw [← hd] at hx2;rw [← he] at hy2;rw [erx, ery, ex, ey, ← hd, ← he];clear hu hm hd he ha hb erx ery ex ey hx hy;have hde : d * e ≠ 0 := Nat.mul_ne_zero nx ny;refine zae Tryz.func192 rfl rfl rfl fun hc => ?_
 have cq1 := fun lo L => zf8 (H := ext H lo L) (neg := a) (u := u) (d := d) (by omega) (by omega)
 have cq2 := fun lo L => zf8 (H := ext H lo L) (neg := b) (u := m) (d := e) (by omega) (by omega)
 by_cases hs : (u < 1000000000 ∧ d < 1000000000) ∧ (m < 1000000000 ∧ e < 1000000000)
 ·obtain ⟨⟨s1, s2⟩, s3, s4⟩ := hs;have e1 : qkV a u d = .tuple ⟨[I (sv a u), I d, .bool true]⟩ := if_pos ⟨s1, s2⟩;have e2 : qkV b m e = .tuple ⟨[I (sv b m), I e, .bool true]⟩ := if_pos ⟨s3, s4⟩;rw [e1] at cq1;rw [e2] at cq2;have z1 : -999999999 ≤ sv a u ∧ sv a u ≤ 999999999 := by unfold sv; split <;> omega
  have z2 : -999999999 ≤ sv b m ∧ sv b m ≤ 999999999 := by unfold sv; split <;> omega
  have p1 := mulB2 z1.1 z1.2 z2.1 z2.2
  have p3 : (1 : Int) ≤ d * e ∧ (d : Int) * e ≤ 999999999 * 999999999 := by
   have h1 : d * e ≤ 999999999 * 999999999 := Nat.mul_le_mul (by omega) (by omega);rw [← Int.natCast_mul]; omega
  have q1 : -9223372036854775808 ≤ sv a u * sv b m ∧ sv a u * sv b m ≤ 9223372036854775807 := by omega
  have q3 : -9223372036854775808 ≤ (d : Int) * (e : Int) ∧ (d : Int) * (e : Int) ≤ 9223372036854775807 := by omega
  have co := fun lo L => zjn (H := ext H lo L) (n := sv a u * sv b m) (d := (d : Int) * (e : Int)) (by omega) (by omega) (by omega) (by omega)
  have eo : ofT (sv a u * sv b m) ((d : Int) * (e : Int)) = rt (mkRat (sv a u * sv b m) (d * e)) := by
   rw [zp6 _ hde];unfold ofT fT;rw [decide_eq_false (show ¬ (d : Int) * (e : Int) < 0 by omega), Bool.bne_false, Bool.and_comm];rw [show ((d : Int) * (e : Int)).natAbs = d * e by rw [← Int.natCast_mul]; rfl]
  rw [eo] at co;refine zst ?_;apply zac (ht := rfl); exact cq1 _ _; exact rfl;refine zst ?_;apply zac (ht := rfl); exact cq2 _ _; exact rfl;refine zst ?_;refine zam rfl rfl ?_;refine zst ?_;refine zq33 ?_;refine zst ?_;apply zad; exact zhc rfl rfl (by omega); exact rfl;apply zac (ht := rfl); exact co _ _; exact rfl;refine zst ?_;exact zab hc rfl rfl ⟨rfl, rfl⟩
 ·obtain ⟨a1, a2, a3, e1, k1⟩ : ∃ a1 a2 a3, qkV a u d = .tuple ⟨[I a1, I a2, .bool a3]⟩ ∧ (a3 = true → u < 1000000000 ∧ d < 1000000000) := by
   unfold qkV;by_cases h : u < 1000000000 ∧ d < 1000000000
   ·rw [if_pos h]; exact ⟨_, _, true, rfl, fun _ => h⟩
   ·rw [if_neg h]; exact ⟨_, _, false, rfl, fun h => by cases h⟩
  obtain ⟨b1, b2, b3, e2, k2⟩ : ∃ a1 a2 a3, qkV b m e = .tuple ⟨[I a1, I a2, .bool a3]⟩ ∧ (a3 = true → m < 1000000000 ∧ e < 1000000000) := by
   unfold qkV;by_cases h : m < 1000000000 ∧ e < 1000000000
   ·rw [if_pos h]; exact ⟨_, _, true, rfl, fun _ => h⟩
   ·rw [if_neg h]; exact ⟨_, _, false, rfl, fun h => by cases h⟩
  rw [e1] at cq1;rw [e2] at cq2;have k3 : a3 = true → b3 = true → False := fun h1 h2 => hs ⟨k1 h1, k2 h2⟩
  clear e1 e2 k1 k2 hs;have cp1 := fun lo L => zeL (H := ext H lo L) (neg := a) (u := u) (d := d) (by omega) (by omega) (by omega)
  have cp2 := fun lo L => zeL (H := ext H lo L) (neg := b) (u := m) (d := e) (by omega) (by omega) (by omega)
  rw [eau] at cp1;rw [ebm] at cp2;simp only [zal, za2] at cp1 cp2;refine zst ?_;apply zac (ht := rfl); exact cq1 _ _; exact rfl;refine zst ?_;apply zac (ht := rfl); exact cq2 _ _; exact rfl;(iterate 13 (refine zs1 ?_));refine zdf [(0, .string (tx (ratQ a u d))), (1, .string (tx (ratQ b m e))), (30, .bool false)] (ds := []) (h := ext H H.fresh []) ?_ ?_
  ·cases a3 with
   | false =>
    refine zst ?_
    exact zaP zsb
   | true =>
    have hb3 : b3 = false := by
     cases b3 with
     | false => rfl
     | true => exact (k3 rfl rfl).elim
    subst hb3;refine zst ?_;exact zaP zsb
  refine zah rfl rfl ?_;refine zst ?_;apply zac (ht := rfl); exact cp1 _ _; exact rfl;refine zst ?_;refine zq32 ?_;refine zq29 ?_;refine zst ?_;apply zac (ht := rfl); exact cp2 _ _; exact rfl;refine zst ?_;refine zq32 ?_;refine zq29 ?_;apply zcj;refine zcH (l' := [(11, .pointer (some ⟨nb H 2, 0, none⟩)), (12, .pointer (some ⟨nb H 3, 0, none⟩)), (13, .pointer (some ⟨nb H 6, 0, none⟩)), (14, .pointer (some ⟨nb H 7, 0, none⟩))]) (h' := ext H H.fresh [some (mB u), some (mB d), some (.cells [.bool a, .slice (some ⟨nb H 0, 0, none⟩) (dlen u) (ml u)] 0 false false), some (.cells [.bool false, .slice (some ⟨nb H 1, 0, none⟩) (dlen d) (ml d)] 0 false false), some (mB m), some (mB e), some (.cells [.bool b, .slice (some ⟨nb H 4, 0, none⟩) (dlen m) (ml m)] 0 false false), some (.cells [.bool false, .slice (some ⟨nb H 5, 0, none⟩) (dlen e) (ml e)] 0 false false)]) zsb (.refl _) ?_;clear cq1 cq2 cp1 cp2 k3;have hum : u * m < 1000000000 ^ (dlen u + dlen m) := by rw [zbl]; exact Nat.mul_lt_mul'' (zaD u) (zaD m)
  have hdd : d * e < 1000000000 ^ (dlen d + dlen e) := by rw [zbl]; exact Nat.mul_lt_mul'' (zaD d) (zaD e)
  have b8 := za3 hum;have b10 := za3 hdd;have t1 := fun lo (L : List (Option ABlk)) (h0 : L[0]? = some (some (mB u))) (h5 : L[4]? = some (some (mB m))) => zew (H := ext H lo L) (ng := a) (ng' := b) (c := ml u) (e := ml m) (zfW h0) (zfW h5) (by omega) (by omega)
  have t3 := fun lo (L : List (Option ABlk)) (h0 : L[1]? = some (some (mB d))) (h5 : L[5]? = some (some (mB e))) => zew (H := ext H lo L) (ng := false) (ng' := false) (c := ml d) (e := ml e) (zfW h0) (zfW h5) (by omega) (by omega)
  rw [show (false != false) = false from rfl, Bool.false_and] at t3
  have eF : ratQ (((a != b) && decide (0 < u * m)) && decide (0 < u * m)) (u * m / Nat.gcd (u * m) (d * e)) (d * e / Nat.gcd (u * m) (d * e)) = rt (mkRat (sv a u * sv b m) (d * e)) := by
   rw [sv_mul2];refine zrD (n := sv (a != b) (u * m)) (a := u * m) (d := d * e) (b := (a != b) && decide (0 < u * m)) (znO _ _).symm ?_ hde;generalize (a != b) = B
   generalize u * m = w
   unfold sv
   cases B with
   | false => simp <;> omega
   | true =>
    by_cases h : 0 < w
    ·simp [h]
    ·simp [h] <;> omega
  have fr := fun lo (L : List (Option ABlk)) (h8 : L[8]? = some (some (.cells ((pw (dlen u + dlen m) (u * m)).map I) 1 false false))) (h9 : L[9]? = some (some (.cells ((pw (dlen d + dlen e) (d * e)).map I) 1 false false))) => zdk (H := ext H lo L) (p := some ⟨nb H 8, 0, none⟩) (q := some ⟨nb H 9, 0, none⟩) (c := dlen u + dlen m) (e := dlen d + dlen e) (x := u * m) (y := d * e) (ng := (a != b) && decide (0 < u * m)) (nd := false) (zkn h8 hum) (OldS.new (List.getElem?_eq_some_iff.1 h8).1) (zek b8) (zkn h9 hdd) (OldS.new (List.getElem?_eq_some_iff.1 h9).1) (zek b10) hde (by omega) (by omega)
  have eR : ((if false = true then !((a != b) && decide (0 < u * m)) else ((a != b) && decide (0 < u * m))) && decide (0 < u * m)) = (((a != b) && decide (0 < u * m)) && decide (0 < u * m)) := by simp
  simp only [eR, eF] at fr;clear eF eR;apply zax (by assumption); decide +kernel;(iterate 2 (refine zq13 ?_));refine zbk (v := fun bb => intQ ((a != b) && decide (0 < u * m)) (some ⟨bb, 0, none⟩) (dlen (u * m)) (dlen u + dlen m)) (x := (.cells ((pw (dlen u + dlen m) (u * m)).map I) 1 false false)) rfl rfl (by decide +kernel) (t1 _ _ rfl rfl) rfl ?_;(iterate 2 (refine zq13 ?_));refine zbk (v := fun bb => intQ false (some ⟨bb, 0, none⟩) (dlen (d * e)) (dlen d + dlen e)) (x := (.cells ((pw (dlen d + dlen e) (d * e)).map I) 1 false false)) rfl rfl (by decide +kernel) (t3 _ _ rfl rfl) rfl ?_;apply zbc (ht := rfl) (hw := rfl); decide +kernel; exact fr _ _ rfl rfl; exact rfl;refine zq14 ?_;apply zaz;apply zaV;exact zab hc rfl rfl ⟨rfl, rfl⟩
theorem zof (u d : Nat) : ratQ true u d = 45 :: ratQ false u d := by
 unfold ratQ ratN;simp; split <;> rfl
theorem zja {x : Rat} (h : x.num < 0) : rt x = 45 :: rt (-x) := by
 unfold rt;rw [Rat.neg_num, Rat.neg_den, decide_eq_true h, decide_eq_false (show ¬ -x.num < 0 by omega), zof, Int.natAbs_neg]
theorem rt_negS {x : Rat} (h : 0 < x.num) : rt (-x) = 45 :: rt x := by
 have := zja (x := -x) (by rw [Rat.neg_num]; omega);rw [Rat.neg_neg] at this; exact this
theorem zog (u d : Nat) : ∃ h : 0 < (ratQ false u d).length, ((ratQ false u d)[0]'h).toNat ≠ 45 := by
 have hp := zbY u;have h := (zcS u hp).1;unfold ratQ ratN;simp only [Bool.false_eq_true, if_false];split
 ·exact ⟨hp, h⟩
 ·exact ⟨by simp; omega, by rw [List.getElem_append_left hp]; exact h⟩
theorem zkb (x : Rat) : ∃ h : 0 < (rt x).length, (((rt x)[0]'h).toNat = 45 ↔ x.num < 0) := by
 by_cases hx : x.num < 0
 ·rw [zja hx]; exact ⟨by simp, by simp [hx]⟩
 ·unfold rt;rw [decide_eq_false hx];obtain ⟨h, hn⟩ := zog x.num.natAbs x.den;exact ⟨h, ⟨fun e => absurd e hn, fun e => absurd e hx⟩⟩
theorem ze5 {a b : Nat} (h : decDigits a = decDigits b) : a = b := by
 have := congrArg valB h;rw [zbX, zbX] at this; omega
theorem zqf {u d v e : Nat} (h : ratQ false u d = ratQ false v e) : u = v ∧ d = e := by
 have h1 := congrArg slashI h;rw [zd3, zd3] at h1;have ht := congrArg (List.take (ratN false u).length) h
 have key : ∀ u d, (ratQ false u d).take (ratN false u).length = decDigits u := fun u d => by
  unfold ratQ ratN; simp only [Bool.false_eq_true, if_false]; split <;> simp
 have kd : ∀ u d, (ratQ false u d).drop (ratN false u).length = if d = 1 then [] else 47 :: decDigits d := fun u d => by
  unfold ratQ ratN; simp only [Bool.false_eq_true, if_false]; split <;> simp
 rw [key u d, h1, key v e] at ht;have hu := ze5 ht;refine ⟨hu, ?_⟩;have hd := congrArg (List.drop (ratN false u).length) h;rw [kd u d, h1, kd v e] at hd;by_cases e1 : d = 1
 ·by_cases e2 : e = 1
  ·rw [e1, e2]
  ·rw [if_pos e1, if_neg e2] at hd; simp at hd
 ·by_cases e2 : e = 1
  ·rw [if_neg e1, if_pos e2] at hd; simp at hd
  ·rw [if_neg e1, if_neg e2] at hd;exact ze5 (List.cons.inj hd).2
theorem rt_inj {x y : Rat} (h : rt x = rt y) : x = y := by
 obtain ⟨hx, ex⟩ := zkb x;obtain ⟨hy, ey⟩ := zkb y
 have hh : x.num < 0 ↔ y.num < 0 := by
  rw [← ex, ← ey]; simp only [h]
 have gen : ∀ x y : Rat, ¬ x.num < 0 → ¬ y.num < 0 → rt x = rt y → x = y := fun x y h1 h2 h => by
  unfold rt at h;rw [decide_eq_false h1, decide_eq_false h2] at h;obtain ⟨e1, e2⟩ := zqf h;exact Rat.ext (by omega) e2
 by_cases hn : x.num < 0
 ·have hn2 := hh.1 hn;rw [zja hn, zja hn2] at h;have := gen (-x) (-y) (by rw [Rat.neg_num]; omega) (by rw [Rat.neg_num]; omega) (List.cons.inj h).2;rw [← Rat.neg_neg x, this, Rat.neg_neg]
 ·exact gen x y hn (fun e => hn (hh.2 e)) h
theorem rt_iff {x y : Rat} : rt x = rt y ↔ x = y := ⟨rt_inj, fun h => by rw [h]⟩
theorem rt_0 : rt 0 = [48] := by
 show ratQ _ _ _ = _;simp only [ratQ, Rat.zero_num, Rat.zero_den, if_true, ratN];simp [decDigits_one]
theorem rt_1 : rt 1 = [49] := by
 show ratQ _ _ _ = _;simp only [ratQ, Rat.one_num, Rat.one_den, if_true, ratN];simp [decDigits_one]
theorem zru (x : Rat) : decide (rt x = [48]) = decide (x = 0) := by rw [← rt_0]; exact decide_eq_decide.2 rt_iff
def sgnQ (x : Rat) : Int := if x.num < 0 then -1 else if x = 0 then 0 else 1
theorem zn6 {x : Rat} (h : RSz 1000 x) : (rt x).length ≤ 20010 := by
 have h1 := zdF (decide (x.num < 0)) h.n;have h2 := zdF false h.d;unfold rt ratQ;split
 ·omega
 ·have : (ratN false x.den) = decDigits x.den := rfl;rw [this] at h2;simp; omega
theorem zlq {H : AHeap} {x : Rat} : Ret Tryz.prog 190 [.string (tx (rt x))] H (.bool (decide (x = 0))) H := by
 have e : tx [48] = ⟨#[48]⟩ := rfl;have hz := zru x;obtain ⟨s, hs⟩ : ∃ s, s = rt x := ⟨_, rfl⟩
 rw [← hs] at hz ⊢;refine zae Tryz.func190 rfl rfl rfl fun hc => ?_
 refine zst ?_;apply zad; exact zlD rfl rfl; exact rfl;refine zst ?_;exact zab hc rfl rfl ⟨by rw [hz]; rfl, rfl⟩
theorem zoc {H : AHeap} {x : Rat} (hx : RSz 1000 x) : Ret Tryz.prog 262 [.string (tx (rt x))] H (I (sgnQ x)) H := by
 have hz := zru x;obtain ⟨h0, he⟩ := zkb x;have hl := zn6 hx;obtain ⟨s, hs⟩ : ∃ s, s = rt x := ⟨_, rfl⟩
 simp only [← hs] at hz h0 he hl ⊢;refine zae Tryz.func262 rfl rfl rfl fun hc => ?_
 refine zst ?_;apply zad; exact zlD rfl rfl; exact rfl;apply zaf;by_cases hx0 : x = 0
 ·refine zam rfl (by rw [hz]; exact decide_eq_true hx0) ?_;refine zst ?_;refine zab hc rfl rfl ⟨?_, rfl⟩;subst hx0; rfl
 ·refine zah rfl (by rw [hz]; exact decide_eq_false hx0) ?_;have e0 : decide ((s.length : Int) > 0) = true := decide_eq_true (by omega);refine zst ?_;refine zq9 ?_;refine zq0 ?_;refine zs1 ?_;rw [e0];refine zst ?_;apply zay (hd := rfl) (hl := rfl); exact zdT rfl rfl rfl (by exact zb7 (by omega)) (by omega); exact rfl;refine zq1 ?_;(iterate 2 (refine zs1 ?_));by_cases hn : x.num < 0
  ·have e1 : (((s[0]'h0).toNat : Int) == 45) = true := by have := he.2 hn; simp; omega
   refine zam rfl e1 ?_;refine zst ?_;refine zab hc rfl rfl ⟨?_, rfl⟩;rw [show sgnQ x = -1 from if_pos hn]; rfl
  ·have e1 : (((s[0]'h0).toNat : Int) == 45) = false := by have : ¬ (s[0]'h0).toNat = 45 := fun e => hn (he.1 e); simp; omega
   refine zah rfl e1 ?_;refine zst ?_;refine zab hc rfl rfl ⟨?_, rfl⟩;rw [show sgnQ x = 1 from (if_neg hn).trans (if_neg hx0)]; rfl
theorem zrq {x : Rat} : sgnQ x < 0 ↔ x.num < 0 := by
 unfold sgnQ;constructor
 ·intro h; split at h
  ·assumption
  ·split at h <;> omega
 ·intro h; rw [if_pos h]; decide
theorem zrr {x : Rat} : sgnQ x = 0 ↔ x = 0 := by
 unfold sgnQ;constructor
 ·intro h; split at h
  ·omega
  ·split at h
   ·assumption
   ·omega
 ·intro h; subst h; simp
theorem zqc {H : AHeap} {x : Rat} (hx : RSz 1000 x) : Ret Tryz.prog 230 [.string (tx (rt x))] H (.string (tx (rt (-x)))) H := by
 have cs := fun lo L => zoc (H := ext H lo L) hx
 have hl := zn6 hx;refine zae Tryz.func230 rfl rfl rfl fun hc => ?_
 refine zst ?_;apply zac (ht := rfl); exact cs _ _; exact rfl;refine zq0 ?_;apply zaf;by_cases hn : x.num < 0
 ·refine zam rfl (decide_eq_true (zrq.2 hn)) ?_;have e := zja hn;have h1 : 1 ≤ (rt x).length := by rw [e]; simp
  refine zst ?_;apply zad; exact zct 1 rfl rfl rfl rfl h1; exact rfl;refine zst ?_;refine zab hc rfl rfl ⟨?_, rfl⟩;rw [e]; rfl
 ·refine zah rfl (decide_eq_false fun h => hn (zrq.1 h)) ?_;refine zst ?_;apply zac (ht := rfl); exact cs _ _; exact rfl;refine zq0 ?_;apply zaf;by_cases h0 : x = 0
  ·refine zam rfl (by rw [zrr.2 h0]; rfl) ?_;refine zst ?_;refine zab hc rfl rfl ⟨?_, rfl⟩;subst h0; rfl
  ·refine zah rfl (by simp; exact fun h => h0 (zrr.1 h)) ?_
   have hp : 0 < x.num := by
    have : x.num ≠ 0 := fun h => h0 (Rat.num_eq_zero.1 h)
    omega
   have e := rt_negS hp;refine zst ?_;refine zq44 ?_;refine zst ?_;refine zab hc rfl rfl ⟨?_, rfl⟩;rw [e]; rfl
theorem RSz.mono {k m : Nat} {x : Rat} (h : RSz k x) (hk : k ≤ m) : RSz m x := ⟨Nat.le_trans h.n hk, Nat.le_trans h.d hk⟩
theorem RSz.neg {k : Nat} {x : Rat} (h : RSz k x) : RSz k (-x) := ⟨by rw [Rat.neg_num, Int.natAbs_neg]; exact h.n, by rw [Rat.neg_den]; exact h.d⟩
theorem subQ_c {H : AHeap} {x y : Rat} (hx : RSz 100 x) (hy : RSz 100 y) : Ret Tryz.prog 193 [.string (tx (rt x)), .string (tx (rt y))] H (.string (tx (rt (x - y)))) H := by
 have cn := fun lo L => zqc (H := ext H lo L) (hy.mono (by omega))
 have ca := fun lo L => addQ_c (H := ext H lo L) hx hy.neg
 rw [Rat.sub_eq_add_neg];refine zae Tryz.func193 rfl rfl rfl fun hc => ?_
 refine zst ?_;apply zac (ht := rfl); exact cn _ _; exact rfl;apply zac (ht := rfl); exact ca _ _; exact rfl;refine zst ?_;exact zab hc rfl rfl ⟨rfl, rfl⟩
theorem rt_int (n : Int) : rt (n : Rat) = ratN (decide (n < 0)) n.natAbs := by
 unfold rt;rw [Rat.num_intCast, Rat.den_intCast, zeG]
theorem zgZ {H : AHeap} {n : Int} (h1 : -9223372036854775808 < n) (h2 : n ≤ 9223372036854775807) : Ret Tryz.prog 57 [I n] H (.string (tx (rt (n : Rat)))) H := by
 rw [rt_int];have cw := fun lo L => whole_c (H := ext H lo L) h1 h2
 simp only [zeR, zal] at cw;refine zae Tryz.func57 rfl rfl rfl fun hc => ?_
 have ct := zj3 (H := ext H H.fresh ([] ++ lstL 1 i1 (dg n.natAbs))) (neg := decide (n < 0)) (p := lstP (nb H 0) (dg n.natAbs)) (c := dlen n.natAbs) (v := n.natAbs) (zgd (H := H) (lo := H.fresh) (L := []) (f := i1) (m := 1) (l := dg n.natAbs) (fun _ => rfl)) (Nat.le_trans (za3 (n := 3) (by show n.natAbs < 1000000000 ^ 3; omega)) (by omega)) (by intro h; have := of_decide_eq_true h; omega);refine zst ?_;apply zac (ht := rfl); exact cw _ _; exact rfl;apply zac (ht := rfl); exact ct; exact rfl;refine zst ?_;exact zab hc rfl rfl ⟨rfl, rfl⟩
end Go.Proofs.YtlejimjgagfalaaGreatDoor
