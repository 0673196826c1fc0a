import Derived.Test.YtlejimjgagfalaaGreatDoorMeA
import Derived.Test.YtlejimjgagfalaaGreatDoorHaC
import Derived.Test.YtlejimjgagfalaaGreatDoorSmA
import Derived.Test.YtlejimjgagfalaaGreatDoorQlA
noncomputable section
namespace Go.Proofs.YtlejimjgagfalaaGreatDoor
open Go Go.Den
set_option maxRecDepth 100000
theorem zqh {cs : List Value} {o n v i : Nat} (hw : ∀ i (h : i < (pw n v).length), sliceIn cs (o + i * 1) 1 = some (i1 (pw n v)[i])) (hi : i < n) : pt false 1 cs (o + i * 1) = some (I ((v / 1000000000 ^ i % 1000000000 : Nat) : Int)) := by
 have := zgK (n := 1) (g := I) hw (i := i) (by rw [zaK]; exact hi);rw [this, zgH]
theorem zoo {n v i k : Nat} (hi : i < n) : pt false k ((pw n v).map I) (0 + i * 1) = some (I ((v / 1000000000 ^ i % 1000000000 : Nat) : Int)) := by
 rw [zdH (l := pw n v) (f := I) (by rw [zaK]; exact hi), zgH]
theorem zpn {P : Program} {l : EL} {h : AHeap} {x y : Operand} {t t' : TypeId} {a : Nat} (hx : ev l x = some (.int .i64 (a : Int))) (hy : ev l y = some (.int .i64 1000000000)) (hr : a * 1000000000 < 9223372036854775808) : Does P l (.binOp .mul t x y t') h (.int .i64 ((a * 1000000000 : Nat) : Int)) h :=
 zhc (b := 1000000000) hx hy hr
theorem do_quoB {P : Program} {l : EL} {h : AHeap} {x y : Operand} {t t' : TypeId} {a : Nat} (hx : ev l x = some (.int .i64 (a : Int))) (hy : ev l y = some (.int .i64 1000000000)) (ha : a < 9223372036854775808) : Does P l (.binOp .quo t x y t') h (.int .i64 ((a / 1000000000 : Nat) : Int)) h :=
 zrG (b := 1000000000) hx hy ha (by omega)
theorem do_remB {P : Program} {l : EL} {h : AHeap} {x y : Operand} {t t' : TypeId} {a : Nat} (hx : ev l x = some (.int .i64 (a : Int))) (hy : ev l y = some (.int .i64 1000000000)) : Does P l (.binOp .rem t x y t') h (.int .i64 ((a % 1000000000 : Nat) : Int)) h :=
 zpm (b := 1000000000) hx hy (by omega)
theorem zlG {P : Program} {l : EL} {h : AHeap} {t t' : TypeId} {x y : Operand} {a : Nat} (hx : ev l x = some (.int .i64 (a : Int))) (hy : ev l y = some (.int .i64 2)) (hle : 2 ≤ a) (hlt : a < 9223372036854775808) : Does P l (.binOp .sub t x y t') h (.int .i64 ((a - 2 : Nat) : Int)) h :=
 zfz (b := 2) hx hy hle hlt
theorem digs_at {u j k : Nat} {V : Nat} (hV : V < 1000000000 ^ (k + 2)) (hW : u / 1000000000 ^ j < 1000000000 * V) :
  V / 1000000000 ^ (k + 1) % 1000000000 = V / 1000000000 ^ k / 1000000000 ∧
  u / 1000000000 ^ (j + (k + 2)) % 1000000000 = u / 1000000000 ^ j / 1000000000 ^ k / 1000000000 / 1000000000 ∧
  u / 1000000000 ^ (j + (k + 1)) % 1000000000 = u / 1000000000 ^ j / 1000000000 ^ k / 1000000000 % 1000000000 ∧
  u / 1000000000 ^ (j + k) % 1000000000 = u / 1000000000 ^ j / 1000000000 ^ k % 1000000000 := by
 have e1 : V / 1000000000 ^ (k + 1) = V / 1000000000 ^ k / 1000000000 := by rw [Nat.pow_succ, Nat.div_div_eq_div_mul]
 have l1 : V / 1000000000 ^ k / 1000000000 < 1000000000 := by
  rw [← e1, Nat.div_lt_iff_lt_mul (zaH _)];rw [Nat.pow_succ, Nat.mul_comm] at hV;exact hV
 have e2 : ∀ i, u / 1000000000 ^ (j + i) = u / 1000000000 ^ j / 1000000000 ^ i := fun i => by rw [zbl, Nat.div_div_eq_div_mul]
 obtain ⟨W, hWd⟩ : ∃ W, W = u / 1000000000 ^ j := ⟨_, rfl⟩
 rw [← hWd] at hW;have e3 : W / 1000000000 ^ (k + 1) = W / 1000000000 ^ k / 1000000000 := by rw [Nat.pow_succ, Nat.div_div_eq_div_mul]
 have e4 : W / 1000000000 ^ (k + 2) = W / 1000000000 ^ k / 1000000000 / 1000000000 := by rw [Nat.pow_succ, ← Nat.div_div_eq_div_mul, e3]
 have l2 : W / 1000000000 ^ k / 1000000000 / 1000000000 < 1000000000 := by
  rw [← e4, Nat.div_lt_iff_lt_mul (zaH _)];have : 1000000000 * V < 1000000000 * 1000000000 ^ (k + 2) := by omega
  omega
 rw [e2, e2, e2, ← hWd, e1, e3, e4];exact ⟨Nat.mod_eq_of_lt l1, Nat.mod_eq_of_lt l2, rfl, rfl⟩
def GuR (H : AHeap) (W V : Nat) (v : Value) (h : AHeap) : Prop := h = H ∧ ∃ t : Nat, v = I t ∧ W / V ≤ t ∧ t ≤ W / V + 1 ∧ t ≤ 999999999
set_option maxHeartbeats 8000000 in
theorem guess_c {H : AHeap} {pu pv : Option Addr} {c e m j k u V : Nat} (hu : SlAt H 1 i1 pu (pw m u)) (hv : SlAt H 1 i1 pv (pw (k + 2) V)) (hV : V < 1000000000 ^ (k + 2)) (hV1 : 1000000000 ^ (k + 1) ≤ V) (hj : j + (k + 2) < m) (hW : u / 1000000000 ^ j < 1000000000 * V) (hm : m ≤ 1000) :
  CallT Tryz.prog 276 [.slice pu m c, .slice pv (k + 2) e, I j] H (GuR H (u / 1000000000 ^ j) V) := by
 refine zae Tryz.func276 rfl rfl rfl fun hc => ?_
 have lu := zaK m u;have lv := zaK (k + 2) V;obtain ⟨b2, o2, cs2, z2, s2, ro2, rfl, hg2, hw2⟩ := hu.out (by intro e; rw [e] at lu; simp at lu; omega);obtain ⟨b3, o3, cs3, z3, s3, ro3, rfl, hg3, hw3⟩ := hv.out (by intro e; rw [e] at lv; simp at lv);obtain ⟨d1, d2, d3, d4⟩ := digs_at (j := j) hV hW;have x1 : j + (k + 2) - 1 = j + (k + 1) := by omega
 have x2 : j + (k + 2) - 2 = j + k := by omega
 have x3 : k + 2 - 1 = k + 1 := by omega
 have x4 : k + 2 - 2 = k := by omega
 have hv1 : 1 ≤ V / 1000000000 ^ k / 1000000000 := by
  rw [Nat.div_div_eq_div_mul, ← Nat.pow_succ];exact Nat.div_pos hV1 (zaH _)
 have lim1 : V / 1000000000 ^ k / 1000000000 < 1000000000 := by rw [← d1]; exact Nat.mod_lt _ (by decide)
 have lim2 : u / 1000000000 ^ j / 1000000000 ^ k / 1000000000 / 1000000000 < 1000000000 := by rw [← d2]; exact Nat.mod_lt _ (by decide)
 obtain ⟨W, hWd⟩ : ∃ W, W = u / 1000000000 ^ j := ⟨_, rfl⟩
 rw [← hWd] at d2 d3 d4 hW lim2 ⊢;obtain ⟨R, hR⟩ : ∃ R, R = 1000000000 ^ k := ⟨_, rfl⟩
 have hR2 : V / 1000000000 ^ k % 1000000000 = V / R % 1000000000 := by rw [hR]
 rw [← hR] at d1 d2 d3 d4 hv1 lim1 lim2;have gi := gu_init (W := W) hv1;obtain ⟨T, hT⟩ : ∃ T, T = W / R / 1000000000 := ⟨_, rfl⟩
 obtain ⟨v1, hvv1⟩ : ∃ x, x = V / R / 1000000000 := ⟨_, rfl⟩
 obtain ⟨v2, hvv2⟩ : ∃ x, x = V / R % 1000000000 := ⟨_, rfl⟩
 obtain ⟨u3, hu3⟩ : ∃ x, x = W / R % 1000000000 := ⟨_, rfl⟩
 have b2' : v2 < 1000000000 := by rw [hvv2]; exact Nat.mod_lt _ (by decide)
 have b3' : u3 < 1000000000 := by rw [hu3]; exact Nat.mod_lt _ (by decide)
 rw [← hT] at d2 d3 lim2 gi;rw [← hvv1] at d1 gi lim1;have hv1' : 1 ≤ v1 := by rw [hvv1]; exact hv1
 rw [← hvv2] at hR2;rw [← hu3] at d4;have eT : T / 1000000000 * 1000000000 + T % 1000000000 = T := by omega
 have gm := fun t r (h : GuI W V R t r) hm => gu_more (t := t) (r := r) h hv1 hW hm
 have gd := fun t r (h : GuI W V R t r) ht hd => zo1 (t := t) (r := r) h hv1 ht hd
 have go := fun t r (h : GuI W V R t r) hr => gu_over (t := t) (r := r) h hv1 hW hr
 have gt := fun t r (h : GuI W V R t r) hr => zrA (t := t) (r := r) h hv1 hW hr
 rw [← hvv1, ← hvv2, ← hu3] at gm;rw [← hvv2, ← hu3] at gd
 have t0 : T / v1 ≤ 2000000000 := by
  have h1 : W / R / 1000000000 / 1000000000 ≤ V / R / 1000000000 := by
   have a : W / 1000000000 / R / 1000000000 ≤ V / R / 1000000000 := Nat.div_le_div_right (Nat.div_le_div_right (by omega));have e : W / 1000000000 / R = W / R / 1000000000 := by rw [Nat.div_div_eq_div_mul, Nat.div_div_eq_div_mul, Nat.mul_comm]
   rw [e] at a; exact a
  rw [← hT, ← hvv1] at h1
  have : T / v1 < 2000000000 := by
   rw [Nat.div_lt_iff_lt_mul (by omega)]; omega
  omega
 have r0 : T % v1 < 1000000000 := Nat.lt_trans (Nat.mod_lt _ hv1') lim1;clear hT hvv1 hvv2 hu3 hWd hv1 hW hV hV1 hR;refine zst ?_;apply zax (by assumption); decide +kernel;(iterate 3 (refine zq5 ?_));apply zau (hfree := rfl); intro _; exact zdV rfl rfl (by omega); exact rfl;refine zq6 ?_;refine zq37 ?_;apply zau (hfree := rfl); intro _; exact zpn rfl rfl (by omega); exact rfl;(iterate 3 (refine zq5 ?_));apply zau (hfree := rfl); intro _; exact zdV rfl rfl (by omega); exact rfl;apply zau (hfree := rfl); intro _; exact zgi rfl rfl (by omega) (by omega); exact rfl;refine zq6 ?_;refine zq37 ?_;apply zau (hfree := rfl); intro _; exact zdV rfl rfl (by omega); exact rfl;refine zq14 ?_;apply zaz;apply zcj;apply zax (by assumption); decide +kernel;(iterate 3 (refine zq5 ?_));apply zau (hfree := rfl); intro _; exact zcN rfl (by omega); exact rfl;refine zq6 ?_;refine zq37 ?_;apply zau (hfree := rfl); intro _; exact zeq rfl rfl (by omega) (by omega) (by omega); exact rfl;(iterate 3 (refine zq5 ?_));apply zau (hfree := rfl); intro _; exact zcN rfl (by omega); exact rfl;refine zq6 ?_;refine zq37 ?_;apply zau (hfree := rfl); intro _; exact zfB rfl rfl (by omega) (by omega); exact rfl;(iterate 2 (refine zq14 ?_));apply zaz;refine zst ?_;apply zar;rw [x1, d2, d3, eT, d1]
 skip;refine zaA (α := Nat × Nat) (fun s => [(0, .slice (some ⟨b2, o2, none⟩) m c), (1, .slice (some ⟨b3, o3, none⟩) (k + 2) e), (2, I j), (7, I ((k + 2 : Nat) : Int)), (9, I (s.1 : Int)), (10, I (s.2 : Int))]) (fun _ => ext H H.fresh []) (fun s => GuI W V R s.1 s.2 ∧ s.1 ≤ 2000000000 ∧ s.2 < 1000000000) (fun s => s.1) ?_ (T / v1, T % v1) ⟨gi, t0, r0⟩ zsb (.refl _)
 rintro ⟨t, r⟩ ⟨hg, ht, hr⟩ ih
 have ih' := fun t' r' a1 a2 => ih (t', r') a1 a2
 clear ih;simp only at hg ht hr ih'
 dsimp only
 have m1 : t * v2 ≤ 2000000000 * 999999999 := Nat.mul_le_mul ht (by omega);have m2 : t * (V / 1000000000 ^ (k + 2 - 2) % 1000000000) ≤ 2000000000 * 999999999 := Nat.mul_le_mul ht (by have := Nat.mod_lt (V / 1000000000 ^ (k + 2 - 2)) (show 0 < 1000000000 by decide); omega);obtain ⟨Z, hZ⟩ : ∃ Z, Z = (decide (1000000000 ≤ t) || decide (r * 1000000000 + u3 < t * v2)) := ⟨_, rfl⟩
 have eg1 : decide ((t : Int) ≥ 1000000000) = decide (1000000000 ≤ t) := by rw [decide_eq_decide]; omega
 have eg2 : decide (((t * v2 : Nat) : Int) > ((r * 1000000000 + u3 : Nat) : Int)) = decide (r * 1000000000 + u3 < t * v2) := by rw [decide_eq_decide]; omega
 refine zst ?_;apply zax (by assumption); decide +kernel;refine zq5 ?_;refine zq8 ?_;refine zq5 ?_;rw [eg1];refine sd_J [(0, .slice (some ⟨b2, o2, none⟩) m c), (1, .slice (some ⟨b3, o3, none⟩) (k + 2) e), (2, I j), (7, I ((k + 2 : Nat) : Int)), (9, I (t : Int)), (10, I (r : Int)), (63, .bool Z)] (ds := []) (h := ext H H.fresh []) ?_ ?_
 ·refine zdC rfl rfl (fun w1 => ?_) (fun w1 => ?_)
  ·have w1 : decide (1000000000 ≤ t) = true := w1;rw [hZ, w1, Bool.true_or];(iterate 18 (apply zbu (hg := rfl) (hl := rfl) (hb := rfl); exact rfl));refine zq38 ?_;apply zaz;simp only [List.map_nil, List.append_nil];exact zaP zsb
  ·have w1 : decide (1000000000 ≤ t) = false := w1;rw [hZ, w1, Bool.false_or];(iterate 3 (refine zq39 ?_));apply za1 (hfree := rfl) (hg := rfl) (hl := rfl); intro _; exact zlG rfl rfl (by omega) (by omega); exact rfl;refine zq40 ?_;apply zbv (hfree := rfl) (hg := rfl) (hl := rfl); exact zaw rfl (by exact zaj (by assumption) (by assumption)) rfl (by exact zqh (by assumption) (by omega)); exact rfl;apply za1 (hfree := rfl) (hg := rfl) (hl := rfl); intro _; exact zhc rfl rfl (by omega); exact rfl;refine zq39 ?_;apply za1 (hfree := rfl) (hg := rfl) (hl := rfl); intro _; exact zpn rfl rfl (by omega); exact rfl;(iterate 3 (refine zq39 ?_));apply za1 (hfree := rfl) (hg := rfl) (hl := rfl); intro _; exact zdV rfl rfl (by omega); exact rfl;apply za1 (hfree := rfl) (hg := rfl) (hl := rfl); intro _; exact zlG rfl rfl (by omega) (by omega); exact rfl;refine zq40 ?_;apply zbv (hfree := rfl) (hg := rfl) (hl := rfl); exact zaw rfl (by exact zaj (by assumption) (by assumption)) rfl (by exact zqh (by assumption) (by omega)); exact rfl;apply za1 (hfree := rfl) (hg := rfl) (hl := rfl); intro _; exact zdV rfl rfl (by omega); exact rfl;apply za1 (hfree := rfl) (hg := rfl) (hl := rfl); intro _; exact za5 rfl rfl rfl trivial; exact rfl;refine zq41 ?_;apply zaz;rw [x4, x2, hR2, d4, eg2];simp only [List.map_nil, List.append_nil];exact zaP zsb
 refine zai rfl (fun w2 => ?_) (fun w2 => ?_)
 ·have w2 : Z = true := w2;rw [hZ, Bool.or_eq_true, decide_eq_true_iff, decide_eq_true_iff] at w2;obtain ⟨g1, g2⟩ := gm t r hg w2;refine zst ?_;apply zad; exact zfz rfl rfl (by omega) (by omega); exact rfl;refine zst ?_;apply zad; exact zcN rfl (by omega); exact rfl;refine zq2 ?_;refine zq42 ?_;refine zq36 ?_;refine zst ?_;refine zq0 ?_;apply zaf;rw [d1]
  skip;refine zai rfl (fun w3 => ?_) (fun w3 => ?_)
  ·have w3 : 1000000000 ≤ r + v1 := by simp only [decide_eq_true_eq] at w3; omega
   refine zst ?_;exact zab hc rfl rfl ⟨rfl, t - 1, rfl, g1.low, go _ _ g1 w3, gt _ _ g1 w3⟩
  ·have w3 : r + v1 < 1000000000 := by simp only [decide_eq_false_iff_not] at w3; omega
   apply zbb;exact zaN zsb (.refl _) (ih' (t - 1) (r + v1) (by omega) ⟨g1, by omega, w3⟩)
 ·have w2 : Z = false := w2;rw [hZ, Bool.or_eq_false_iff, decide_eq_false_iff_not, decide_eq_false_iff_not] at w2;have ht9 : t ≤ 999999999 := by omega
  apply zap;apply zaq; exact rfl;refine zst ?_;exact zab hc rfl rfl ⟨rfl, t, rfl, hg.low, gd t r hg ht9 (by omega), ht9⟩
theorem zgw {H : AHeap} {neg : Bool} {q : Option Addr} {c v : Nat} (hs : SlAt H 1 i1 q (dg v)) (hq : OldS H q) (hlow : LowS q c (dlen v)) (hn : dlen v ≤ 1000) :
  Ret Tryz.prog 139 [.bool neg, .slice q (dlen v) c] H (intQ (neg && decide (0 < v)) q (dlen v) c) H := by
 have h := zey (neg := neg) (c := c) hs hq (by rw [zaQ]; exact hlow) (by rw [zaQ]; omega);rw [zaQ, zia] at h
 have e : decide (0 < dlen v) = decide (0 < v) := by
  rw [decide_eq_decide];have := zbW (v := v);omega
 rwa [e] at h
theorem zpr {v i : Nat} : 0 < v / 1000000000 ^ i ↔ i < dlen v := by
 constructor
 ·intro h;rcases Nat.lt_or_ge i (dlen v) with h1 | h1
  ·exact h1
  ·have := Nat.lt_of_lt_of_le (zaD v) (Nat.pow_le_pow_right (n := 1000000000) (by decide) h1);rw [Nat.div_eq_of_lt this] at h; omega
 ·intro h;have h0 : v ≠ 0 := by intro e; rw [e, zaO] at h; omega
  exact Nat.div_pos (Nat.le_trans (Nat.pow_le_pow_right (by decide) (by omega)) (zio h0)) (zaH _)
set_option maxHeartbeats 8000000 in
theorem whole_c {H : AHeap} {n : Int} (h1 : -9223372036854775808 < n) (h2 : n ≤ 9223372036854775807) :
    Ret Tryz.prog 100 [I n] H (intQ (decide (n < 0)) (lstP H.fresh (dg n.natAbs)) (dlen n.natAbs) (dlen n.natAbs)) (lstH H 1 i1 (dg n.natAbs)) := by
  refine zae Tryz.func100 rfl rfl rfl fun hc => ?_
  by_cases hneg : n < 0
  · have e0 : (-((n.natAbs : Nat) : Int)) = n := by omega
    have e0' : decide (n < 0) = true := decide_eq_true hneg;refine zst ?_;refine zq0 ?_;refine zst ?_;apply zar;rw [e0'];refine zaA (α := Nat × Value × List (Option ABlk)) (fun s => [(0, I (-((n.natAbs / 1000000000 ^ s.1 : Nat) : Int))), (2, .pointer (some ⟨nb H 0, 0, none⟩)), (3, s.2.1), (4, .bool true)]) (fun s => ext H H.fresh s.2.2) (fun s => s.1 ≤ dlen n.natAbs ∧ s.2.2[0]? = some (some (.cells [.bool false, .slice none 0 0] 0 false false)) ∧ Lst H s.2.2 1 i1 1 s.2.1 (pw s.1 n.natAbs)) (fun s => dlen n.natAbs - s.1) (fun s hJ ih => ?_) (0, .slice none 0 0, [some (.cells [.bool false, .slice none 0 0] 0 false false)]) ⟨Nat.zero_le _, rfl, Lst.nil⟩ (by rw [Nat.pow_zero, Nat.div_one, e0]; repeat (first | exact zbi | apply za0 rfl)) (.refl _);obtain ⟨i, v, L⟩ := s;obtain ⟨hi, hL0, hv⟩ := hJ;simp only at hi hL0 hv ih ⊢;have ih' := fun i' v' L' a1 a2 => ih (i', v', L') a1 a2
    simp only at ih';clear ih;have hlen0 : 0 < L.length := (List.getElem?_eq_some_iff.1 hL0).1;have hmore := zpr (v := n.natAbs) (i := i);have hle := Nat.div_le_self n.natAbs (1000000000 ^ i);obtain ⟨m, hm⟩ : ∃ m, m = n.natAbs / 1000000000 ^ i := ⟨_, rfl⟩
    have hms : n.natAbs / 1000000000 ^ (i + 1) = m / 1000000000 := by rw [hm, Nat.pow_succ, Nat.div_div_eq_div_mul]
    rw [← hm] at hmore hle ⊢;have hm9 : m < 9223372036854775808 := by omega
    have qa : (-9223372036854775808 : Int) < -(m : Int) := by omega
    have qb : -(m : Int) ≤ 9223372036854775807 := by omega
    have qc : (0 : Int) < 1000000000 := by decide
    have hdl := za3 (n := 3) (v := n.natAbs) (by have : (1000000000 : Nat) ^ 3 = 1000000000000000000000000000 := by decide
                                                 omega)
    refine zst ?_;refine zq0 ?_;apply zaf;by_cases hgo : i < dlen n.natAbs
    · have hm0 := hmore.2 hgo;refine zam rfl (by simp; omega) ?_;have hd := Nat.mod_lt m (show 0 < 1000000000 by omega);have esn : pw i n.natAbs ++ [((m % 1000000000 : Nat) : Int)] = pw (i + 1) n.natAbs := by rw [zdG, hm]
      have er : (-(m : Int)).tmod 1000000000 = -((m % 1000000000 : Nat) : Int) := by rw [Int.neg_tmod]; rfl
      have eq : (-(m : Int)).tdiv 1000000000 = -((m / 1000000000 : Nat) : Int) := by rw [Int.neg_tdiv]; rfl
      refine zst ?_;apply zad; exact zlF rfl rfl (by omega); exact rfl;refine zst ?_;refine zq0 ?_;apply zaf;rw [er]
      skip;by_cases hz : 0 < m % 1000000000
      · refine zam rfl (decide_eq_true (by omega)) ?_;have e3 : (0 : Int) - -((m % 1000000000 : Nat) : Int) = ((m % 1000000000 : Nat) : Int) := by omega
        refine zst ?_;refine zq27 ?_;refine zst ?_;refine zq19 ?_;rw [e3]
        skip;refine zbP (f := i1) (m := 1) (xs := [((m % 1000000000 : Nat) : Int)]) (k0 := 1) hc (hv.app _) (by simp) (fun _ => rfl) (fun _ => rfl) rfl rfl rfl rfl rfl rfl (zaa List.getElem?_concat_length) rfl (by simp) (by show (2 * ((pw i n.natAbs).length + 1) + 1000) * 8 ≤ 2 ^ 48; rw [zaK]; omega) (Nat.ne_of_beq_eq_false rfl) (Nat.ne_of_beq_eq_false rfl) rfl (fun v' L3 hv' hst3 hlen3 => ?_);rw [esn] at hv';have hL3 : L3[0]? = some (some (.cells [.bool false, .slice none 0 0] 0 false false)) := hst3 0 _ (by omega) (getApp hL0);have ih2 := ih' (i + 1) v' L3 (by omega) ⟨by omega, hL3, hv'⟩;rw [hms] at ih2;refine zst ?_;apply zad; exact zfA rfl rfl (by assumption) (by assumption) (by assumption); exact rfl;refine zst ?_;rw [eq];exact zaN zsb (.refl _) ih2
      · refine zah rfl (decide_eq_false (by omega)) ?_;have e3 : -((m % 1000000000 : Nat) : Int) = ((m % 1000000000 : Nat) : Int) := by omega
        refine zst ?_;refine zq19 ?_;rw [e3]
        skip;refine zbP (f := i1) (m := 1) (xs := [((m % 1000000000 : Nat) : Int)]) (k0 := 1) hc (hv.app _) (by simp) (fun _ => rfl) (fun _ => rfl) rfl rfl rfl rfl rfl rfl (zaa List.getElem?_concat_length) rfl (by simp) (by show (2 * ((pw i n.natAbs).length + 1) + 1000) * 8 ≤ 2 ^ 48; rw [zaK]; omega) (Nat.ne_of_beq_eq_false rfl) (Nat.ne_of_beq_eq_false rfl) rfl (fun v' L3 hv' hst3 hlen3 => ?_);rw [esn] at hv';have hL3 : L3[0]? = some (some (.cells [.bool false, .slice none 0 0] 0 false false)) := hst3 0 _ (by omega) (getApp hL0);have ih2 := ih' (i + 1) v' L3 (by omega) ⟨by omega, hL3, hv'⟩;rw [hms] at ih2;refine zst ?_;apply zad; exact zfA rfl rfl (by assumption) (by assumption) (by assumption); exact rfl;refine zst ?_;rw [eq];exact zaN zsb (.refl _) ih2
    · have hi2 : i = dlen n.natAbs := by omega
      have hm0 : m = 0 := by
        rcases Nat.eq_zero_or_pos m with h | h
        · exact h
        · exact absurd (hmore.1 h) hgo
      subst hi2;refine zah rfl (by simp [hm0]) ?_;have hv : Lst H L 1 i1 1 v (dg n.natAbs) := hv;clear ih' hmore hle hms hm;rcases hv.out with ⟨e, rfl⟩ | ⟨hne, kk, hk1, rfl, hk⟩
      · have hz : n.natAbs = 0 := by
          have := zaQ n.natAbs;rw [e] at this;exact zbW.1 this.symm
        exfalso; omega
      · have hz : n.natAbs ≠ 0 := fun h => hne (by rw [h, zer])
        have cs := fun lo (L : List (Option ABlk)) (h : L[kk]? = some (some (.cells ((dg n.natAbs).flatMap i1) 1 true false))) => zgw (H := ext H lo L) (neg := true) (q := some ⟨nb H kk, 0, none⟩) (c := dlen n.natAbs) (v := n.natAbs) (zbs (fun _ => rfl) (zaa h)) (OldS.new (List.getElem?_eq_some_iff.1 h).1) ⟨Nat.le_refl _, (fun e => by cases e), (fun _ e => by cases e; rfl)⟩ (by omega)
        have ez : (true && decide (0 < n.natAbs)) = true := by simp; omega
        rw [ez] at cs;rw [zaQ];apply zap;apply zaq; exact rfl;refine zst ?_;apply zac (ht := rfl); exact cs _ _ hk; exact rfl;refine za7 (k := 0) hc hlen0 (zav rfl rfl (zaa hL0) rfl rfl (zat _)) (fun L4 l4 o4 k4 => ?_);apply zaV;have hk4 := (o4 kk (by omega)).trans hk;rw [flatI1] at hk4;obtain ⟨d0, dr, edg⟩ : ∃ a l, dg n.natAbs = a :: l := List.exists_cons_of_ne_nil hne;refine zdn (vs := [intQ true (some ⟨nb H kk, 0, none⟩) (dlen n.natAbs) (dlen n.natAbs)]) (k := kk) hc (zbG rfl rfl (zaa k4) rfl rfl) hk4 zaY zdh ⟨?_, ?_⟩
        · rw [edg]; rfl
        · rw [← flatI1, edg]; rfl
  · have e0 : ((n.natAbs : Nat) : Int) = n := by omega
    have e0' : decide (n < 0) = false := decide_eq_false hneg;refine zst ?_;refine zq0 ?_;refine zst ?_;apply zar;rw [e0'];refine zaA (α := Nat × Value × List (Option ABlk)) (fun s => [(0, I ((n.natAbs / 1000000000 ^ s.1 : Nat) : Int)), (2, .pointer (some ⟨nb H 0, 0, none⟩)), (3, s.2.1), (4, .bool false)]) (fun s => ext H H.fresh s.2.2) (fun s => s.1 ≤ dlen n.natAbs ∧ s.2.2[0]? = some (some (.cells [.bool false, .slice none 0 0] 0 false false)) ∧ Lst H s.2.2 1 i1 1 s.2.1 (pw s.1 n.natAbs)) (fun s => dlen n.natAbs - s.1) (fun s hJ ih => ?_) (0, .slice none 0 0, [some (.cells [.bool false, .slice none 0 0] 0 false false)]) ⟨Nat.zero_le _, rfl, Lst.nil⟩ (by rw [Nat.pow_zero, Nat.div_one, e0]; repeat (first | exact zbi | apply za0 rfl)) (.refl _);obtain ⟨i, v, L⟩ := s;obtain ⟨hi, hL0, hv⟩ := hJ;simp only at hi hL0 hv ih ⊢;have ih' := fun i' v' L' a1 a2 => ih (i', v', L') a1 a2
    simp only at ih';clear ih;have hlen0 : 0 < L.length := (List.getElem?_eq_some_iff.1 hL0).1;have hmore := zpr (v := n.natAbs) (i := i);have hle := Nat.div_le_self n.natAbs (1000000000 ^ i);obtain ⟨m, hm⟩ : ∃ m, m = n.natAbs / 1000000000 ^ i := ⟨_, rfl⟩
    have hms : n.natAbs / 1000000000 ^ (i + 1) = m / 1000000000 := by rw [hm, Nat.pow_succ, Nat.div_div_eq_div_mul]
    rw [← hm] at hmore hle ⊢;have hm9 : m < 9223372036854775808 := by omega
    have qa : (-9223372036854775808 : Int) < -(m : Int) := by omega
    have qb : -(m : Int) ≤ 9223372036854775807 := by omega
    have qc : (0 : Int) < 1000000000 := by decide
    have hdl := za3 (n := 3) (v := n.natAbs) (by have : (1000000000 : Nat) ^ 3 = 1000000000000000000000000000 := by decide
                                                 omega)
    refine zst ?_;refine zq0 ?_;apply zaf;by_cases hgo : i < dlen n.natAbs
    · have hm0 := hmore.2 hgo;refine zam rfl (by simp; omega) ?_;have hd := Nat.mod_lt m (show 0 < 1000000000 by omega);have esn : pw i n.natAbs ++ [((m % 1000000000 : Nat) : Int)] = pw (i + 1) n.natAbs := by rw [zdG, hm]
      have ec : decide (((m % 1000000000 : Nat) : Int) < 0) = false := decide_eq_false (by omega);refine zst ?_;apply zad; exact do_remB rfl rfl; exact rfl;refine zst ?_;refine zq0 ?_;apply zaf;refine zah rfl ec ?_;refine zst ?_;refine zq19 ?_;refine zbP (f := i1) (m := 1) (xs := [((m % 1000000000 : Nat) : Int)]) (k0 := 1) hc (hv.app _) (by simp) (fun _ => rfl) (fun _ => rfl) rfl rfl rfl rfl rfl rfl (zaa List.getElem?_concat_length) rfl (by simp) (by show (2 * ((pw i n.natAbs).length + 1) + 1000) * 8 ≤ 2 ^ 48; rw [zaK]; omega) (Nat.ne_of_beq_eq_false rfl) (Nat.ne_of_beq_eq_false rfl) rfl (fun v' L3 hv' hst3 hlen3 => ?_);rw [esn] at hv';have hL3 : L3[0]? = some (some (.cells [.bool false, .slice none 0 0] 0 false false)) := hst3 0 _ (by omega) (getApp hL0);have ih2 := ih' (i + 1) v' L3 (by omega) ⟨by omega, hL3, hv'⟩;rw [hms] at ih2;refine zst ?_;apply zad; exact do_quoB rfl rfl (by omega); exact rfl;refine zst ?_;exact zaN zsb (.refl _) ih2
    · have hi2 : i = dlen n.natAbs := by omega
      have hm0 : m = 0 := by
        rcases Nat.eq_zero_or_pos m with h | h
        · exact h
        · exact absurd (hmore.1 h) hgo
      subst hi2;refine zah rfl (by simp [hm0]) ?_;have hv : Lst H L 1 i1 1 v (dg n.natAbs) := hv;clear ih' hmore hle hms hm;rcases hv.out with ⟨e, rfl⟩ | ⟨hne, kk, hk1, rfl, hk⟩
      · have hz : n.natAbs = 0 := by
          have := zaQ n.natAbs;rw [e] at this;exact zbW.1 this.symm
        rw [hz, zaO, zer];have cs := fun lo L => zgw (H := ext H lo L) (neg := false) (q := none) (c := 0) (v := 0) (by rw [zer]; exact SlAt.nil) (by intro x hx; cases hx) ⟨by rw [zaO]; exact Nat.le_refl _, (fun _ => ⟨zaO, rfl⟩), (fun _ e => by cases e)⟩ (by rw [zaO]; omega)
        rw [zaO] at cs;have ez : (false && decide (0 < 0)) = false := by simp
        rw [ez] at cs;apply zap;apply zaq; exact rfl;refine zst ?_;apply zac (ht := rfl); exact cs _ _; exact rfl;refine za7 (k := 0) hc hlen0 (zav rfl rfl (zaa hL0) rfl rfl (zat _)) (fun L4 l4 o4 k4 => ?_);apply zaV;refine zdN hc (zbG rfl rfl (zaa k4) rfl rfl) rfl ⟨?_, rfl⟩;rfl
      · have hz : n.natAbs ≠ 0 := fun h => hne (by rw [h, zer])
        have cs := fun lo (L : List (Option ABlk)) (h : L[kk]? = some (some (.cells ((dg n.natAbs).flatMap i1) 1 true false))) => zgw (H := ext H lo L) (neg := false) (q := some ⟨nb H kk, 0, none⟩) (c := dlen n.natAbs) (v := n.natAbs) (zbs (fun _ => rfl) (zaa h)) (OldS.new (List.getElem?_eq_some_iff.1 h).1) ⟨Nat.le_refl _, (fun e => by cases e), (fun _ e => by cases e; rfl)⟩ (by omega)
        have ez : (false && decide (0 < n.natAbs)) = false := by rfl
        rw [ez] at cs;rw [zaQ];apply zap;apply zaq; exact rfl;refine zst ?_;apply zac (ht := rfl); exact cs _ _ hk; exact rfl;refine za7 (k := 0) hc hlen0 (zav rfl rfl (zaa hL0) rfl rfl (zat _)) (fun L4 l4 o4 k4 => ?_);apply zaV;have hk4 := (o4 kk (by omega)).trans hk;rw [flatI1] at hk4;obtain ⟨d0, dr, edg⟩ : ∃ a l, dg n.natAbs = a :: l := List.exists_cons_of_ne_nil hne;refine zdn (vs := [intQ false (some ⟨nb H kk, 0, none⟩) (dlen n.natAbs) (dlen n.natAbs)]) (k := kk) hc (zbG rfl rfl (zaa k4) rfl rfl) hk4 zaY zdh ⟨?_, ?_⟩
        · rw [edg]; rfl
        · rw [← flatI1, edg]; rfl
end Go.Proofs.YtlejimjgagfalaaGreatDoor
