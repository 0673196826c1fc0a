import Derived.Test.YtlejimjgagfalaaGreatDoorQlA
import Derived.Test.YtlejimjgagfalaaGreatDoorSmA
import Derived.Test.YtlejimjgagfalaaGreatDoorQaB
import Derived.Test.YtlejimjgagfalaaGreatDoorHaC
import Derived.Test.YtlejimjgagfalaaGreatDoorShC
import Derived.Test.YtlejimjgagfalaaGreatDoorStC
import Derived.Test.YtlejimjgagfalaaGreatDoorStA
noncomputable section
namespace Go.Proofs.YtlejimjgagfalaaGreatDoor
open Go Go.Den
set_option maxRecDepth 100000
theorem zfB {P : Program} {l : EL} {h : AHeap} {x y : Operand} {t t' : TypeId} {a b : Int} (hx : ev l x = some (.int .i64 a)) (hy : ev l y = some (.int .i64 b)) (h0 : 0 ≤ a) (hb : 0 < b) : Does P l (.binOp .rem t x y t') h (.int .i64 (a % b)) h := by
 have := zlF (P := P) (h := h) (t := t) (t' := t') hx hy (by omega)
 rwa [Int.tmod_eq_emod_of_nonneg h0] at this
theorem zeq {P : Program} {l : EL} {h : AHeap} {x y : Operand} {t t' : TypeId} {a b : Int} (hx : ev l x = some (.int .i64 a)) (hy : ev l y = some (.int .i64 b)) (h0 : 0 ≤ a) (h1 : a ≤ 9223372036854775807) (hb : 0 < b) : Does P l (.binOp .quo t x y t') h (.int .i64 (a / b)) h := by
 have := zfA (P := P) (h := h) (t := t) (t' := t') hx hy (by omega) h1 hb
 rwa [Int.tdiv_eq_ediv_of_nonneg h0] at this
theorem zdr {l : List Int} {i : Nat} {v : Int} (h : DigL l) (h0 : 0 ≤ v) (h1 : v < 1000000000) : DigL (l.set i v) := ⟨fun x hx => by
 rcases List.mem_or_eq_of_mem_set hx with h2 | rfl
 ·exact h.bd x h2
 ·exact ⟨h0, h1⟩⟩
theorem powI (k : Nat) : ((1000000000 : Int) ^ k) = ((1000000000 ^ k : Nat) : Int) := by rw [Int.natCast_pow]; rfl
theorem zbl (a b : Nat) : 1000000000 ^ (a + b) = 1000000000 ^ a * 1000000000 ^ b := Nat.pow_add _ _ _
structure MulI (n x y i k : Nat) (O : List Int) (c : Int) : Prop where
 len : O.length = n
 dig : DigL O
 c0 : 0 ≤ c
 c1 : c < 1000000000
 hi : ∀ j, i + k ≤ j → O[j]? = (pw n (x % 1000000000 ^ i * y))[j]?
 val : valW O + c * 1000000000 ^ (i + k) = ((x % 1000000000 ^ i * y + x / 1000000000 ^ i % 1000000000 * 1000000000 ^ i * (y % 1000000000 ^ k) : Nat) : Int)
theorem mul_lt {x y i lb : Nat} (hy : y < 1000000000 ^ lb) : x % 1000000000 ^ i * y < 1000000000 ^ (i + lb) := by
 rw [zbl];have h1 := Nat.mod_lt x (zaH i);rcases Nat.eq_zero_or_pos y with rfl | h2
 ·rw [Nat.mul_zero]; exact Nat.mul_pos (zaH _) (zaH _)
 ·exact Nat.lt_of_lt_of_le (Nat.mul_lt_mul_of_pos_right h1 h2) (Nat.mul_le_mul_left _ (by omega))
theorem zoI {n x y i lb : Nat} (hy : y < 1000000000 ^ lb) (hn : i + lb ≤ n) : MulI n x y i 0 (pw n (x % 1000000000 ^ i * y)) 0 := by
 refine ⟨zaK _ _, zeH _ _, by omega, by omega, fun _ _ => rfl, ?_⟩;have h1 := mul_lt (x := x) (i := i) hy;have h2 : x % 1000000000 ^ i * y < 1000000000 ^ n := Nat.lt_of_lt_of_le h1 (Nat.pow_le_pow_right (by decide) hn);rw [zji, Nat.mod_eq_of_lt h2, Nat.pow_zero, Nat.mod_one];simp
theorem zoJ {n x y i k lb : Nat} {O : List Int} {c : Int} (h : MulI n x y i k O c) (hk : k < lb) (hn : i + lb ≤ n) {s : Int} (hs : s = O[i + k]?.getD 0 + ((x / 1000000000 ^ i % 1000000000 : Nat) : Int) * ((y / 1000000000 ^ k % 1000000000 : Nat) : Int) + c) :
  MulI n x y i (k + 1) (O.set (i + k) (s % 1000000000)) (s / 1000000000) ∧ 0 ≤ s ∧ s < 1000000000000000000 := by
 obtain ⟨h1, h2, h3, h4, h5, h6⟩ := h
 have hO : 0 ≤ O[i + k]?.getD 0 ∧ O[i + k]?.getD 0 < 1000000000 := by
  rw [List.getElem?_eq_getElem (show i + k < O.length by omega)];exact h2.bd _ (List.getElem_mem _)
 obtain ⟨X, hX⟩ : ∃ X, X = x / 1000000000 ^ i % 1000000000 := ⟨_, rfl⟩
 obtain ⟨Y, hY⟩ : ∃ Y, Y = y / 1000000000 ^ k % 1000000000 := ⟨_, rfl⟩
 have hX1 : X < 1000000000 := by rw [hX]; exact Nat.mod_lt _ (by decide)
 have hY1 : Y < 1000000000 := by rw [hY]; exact Nat.mod_lt _ (by decide)
 rw [← hX, ← hY] at hs;have hp : X * Y ≤ 999999999 * 999999999 := Nat.mul_le_mul (by omega) (by omega);rw [← Int.natCast_mul] at hs;have hs0 : 0 ≤ s := by omega
 have hs1 : s < 1000000000000000000 := by omega
 refine ⟨⟨by rw [List.length_set]; exact h1, zdr h2 (by omega) (by omega), by omega, by omega, fun j hj => ?_, ?_⟩, hs0, hs1⟩
 ·rw [List.getElem?_set_ne (by omega)]; exact h5 j (by omega)
 ·rw [zbF _ _ _ (by omega)];rw [zbQ y k, ← hY, ← hX];rw [← hX] at h6;have e0 : (s % 1000000000 - O[i + k]?.getD 0) + s / 1000000000 * 1000000000 = ((X * Y : Nat) : Int) + c := by omega
  have e1 : (1000000000 : Int) ^ (i + (k + 1)) = 1000000000 * 1000000000 ^ (i + k) := by rw [← Nat.add_assoc, Int.pow_succ, Int.mul_comm]
  rw [e1]
  have e2 : X * 1000000000 ^ i * (Y * 1000000000 ^ k + y % 1000000000 ^ k) = X * Y * 1000000000 ^ (i + k) + X * 1000000000 ^ i * (y % 1000000000 ^ k) := by
   rw [zbl];generalize 1000000000 ^ i = A
   generalize 1000000000 ^ k = B
   rw [Nat.mul_add]
   congr 1
   rw [Nat.mul_assoc, Nat.mul_assoc, Nat.mul_left_comm A Y B]
  rw [e2];generalize hPd : (1000000000 : Int) ^ (i + k) = Pw at h6 ⊢
  have e3 : ((x % 1000000000 ^ i * y + (X * Y * 1000000000 ^ (i + k) + X * 1000000000 ^ i * (y % 1000000000 ^ k)) : Nat) : Int) = ((x % 1000000000 ^ i * y + X * 1000000000 ^ i * (y % 1000000000 ^ k) : Nat) : Int) + ((X * Y : Nat) : Int) * Pw := by
   rw [← hPd, powI];rw [← Int.natCast_mul, ← Int.natCast_add]
   congr 1; omega
  rw [e3, ← h6];have e4 : s / 1000000000 * (1000000000 * Pw) = s / 1000000000 * 1000000000 * Pw := by rw [Int.mul_assoc]
  rw [e4];have e5 : (s % 1000000000 - O[i + k]?.getD 0) * Pw + s / 1000000000 * 1000000000 * Pw = (((X * Y : Nat) : Int) + c) * Pw := by rw [← Int.add_mul, e0]
  have e6 : (((X * Y : Nat) : Int) + c) * Pw = ((X * Y : Nat) : Int) * Pw + c * Pw := Int.add_mul _ _ _;rw [e6] at e5;omega
theorem zoK {n x y i lb : Nat} {O : List Int} {c : Int} (h : MulI n x y i lb O c) (hy : y < 1000000000 ^ lb) (hn : i + lb < n) :
  O[i + lb]?.getD 0 = 0 ∧ O.set (i + lb) c = pw n (x % 1000000000 ^ (i + 1) * y) := by
 obtain ⟨h1, h2, h3, h4, h5, h6⟩ := h
 have hz : O[i + lb]?.getD 0 = 0 := by
  rw [h5 _ (Nat.le_refl _), zgG hn, Nat.div_eq_of_lt (mul_lt hy)]; rfl
 refine ⟨hz, zol (zdr h2 h3 h4) (by rw [List.length_set]; exact h1) ?_⟩;rw [zbF _ _ _ (by omega), hz, Int.sub_zero, h6, Nat.mod_eq_of_lt hy, zbQ x i, Nat.add_mul, Nat.add_comm]
theorem zki : ∀ n, pw n 0 = List.replicate n 0
 | 0 => rfl
 | n + 1 => by simp [pw, zki n, List.replicate_succ]
theorem zgH {n v i : Nat} (h : i < (pw n v).length) : (pw n v)[i] = ((v / 1000000000 ^ i % 1000000000 : Nat) : Int) := by
 have h1 := zgG (n := n) (v := v) (i := i) (by rw [zaK] at h; exact h);rw [List.getElem?_eq_getElem h] at h1;exact Option.some.inj h1
set_option maxHeartbeats 8000000 in
theorem zej {H : AHeap} {p q : Option Addr} {c e la lb x y : Nat} (hp : SlAt H 1 i1 p (pw la x)) (hq : SlAt H 1 i1 q (pw lb y)) (hx : x < 1000000000 ^ la) (hy : y < 1000000000 ^ lb) (ha : la ≤ 400) (hb : lb ≤ 400) :
  Ret Tryz.prog 260 [.slice p la c, .slice q lb e] H (.slice (some ⟨H.fresh, 0, none⟩) (dlen (x * y)) (la + lb)) (H.add (.cells ((pw (la + lb) (x * y)).map I) 1 false false)) := by
 refine zae Tryz.func260 rfl rfl rfl fun hc => ?_
 have lx := zaK la x;have ly := zaK lb y;refine zst ?_;refine zq36 ?_;apply zbO; exact mkInts rfl (by omega) rfl rfl rfl rfl; exact rfl;rw [show List.replicate (la + lb) (0 : Int) = pw (la + lb) (x % 1000000000 ^ 0 * y) by rw [Nat.pow_zero, Nat.mod_one, Nat.zero_mul, zki]];refine zst ?_;apply zar;refine zaA (α := Nat) (fun i => [(0, .slice p la c), (1, .slice q lb e), (5, .slice (some ⟨nb H 0, 0, none⟩) (la + lb) (la + lb)), (6, I i)]) (fun i => ext H H.fresh [some (.cells ((pw (la + lb) (x % 1000000000 ^ i * y)).map I) 1 false false)]) (fun i => i ≤ la) (fun i => la - i) (fun i hi ih => ?_) 0 (Nat.zero_le _) zsb (.refl _);refine zst ?_;refine zq0 ?_;apply zaf;refine zai rfl (fun h1 => ?_) (fun h1 => ?_)
 ·have h1 : i < la := by simpa using h1
  have ih' := ih (i + 1) (by omega) (by omega);clear ih;refine zst ?_;apply zar;refine zaA (α := Nat × List Int × Int) (fun s => [(0, .slice p la c), (1, .slice q lb e), (5, .slice (some ⟨nb H 0, 0, none⟩) (la + lb) (la + lb)), (6, I i), (7, I s.2.2), (8, I s.1)]) (fun s => ext H H.fresh [some (.cells (s.2.1.map I) 1 false false)]) (fun s => s.1 ≤ lb ∧ MulI (la + lb) x y i s.1 s.2.1 s.2.2) (fun s => lb - s.1) ?_ (0, pw (la + lb) (x % 1000000000 ^ i * y), 0) ⟨Nat.zero_le _, zoI hy (by omega)⟩ zsb (.refl _)
  rintro ⟨k, O, d⟩ ⟨hk, hM⟩ ihk
  have ihk' := fun k' O' d' a1 a2 => ihk (k', O', d') a1 a2
  clear ihk;simp only at hk hM ihk'
  dsimp only
  have hl := hM.len;have hd0 := hM.c0;have hd1 := hM.c1;refine zst ?_;refine zq0 ?_;apply zaf;refine zai rfl (fun h2 => ?_) (fun h2 => ?_)
  ·have h2 : k < lb := by simpa using h2
   obtain ⟨b1, o1, cs1, z1, s1, ro1, rfl, hg1, hw1⟩ := hp.out (by intro e; rw [e] at lx; simp at lx; omega);obtain ⟨b2, o2, cs2, z2, s2, ro2, rfl, hg2, hw2⟩ := hq.out (by intro e; rw [e] at ly; simp at ly; omega);have ei := zgH (n := la) (v := x) (i := i) (by omega);have ek := zgH (n := lb) (v := y) (i := k) (by omega);have bi := (zeH la x).bd _ (List.getElem_mem (show i < (pw la x).length by omega));have bk := (zeH lb y).bd _ (List.getElem_mem (show k < (pw lb y).length by omega));have bo := hM.dig.bd _ (List.getElem_mem (show i + k < O.length by omega));have m0 := Int.mul_nonneg bi.1 bk.1;have m1 : (pw la x)[i]'(by omega) * (pw lb y)[k]'(by omega) ≤ 999999999 * 999999999 := Int.mul_le_mul (by omega) (by omega) bk.1 (by omega);have hm : -9223372036854775808 ≤ (pw la x)[i]'(by omega) * (pw lb y)[k]'(by omega) ∧ (pw la x)[i]'(by omega) * (pw lb y)[k]'(by omega) ≤ 9223372036854775807 := by omega
   obtain ⟨s, hs⟩ : ∃ s, s = O[i + k]'(by omega) + (pw la x)[i]'(by omega) * (pw lb y)[k]'(by omega) + d := ⟨_, rfl⟩
   obtain ⟨st, s0, s1'⟩ := zoJ hM h2 (by omega) (s := s) (by rw [hs, ei, ek, List.getElem?_eq_getElem (show i + k < O.length by omega)]; rfl);refine zst ?_;apply zax (by assumption); decide +kernel;(iterate 3 (refine zq5 ?_));apply zau (hfree := rfl); intro _; exact zdV rfl rfl (by omega); exact rfl;refine zq6 ?_;apply zaS (hfree := rfl); exact zaw rfl (by exact zaa rfl) rfl (by exact zdH (by omega)); exact rfl;(iterate 2 (refine zq5 ?_));refine zq6 ?_;refine zq7 ?_;(iterate 2 (refine zq5 ?_));refine zq6 ?_;refine zq7 ?_;apply zau (hfree := rfl); intro _; exact zpo rfl rfl (by assumption); exact rfl;refine zq31 ?_;refine zq5 ?_;refine zq31 ?_;refine zq14 ?_;apply zaz;refine zst ?_;refine zq36 ?_;refine zst ?_;apply zad; exact zfB rfl rfl (by omega) (by omega); exact rfl;refine zq2 ?_;rw [← hs]
   skip;apply zcJ (hc := by assumption); rotate_left; exact zav rfl rfl (zaa rfl) rfl (zbj (by omega) rfl rfl) (zat _); rotate_left; exact Nat.le_of_ble_eq_true rfl;refine zst ?_;apply zad; exact zeq rfl rfl (by omega) (by omega) (by omega); exact rfl;refine zst ?_;refine zq4 ?_;refine zst ?_;exact zaN zsb (.refl _) (ihk' (k + 1) _ _ (by omega) ⟨by omega, st⟩)
  ·have h2 : k = lb := by simp at h2; omega
   subst h2;obtain ⟨z1, z2⟩ := zoK hM hy (by omega);have z3 : O[i + k]'(by omega) = 0 := by rw [List.getElem?_eq_getElem (show i + k < O.length by omega)] at z1; exact z1
   apply zap;apply zaq; exact rfl;refine zst ?_;refine zq36 ?_;refine zst ?_;refine zq36 ?_;refine zq2 ?_;apply zad; exact zaw rfl (by exact zaa rfl) rfl (by exact zdH (by omega)); exact rfl;refine zst ?_;refine zq26 ?_;refine zq2 ?_;rw [z3]
   skip;apply zcJ (hc := by assumption); rotate_left; exact zav rfl rfl (zaa rfl) rfl (zbj (by omega) rfl rfl) (zat _); rotate_left; exact Nat.le_of_ble_eq_true rfl;rw [Int.zero_add, z2];refine zst ?_;refine zq4 ?_;refine zst ?_;exact zaN zsb (.refl _) ih'
 ·have h1 : i = la := by simp at h1; omega
  subst h1;rw [Nat.mod_eq_of_lt hx]
  have hxy : x * y < 1000000000 ^ (i + lb) := by
   have := mul_lt (x := x) (i := i) hy
   rwa [Nat.mod_eq_of_lt hx] at this
  have ct := fun lo => zgp (H := ext H lo [some (.cells ((pw (i + lb) (x * y)).map I) 1 false false)]) (q := some ⟨nb H 0, 0, none⟩) (c := i + lb) (l := pw (i + lb) (x * y)) (zaB (zaa rfl)) (OldS.new (by simp)) ⟨by rw [zaK]; exact Nat.le_refl _, (fun e => by cases e), (fun _ e => by cases e; rfl)⟩ (by rw [zaK]; omega)
  rw [zaK, zck hxy] at ct;apply zap;apply zaq; exact rfl;refine zst ?_;apply zac (ht := rfl); exact ct _; exact rfl;refine zst ?_;exact zci (vs := [.slice (some ⟨nb H 0, 0, none⟩) (dlen (x * y)) (i + lb)]) (k := 0) hc rfl rfl zaY (by simp [packA, renV, zdE]) ⟨rfl, rfl⟩
theorem zdG : ∀ (n v : Nat), pw (n + 1) v = pw n v ++ [((v / 1000000000 ^ n % 1000000000 : Nat) : Int)]
 | 0, v => by simp [pw]
 | n + 1, v => by
  have ih := zdG n (v / 1000000000);rw [Nat.div_div_eq_div_mul, Nat.mul_comm, ← Nat.pow_succ] at ih;rw [pw, ih]; rfl
theorem zfj {n v i : Nat} (h : v < 1000000000 ^ n) : (pw n v)[i]?.getD 0 = ((v / 1000000000 ^ i % 1000000000 : Nat) : Int) := by
 rcases Nat.lt_or_ge i n with h1 | h1
 ·rw [zgG h1]; rfl
 ·rw [List.getElem?_eq_none (by rw [zaK]; exact h1)];have h2 := Nat.pow_le_pow_right (n := 1000000000) (by decide) h1;rw [Nat.div_eq_of_lt (by omega)]; rfl
def caD (x y i : Nat) : Nat := (x % 1000000000 ^ i + y % 1000000000 ^ i) / 1000000000 ^ i
theorem zqZ (x y : Nat) : caD x y 0 = 0 := by simp [caD, Nat.mod_one]
theorem zrL (x y i : Nat) : caD x y i ≤ 1 := by
 have h1 := Nat.mod_lt x (zaH i);have h2 := Nat.mod_lt y (zaH i);have := Nat.div_lt_of_lt_mul (m := x % 1000000000 ^ i + y % 1000000000 ^ i) (n := 1000000000 ^ i) (k := 2) (by omega);unfold caD; omega
theorem zf3 (v i : Nat) : v = 1000000000 ^ i * (v / 1000000000 ^ i) + v % 1000000000 ^ i := (Nat.div_add_mod _ _).symm
theorem add_div (x y i : Nat) : (x + y) / 1000000000 ^ i = x / 1000000000 ^ i + y / 1000000000 ^ i + caD x y i := by
 have hP := zaH i;have e1 := zf3 x i;have e2 := zf3 y i;unfold caD;generalize 1000000000 ^ i = P at *
 have : x + y = P * (x / P + y / P) + (x % P + y % P) := by rw [Nat.mul_add]; omega
 rw [this, Nat.mul_add_div hP]
theorem zra {x y i : Nat} {s : Int} (hs : s = ((x / 1000000000 ^ i % 1000000000 : Nat) : Int) + ((y / 1000000000 ^ i % 1000000000 : Nat) : Int) + (caD x y i : Int)) :
  s % 1000000000 = (((x + y) / 1000000000 ^ i % 1000000000 : Nat) : Int) ∧ s / 1000000000 = (caD x y (i + 1) : Int) ∧ 0 ≤ s ∧ s < 2000000000 := by
 have hc := zrL x y i;have hd := add_div x y i;have h1 := Nat.mod_lt (x / 1000000000 ^ i) (show 0 < 1000000000 by omega);have h2 := Nat.mod_lt (y / 1000000000 ^ i) (show 0 < 1000000000 by omega)
 have hn : caD x y (i + 1) = (x / 1000000000 ^ i % 1000000000 + y / 1000000000 ^ i % 1000000000 + caD x y i) / 1000000000 := by
  show (x % 1000000000 ^ (i + 1) + y % 1000000000 ^ (i + 1)) / 1000000000 ^ (i + 1) = _;rw [zbQ x, zbQ y, Nat.pow_succ, ← Nat.div_div_eq_div_mul]
  congr 1
  have hP := zaH i;unfold caD;generalize 1000000000 ^ i = P at *
  have : x / P % 1000000000 * P + x % P + (y / P % 1000000000 * P + y % P) = P * (x / P % 1000000000 + y / P % 1000000000) + (x % P + y % P) := by
   rw [Nat.mul_add, Nat.mul_comm P, Nat.mul_comm P]; omega
  rw [this, Nat.mul_add_div hP]
 rw [hn, hd];omega
theorem zrk {x y i : Nat} (h : i < dlen x ∨ i < dlen y ∨ 0 < caD x y i) : i + 1 ≤ dlen (x + y) := by
 rcases h with h | h | h
 ·have := zaZ (show x ≤ x + y by omega); omega
 ·have := zaZ (show y ≤ x + y by omega); omega
 ·refine ziL ?_;have h1 := Nat.mod_le x (1000000000 ^ i);have h2 := Nat.mod_le y (1000000000 ^ i);unfold caD at h;rw [Nat.div_pos_iff] at h;omega
theorem zrl {x y i : Nat} (h1 : dlen x ≤ i) (h2 : dlen y ≤ i) (h3 : caD x y i = 0) : dlen (x + y) ≤ i := by
 refine za3 ?_;have a1 := Nat.lt_of_lt_of_le (zaD x) (Nat.pow_le_pow_right (by decide) h1);have a2 := Nat.lt_of_lt_of_le (zaD y) (Nat.pow_le_pow_right (by decide) h2);have hP := zaH i;unfold caD at h3;rw [Nat.mod_eq_of_lt a1, Nat.mod_eq_of_lt a2] at h3;rcases Nat.lt_or_ge (x + y) (1000000000 ^ i) with h | h
 ·exact h
 ·have := Nat.div_pos h hP; omega
theorem ziM {x y n : Nat} (h1 : dlen x ≤ n) (h2 : dlen y ≤ n) : dlen (x + y) ≤ n + 1 := by
 refine za3 ?_;have a1 := Nat.lt_of_lt_of_le (zaD x) (Nat.pow_le_pow_right (n := 1000000000) (by decide) h1);have a2 := Nat.lt_of_lt_of_le (zaD y) (Nat.pow_le_pow_right (n := 1000000000) (by decide) h2);rw [Nat.pow_succ];generalize 1000000000 ^ n = P at *
 omega
def boD (x y i : Nat) : Nat := if x % 1000000000 ^ i < y % 1000000000 ^ i then 1 else 0
theorem zrh (x y : Nat) : boD x y 0 = 0 := by simp [boD, Nat.mod_one]
theorem zri {x y i : Nat} (hxy : y ≤ x) {s : Int} (hs : s = ((x / 1000000000 ^ i % 1000000000 : Nat) : Int) - ((y / 1000000000 ^ i % 1000000000 : Nat) : Int) - (boD x y i : Int)) :
  (if s < 0 then s + 1000000000 else s) = (((x - y) / 1000000000 ^ i % 1000000000 : Nat) : Int) ∧ (boD x y (i + 1) : Int) = (if s < 0 then 1 else 0) ∧ -1000000000 ≤ s ∧ s < 1000000000 := by
 have hP := zaH i;have e1 := zf3 x i;have e2 := zf3 y i;have l1 := Nat.mod_lt x hP;have l2 := Nat.mod_lt y hP;have m1 := zbQ x i;have m2 := zbQ y i;have d1 := Nat.mod_lt (x / 1000000000 ^ i) (show 0 < 1000000000 by omega);have d2 := Nat.mod_lt (y / 1000000000 ^ i) (show 0 < 1000000000 by omega);have b1 : boD x y i ≤ 1 := by unfold boD; split <;> omega
 have hb : boD x y i = 1 ∧ x % 1000000000 ^ i < y % 1000000000 ^ i ∨ boD x y i = 0 ∧ y % 1000000000 ^ i ≤ x % 1000000000 ^ i := by
  unfold boD;by_cases h : x % 1000000000 ^ i < y % 1000000000 ^ i
  ·rw [if_pos h]; exact .inl ⟨rfl, h⟩
  ·rw [if_neg h]; exact .inr ⟨rfl, by omega⟩
 have hn : (boD x y (i + 1) : Int) = if x % 1000000000 ^ (i + 1) < y % 1000000000 ^ (i + 1) then 1 else 0 := by unfold boD; split <;> rfl
 rw [hn, m1, m2]
 have hdiv : (x - y) / 1000000000 ^ i = x / 1000000000 ^ i - y / 1000000000 ^ i - boD x y i ∧ y / 1000000000 ^ i + boD x y i ≤ x / 1000000000 ^ i := by
  generalize boD x y i = b at *
  generalize 1000000000 ^ i = P at *
  generalize hX : x / P = X at *
  generalize hY : y / P = Y at *
  have hle : Y + b ≤ X := by
   rcases Nat.lt_or_ge X (Y + b) with h | h
   ·exfalso;rcases hb with ⟨rfl, h2⟩ | ⟨rfl, h2⟩
    ·have : P * X ≤ P * Y := Nat.mul_le_mul_left _ (by omega);omega
    ·have : P * (X + 1) ≤ P * Y := Nat.mul_le_mul_left _ (by omega);rw [Nat.mul_add] at this;omega
   ·exact h
  refine ⟨?_, hle⟩;obtain ⟨D, rfl⟩ : ∃ D, X = Y + b + D := ⟨X - (Y + b), by omega⟩
  have e3 : x - y = P * D + (P * b + x % P - y % P) := by
   rw [Nat.mul_add, Nat.mul_add] at e1;rcases hb with ⟨rfl, h2⟩ | ⟨rfl, h2⟩ <;> omega
  have e4 : P * b + x % P - y % P < P := by
   rcases hb with ⟨rfl, h2⟩ | ⟨rfl, h2⟩ <;> omega
  rw [e3, Nat.mul_add_div hP, Nat.div_eq_of_lt e4];omega
 obtain ⟨hd, hle⟩ := hdiv;rw [hd];generalize boD x y i = b at *
 generalize hX : x / 1000000000 ^ i = X at *
 generalize hY : y / 1000000000 ^ i = Y at *
 generalize hX2 : X % 1000000000 = x0 at *
 generalize hY2 : Y % 1000000000 = y0 at *
 generalize 1000000000 ^ i = P at *
 refine ⟨?_, ?_, by omega, by omega⟩
 ·split <;> omega
 ·by_cases h : s < 0
  ·rw [if_pos h];refine if_pos ?_;rcases Nat.lt_or_ge x0 y0 with h1 | h1
   ·have : (x0 + 1) * P ≤ y0 * P := Nat.mul_le_mul_right _ h1;rw [Nat.add_mul] at this; omega
   ·have : x0 = y0 := by omega
    subst this;rcases hb with ⟨rfl, h2⟩ | ⟨rfl, h2⟩ <;> omega
  ·rw [if_neg h];refine if_neg ?_;rcases Nat.lt_or_ge y0 x0 with h1 | h1
   ·have : (y0 + 1) * P ≤ x0 * P := Nat.mul_le_mul_right _ h1;rw [Nat.add_mul] at this; omega
   ·have : x0 = y0 := by omega
    subst this;rcases hb with ⟨rfl, h2⟩ | ⟨rfl, h2⟩ <;> omega
set_option maxHeartbeats 8000000 in
theorem zkO {H : AHeap} {p q : Option Addr} {c e x y : Nat} (hp : SlAt H 1 i1 p (dg x)) (hq : SlAt H 1 i1 q (dg y)) (ha : dlen x ≤ 1000) (hb : dlen y ≤ 1000) :
  Ret Tryz.prog 277 [.slice p (dlen x) c, .slice q (dlen y) e] H (lstV H.fresh (dg (x + y))) (lstH H 1 i1 (dg (x + y))) := by
 refine zae Tryz.func277 rfl rfl rfl fun hc => ?_
 have cx := fun lo L (i : Nat) => zkD (H := ext H lo L) (c := c) (i := i) (hp.ext (zag hc)) (by rw [zaQ]; omega)
 have cy := fun lo L (i : Nat) => zkD (H := ext H lo L) (c := e) (i := i) (hq.ext (zag hc)) (by rw [zaQ]; omega)
 have ex := fun i => zfj (i := i) (zaD x)
 have ey := fun i => zfj (i := i) (zaD y)
 simp only [zaQ] at cx cy;unfold dg at cx cy;simp only [ex] at cx;simp only [ey] at cy;have hxy : dlen (x + y) ≤ 1001 := ziM ha hb;refine zst ?_;apply zar;refine zaA (α := Nat × Value × List (Option ABlk)) (fun s => [(0, .slice p (dlen x) c), (1, .slice q (dlen y) e), (5, s.2.1), (6, I (caD x y s.1)), (7, I s.1)]) (fun s => ext H H.fresh s.2.2) (fun s => s.1 ≤ dlen (x + y) ∧ Lst H s.2.2 1 i1 0 s.2.1 (pw s.1 (x + y))) (fun s => dlen (x + y) - s.1) (fun s hJ ih => ?_) (0, .slice none 0 0, []) ⟨Nat.zero_le _, Lst.nil⟩ (by rw [zqZ]; repeat (first | exact zbi | apply za0 rfl)) (.refl _);obtain ⟨i, v, L⟩ := s;obtain ⟨hi, hv⟩ := hJ;simp only at hi hv ih ⊢;have ih' := fun i' v' L' a1 a2 => ih (i', v', L') a1 a2
 simp only at ih';clear ih;refine zst ?_;refine zq0 ?_;refine zs1 ?_;refine zrs (ds := []) (α := Bool) (fun B => [(0, .slice p (dlen x) c), (1, .slice q (dlen y) e), (5, v), (6, I (caD x y i)), (7, I i), (22, .bool B)]) (fun _ => ext H H.fresh L) (fun B => B = true ↔ (i < dlen x ∨ i < dlen y ∨ 0 < caD x y i)) ?_ ?_
 ·refine zan rfl rfl (fun u1 => ?_) (fun u1 => ?_)
  ·have u1 : i < dlen x := by have := of_decide_eq_true u1; omega
   refine zst ?_;exact ziz true (by simp [u1]) zsb rfl
  ·have u1 : ¬ i < dlen x := by have := of_decide_eq_false u1; omega
   refine zst ?_;refine zq1 ?_;refine zst ?_;refine zan rfl rfl (fun u2 => ?_) (fun u2 => ?_)
   ·have u2 : i < dlen y := by have := of_decide_eq_true u2; omega
    refine zst ?_;exact ziz true (by simp [u2]) zsb rfl
   ·have u2 : ¬ i < dlen y := by have := of_decide_eq_false u2; omega
    refine zst ?_;refine zq1 ?_;refine zst ?_;exact ziz (decide ((caD x y i : Int) > 0)) (by rw [decide_eq_true_iff]; omega) zsb rfl
 ·rintro B hB
  cases B
  ·refine zah rfl rfl ?_;have hn : ¬ (i < dlen x ∨ i < dlen y ∨ 0 < caD x y i) := fun h => by simpa using hB.2 h
   have hd := zrl (x := x) (y := y) (i := i) (by omega) (by omega) (by omega);obtain rfl : i = dlen (x + y) := by omega
   apply zap;apply zaq; exact rfl;refine zst ?_;exact zku hc hv rfl (fun _ => rfl) ⟨rfl, rfl⟩
  ·refine zam rfl rfl ?_;have hm := zrk (hB.1 rfl);obtain ⟨s, hs⟩ : ∃ s, s = ((x / 1000000000 ^ i % 1000000000 : Nat) : Int) + ((y / 1000000000 ^ i % 1000000000 : Nat) : Int) + (caD x y i : Int) := ⟨_, rfl⟩
   obtain ⟨s1, s2, s3, s4⟩ := zra hs;have b1 := Nat.mod_lt (x / 1000000000 ^ i) (show 0 < 1000000000 by omega);have b2 := Nat.mod_lt (y / 1000000000 ^ i) (show 0 < 1000000000 by omega);have b3 := zrL x y i;refine zst ?_;apply zac (ht := rfl); exact cx _ _ _; exact rfl;refine zst ?_;apply zac (ht := rfl); exact cy _ _ _; exact rfl;obtain ⟨dx, hdx⟩ : ∃ d : Int, d = ((x / 1000000000 ^ i % 1000000000 : Nat) : Int) := ⟨_, rfl⟩
   obtain ⟨dy, hdy⟩ : ∃ d : Int, d = ((y / 1000000000 ^ i % 1000000000 : Nat) : Int) := ⟨_, rfl⟩
   rw [← hdx, ← hdy] at hs ⊢;have hx0 : 0 ≤ dx ∧ dx < 1000000000 := by omega
   have hy0 : 0 ≤ dy ∧ dy < 1000000000 := by omega
   refine zq26 ?_;refine zst ?_;refine zq26 ?_;refine zst ?_;apply zad; exact zfB rfl rfl (by omega) (by omega); exact rfl;refine zq19 ?_;rw [← hs]
   skip;rw [s1];refine zbP (f := i1) (m := 1) (xs := [(((x + y) / 1000000000 ^ i % 1000000000 : Nat) : Int)]) (k0 := 0) hc (hv.app _) (Nat.zero_le _) (fun _ => rfl) (fun _ => rfl) rfl rfl rfl rfl rfl rfl (zaa List.getElem?_concat_length) rfl (by simp) (by show (2 * ((pw i (x + y)).length + 1) + 1000) * 8 ≤ 2 ^ 48; rw [zaK]; omega) (Nat.ne_of_beq_eq_false rfl) (Nat.ne_of_beq_eq_false rfl) rfl (fun v' L3 hv' hst3 hlen3 => ?_);rw [← zdG] at hv';refine zst ?_;apply zad; exact zeq rfl rfl (by omega) (by omega) (by omega); exact rfl;refine zst ?_;refine zq4 ?_;refine zst ?_;rw [s2];exact zaN zsb (.refl _) (ih' (i + 1) v' L3 (by omega) ⟨by omega, hv'⟩)
set_option maxHeartbeats 8000000 in
theorem zgs {H : AHeap} {p q : Option Addr} {c e x y : Nat} (hp : SlAt H 1 i1 p (dg x)) (hq : SlAt H 1 i1 q (dg y)) (hle : y ≤ x) (h0 : x ≠ 0) (ha : dlen x ≤ 1000) :
  Ret Tryz.prog 278 [.slice p (dlen x) c, .slice q (dlen y) e] H (.slice (some ⟨H.fresh, 0, none⟩) (dlen (x - y)) (dlen x)) (H.add (.cells ((pw (dlen x) (x - y)).map I) 1 true false)) := by
 refine zae Tryz.func278 rfl rfl rfl fun hc => ?_
 have hb := zaZ hle;have hne : dlen x ≠ 0 := fun h => h0 (zbW.1 h)
 have cy := fun lo L (i : Nat) => zkD (H := ext H lo L) (c := e) (i := i) (hq.ext (zag hc)) (by rw [zaQ]; omega)
 have ex := fun i => zfj (i := i) (zaD x)
 have ey := fun i => zfj (i := i) (zaD y)
 simp only [zaQ] at cy;unfold dg at cy;simp only [ey] at cy;have lx := zaQ x;refine zst ?_;apply zar;refine zaA (α := Nat × Value × List (Option ABlk)) (fun s => [(0, .slice p (dlen x) c), (1, .slice q (dlen y) e), (5, s.2.1), (6, I (boD x y s.1)), (7, I s.1)]) (fun s => ext H H.fresh s.2.2) (fun s => s.1 ≤ dlen x ∧ Lst H s.2.2 1 i1 0 s.2.1 (pw s.1 (x - y))) (fun s => dlen x - s.1) (fun s hJ ih => ?_) (0, .slice none 0 0, []) ⟨Nat.zero_le _, Lst.nil⟩ (by rw [zrh]; repeat (first | exact zbi | apply za0 rfl)) (.refl _);obtain ⟨i, v, L⟩ := s;obtain ⟨hi, hv⟩ := hJ;simp only at hi hv ih ⊢;have ih' := fun i' v' L' a1 a2 => ih (i', v', L') a1 a2
 simp only at ih';clear ih;refine zst ?_;refine zq0 ?_;apply zaf;refine zai rfl (fun h1 => ?_) (fun h1 => ?_)
 ·have h1 : i < dlen x := by simpa using h1
  obtain ⟨b1, o1, cs1, z1, s1, ro1, rfl, hg1, hw1⟩ := hp.out (by intro e; rw [e] at lx; simp at lx; omega);obtain ⟨s, hs⟩ : ∃ s, s = ((x / 1000000000 ^ i % 1000000000 : Nat) : Int) - ((y / 1000000000 ^ i % 1000000000 : Nat) : Int) - (boD x y i : Int) := ⟨_, rfl⟩
  obtain ⟨t1, t2, t3, t4⟩ := zri hle hs;have ei : (dg x)[i]'(by omega) = ((x / 1000000000 ^ i % 1000000000 : Nat) : Int) := zgH _;have b1' := Nat.mod_lt (x / 1000000000 ^ i) (show 0 < 1000000000 by omega);have b2' := Nat.mod_lt (y / 1000000000 ^ i) (show 0 < 1000000000 by omega);have b3 : boD x y i ≤ 1 := by unfold boD; split <;> omega
  obtain ⟨dx, hdx⟩ : ∃ d : Int, d = ((x / 1000000000 ^ i % 1000000000 : Nat) : Int) := ⟨_, rfl⟩
  obtain ⟨dy, hdy⟩ : ∃ d : Int, d = ((y / 1000000000 ^ i % 1000000000 : Nat) : Int) := ⟨_, rfl⟩
  have cyi := fun lo L => cy lo L i
  rw [← hdx, ← hdy] at hs;rw [← hdx] at ei;rw [← hdy] at cyi;have hx0 : 0 ≤ dx ∧ dx < 1000000000 := by omega
  have hy0 : 0 ≤ dy ∧ dy < 1000000000 := by omega
  obtain ⟨bo, hbo⟩ : ∃ d : Int, d = (boD x y i : Int) := ⟨_, rfl⟩
  rw [← hbo] at hs ⊢;have hbo0 : 0 ≤ bo ∧ bo ≤ 1 := by omega
  refine zst ?_;apply zax (by assumption); decide +kernel;(iterate 2 (refine zq5 ?_));refine zq6 ?_;refine zq7 ?_;(iterate 2 (refine zq5 ?_));apply zaC (ht := rfl); exact cyi _ _; exact rfl;rw [ei];refine zq30 ?_;refine zq5 ?_;refine zq30 ?_;refine zq14 ?_;apply zaz;refine zst ?_;refine zq0 ?_;apply zaf;rw [← hs];by_cases hneg : s < 0
  ·rw [if_pos hneg] at t1 t2;have eg : decide (s < 0) = true := decide_eq_true hneg
   skip;refine zam rfl eg ?_;refine zst ?_;refine zq26 ?_;refine zst ?_;refine zq19 ?_;rw [t1];refine zbP (f := i1) (m := 1) (xs := [(((x - y) / 1000000000 ^ i % 1000000000 : Nat) : Int)]) (k0 := 0) hc ((hv.app _).app _) (Nat.zero_le _) (fun _ => rfl) (fun _ => rfl) rfl rfl rfl rfl rfl rfl (zaa List.getElem?_concat_length) rfl (by simp) (by show (2 * ((pw i (x - y)).length + 1) + 1000) * 8 ≤ 2 ^ 48; rw [zaK]; omega) (Nat.ne_of_beq_eq_false rfl) (Nat.ne_of_beq_eq_false rfl) rfl (fun v' L3 hv' hst3 hlen3 => ?_);rw [← zdG] at hv';have ih2 := ih' (i + 1) v' L3 (by omega) ⟨by omega, hv'⟩;rw [t2] at ih2;refine zst ?_;refine zq4 ?_;refine zst ?_;exact zaN zsb (.refl _) ih2
  ·rw [if_neg hneg] at t1 t2;have eg : decide (s < 0) = false := decide_eq_false hneg
   skip;refine zah rfl eg ?_;refine zst ?_;refine zq19 ?_;rw [t1];refine zbP (f := i1) (m := 1) (xs := [(((x - y) / 1000000000 ^ i % 1000000000 : Nat) : Int)]) (k0 := 0) hc ((hv.app _).app _) (Nat.zero_le _) (fun _ => rfl) (fun _ => rfl) rfl rfl rfl rfl rfl rfl (zaa List.getElem?_concat_length) rfl (by simp) (by show (2 * ((pw i (x - y)).length + 1) + 1000) * 8 ≤ 2 ^ 48; rw [zaK]; omega) (Nat.ne_of_beq_eq_false rfl) (Nat.ne_of_beq_eq_false rfl) rfl (fun v' L3 hv' hst3 hlen3 => ?_);rw [← zdG] at hv';have ih2 := ih' (i + 1) v' L3 (by omega) ⟨by omega, hv'⟩;rw [t2] at ih2;refine zst ?_;refine zq4 ?_;refine zst ?_;exact zaN zsb (.refl _) ih2
 ·have h1 : i = dlen x := by simp at h1; omega
  subst h1;rcases hv.out with ⟨e, _⟩ | ⟨_, kk, hk1, rfl, hL⟩
  ·have := zaK (dlen x) (x - y); rw [e] at this; simp at this; omega
  have fk : kk < L.length := (List.getElem?_eq_some_iff.1 hL).1;have ct := fun lo => zgp (H := ext H lo L) (q := some ⟨nb H kk, 0, none⟩) (c := (pw (dlen x) (x - y)).length) (l := pw (dlen x) (x - y)) (zbs (fun _ => rfl) (zaa hL)) (OldS.new fk) ⟨Nat.le_refl _, (fun e => by cases e), (fun _ e => by cases e; rfl)⟩ (by rw [zaK]; omega)
  rw [zck (Nat.lt_of_le_of_lt (Nat.sub_le _ _) (zaD x)), zaK] at ct;rw [zaK];apply zap;apply zaq; exact rfl;refine zst ?_;apply zac (ht := rfl); exact ct _; exact rfl;refine zst ?_;rw [flatI1] at hL;exact zci (vs := [.slice (some ⟨nb H kk, 0, none⟩) (dlen (x - y)) (dlen x)]) (k := kk) hc rfl hL zaY (v := .slice (some ⟨H.fresh, 0, none⟩) (dlen (x - y)) (dlen x)) (by simp [packA, renV, zdE]) ⟨rfl, rfl⟩
theorem zdA (v R : Nat) : v = R * (v / R) + v % R := (Nat.div_add_mod _ _).symm
structure GuI (W V R : Nat) (t r : Nat) : Prop where
 sum : t * (V / R / 1000000000) + r = W / R / 1000000000
 low : W / V ≤ t
theorem zla {V R : Nat} (hv : 1 ≤ V / R / 1000000000) : 0 < R ∧ 1000000000 * R ≤ V := by
 have hR : 0 < R := by
  rcases Nat.eq_zero_or_pos R with h | h
  ·subst h; simp at hv
  ·exact h
 refine ⟨hR, ?_⟩;have h1 : 1000000000 ≤ V / R := by omega
 have := Nat.div_mul_le_self V R;have h2 := Nat.mul_le_mul_right R h1;omega
theorem gu_init {W V R : Nat} (hv : 1 ≤ V / R / 1000000000) : GuI W V R (W / R / 1000000000 / (V / R / 1000000000)) (W / R / 1000000000 % (V / R / 1000000000)) := by
 obtain ⟨hR, hV⟩ := zla hv;refine ⟨by rw [Nat.mul_comm]; exact Nat.div_add_mod _ _, ?_⟩;rw [Nat.le_div_iff_mul_le (by omega)];rw [Nat.le_div_iff_mul_le (by omega), Nat.le_div_iff_mul_le hR]
 have h1 : V / R / 1000000000 * 1000000000 * R ≤ V := by
  have a := Nat.div_mul_le_self (V / R) 1000000000;have b := Nat.div_mul_le_self V R;exact Nat.le_trans (Nat.mul_le_mul_right _ a) b
 have h2 := Nat.div_mul_le_self W V
 calc W / V * (V / R / 1000000000) * 1000000000 * R = W / V * (V / R / 1000000000 * 1000000000 * R) := by rw [Nat.mul_assoc, Nat.mul_assoc, Nat.mul_assoc]
  _ ≤ W / V * V := Nat.mul_le_mul_left _ h1
  _ ≤ W := h2
theorem q_small {W V : Nat} (h : W < 1000000000 * V) : W / V ≤ 999999999 := by
 have hV : 0 < V := by omega
 have : W / V < 1000000000 := by rw [Nat.div_lt_iff_lt_mul hV]; exact h
 omega
theorem zrA {W V R t r : Nat} (h : GuI W V R t r) (hv : 1 ≤ V / R / 1000000000) (hW : W < 1000000000 * V) (hr : 1000000000 ≤ r) : t ≤ 999999999 := by
 obtain ⟨hR, hV⟩ := zla hv;have hs := h.sum
 -- the first digit is at most that of V
 have h1 : W / R / 1000000000 / 1000000000 ≤ V / R / 1000000000 := by
  have a : W / 1000000000 / R / 1000000000 ≤ V / R / 1000000000 := Nat.div_le_div_right (Nat.div_le_div_right (by omega));have e : W / 1000000000 / R = W / R / 1000000000 := by rw [Nat.div_div_eq_div_mul, Nat.div_div_eq_div_mul, Nat.mul_comm]
  rw [e] at a; exact a
 generalize V / R / 1000000000 = v1 at *
 generalize W / R / 1000000000 = T at *
 rcases Nat.lt_or_ge t 1000000000 with h2 | h2
 ·omega
 ·have : 1000000000 * v1 ≤ t * v1 := Nat.mul_le_mul_right _ h2;omega
theorem gu_more {W V R t r : Nat} (h : GuI W V R t r) (hv : 1 ≤ V / R / 1000000000) (hW : W < 1000000000 * V) (hm : 1000000000 ≤ t ∨ r * 1000000000 + W / R % 1000000000 < t * (V / R % 1000000000)) : GuI W V R (t - 1) (r + V / R / 1000000000) ∧ 1 ≤ t := by
 obtain ⟨hR, hV⟩ := zla hv;have hq := q_small hW;have hs := h.sum
 have hlt : W / V < t := by
  rcases hm with hm | hm
  ·omega
  ·have hV0 : 0 < V := by omega
   rw [Nat.div_lt_iff_lt_mul hV0];have e1 := zdA V R;have e2 := zdA W R;have l2 := Nat.mod_lt W hR;have d1 := Nat.div_add_mod (V / R) 1000000000;have d2 := Nat.div_add_mod (W / R) 1000000000;generalize V / R = A at *
   generalize W / R = C at *
   generalize A / 1000000000 = v1 at *
   generalize A % 1000000000 = v2 at *
   generalize C / 1000000000 = T at *
   generalize C % 1000000000 = u3 at *
   have h3 : C + 1 ≤ t * A := by
    rw [← d1, Nat.mul_add];have : t * (1000000000 * v1) = 1000000000 * (t * v1) := Nat.mul_left_comm _ _ _;omega
   have h4 : (C + 1) * R ≤ t * A * R := Nat.mul_le_mul_right _ h3
   have h5 : t * A * R ≤ t * V := by
    rw [Nat.mul_assoc]; exact Nat.mul_le_mul_left _ (by rw [Nat.mul_comm]; omega)
   rw [Nat.add_mul, Nat.one_mul, Nat.mul_comm C] at h4;omega
 have h1t : 1 ≤ t := Nat.lt_of_le_of_lt (Nat.zero_le _) hlt;refine ⟨⟨?_, Nat.le_sub_one_of_lt hlt⟩, h1t⟩;rw [← hs, Nat.sub_mul, Nat.one_mul];have : V / R / 1000000000 ≤ t * (V / R / 1000000000) := Nat.le_mul_of_pos_left _ (by omega);omega
theorem zo1 {W V R t r : Nat} (h : GuI W V R t r) (hv : 1 ≤ V / R / 1000000000) (ht : t ≤ 999999999) (hd : t * (V / R % 1000000000) ≤ r * 1000000000 + W / R % 1000000000) : t ≤ W / V + 1 := by
 obtain ⟨hR, hV⟩ := zla hv;have hs := h.sum;rcases Nat.eq_zero_or_pos t with h0 | h0
 ·rw [h0]; exact Nat.zero_le _
 have hV0 : 0 < V := by omega
 have : t - 1 ≤ W / V := by
  rw [Nat.le_div_iff_mul_le hV0];have e1 := zdA V R;have e2 := zdA W R;have l1 := Nat.mod_lt V hR;have d1 := Nat.div_add_mod (V / R) 1000000000;have d2 := Nat.div_add_mod (W / R) 1000000000;generalize V / R = A at *
  generalize W / R = C at *
  generalize A / 1000000000 = v1 at *
  generalize A % 1000000000 = v2 at *
  generalize C / 1000000000 = T at *
  generalize C % 1000000000 = u3 at *
  have h3 : t * A ≤ C := by
   rw [← d1, Nat.mul_add];have : t * (1000000000 * v1) = 1000000000 * (t * v1) := Nat.mul_left_comm _ _ _;omega
  have h4 : t * A * R ≤ C * R := Nat.mul_le_mul_right _ h3;have h5 : t * (V % R) ≤ 999999999 * R := Nat.mul_le_mul ht (by omega)
  have h6 : t * V = t * A * R + t * (V % R) := by
   conv => lhs; rw [e1]
   rw [Nat.mul_add, Nat.mul_comm R, Nat.mul_assoc]
  rw [Nat.sub_mul, Nat.one_mul, h6];rw [Nat.mul_comm C] at h4;omega
 exact Nat.le_add_of_sub_le this
theorem gu_over {W V R t r : Nat} (h : GuI W V R t r) (hv : 1 ≤ V / R / 1000000000) (hW : W < 1000000000 * V) (hr : 1000000000 ≤ r) : t ≤ W / V + 1 := by
 have ht := zrA h hv hW hr;refine zo1 h hv ht ?_;have h2 := Nat.mod_lt (V / R) (show 0 < 1000000000 by omega);have : t * (V / R % 1000000000) ≤ 999999999 * 999999999 := Nat.mul_le_mul ht (by omega);omega
end Go.Proofs.YtlejimjgagfalaaGreatDoor
namespace Go.Den
section
variable {P : Program} {l : EL} {h : AHeap} {α : Type} {f : α → List Value} {w : Nat}
end
end Go.Den
namespace Go.Proofs.YtlejimjgagfalaaGreatDoor
open Go Go.Den
theorem zhc {P : Program} {l : EL} {h : AHeap} {x y : Operand} {t t' : TypeId} {a b : Nat} (hx : ev l x = some (.int .i64 (a : Int))) (hy : ev l y = some (.int .i64 (b : Int))) (hr : a * b < 9223372036854775808) : Does P l (.binOp .mul t x y t') h (.int .i64 ((a * b : Nat) : Int)) h := by
 have := zpo (P := P) (h := h) (t := t) (t' := t') hx hy (by rw [← Int.natCast_mul]; omega)
 rwa [← Int.natCast_mul] at this
end Go.Proofs.YtlejimjgagfalaaGreatDoor
