import Derived.Test.YtlejimjgagfalaaGreatDoorQlJ
import Derived.Test.YtlejimjgagfalaaGreatDoorQlA
import Derived.Test.YtlejimjgagfalaaGreatDoorMeA
import Derived.Test.YtlejimjgagfalaaGreatDoorSmA
import Derived.Test.YtlejimjgagfalaaGreatDoorQmC
noncomputable section
namespace Go.Proofs.YtlejimjgagfalaaGreatDoor
open Go Go.Den
set_option maxRecDepth 100000
theorem slc_pw {m A k : Nat} (h : k ≤ m) : sliceIn ((pw m A).map I) 0 (k * 1) = some ((pw k A).flatMap i1) := by
 unfold sliceIn;rw [if_pos (by simp [zaK]; omega)];rw [flatI1, List.drop_zero, Nat.mul_one, ← List.map_take, zeg h]
theorem zok {f : Nat} (h : f < 1000000000) : pw 1 f = [(f : Int)] := by simp [pw, Nat.mod_eq_of_lt h]
structure ScaleP (y k f : Nat) : Prop where
 f1 : 1 ≤ f
 f2 : f < 1000000000
 lt : y * f < 1000000000 ^ (k + 2)
theorem zp3 {y k : Nat} (h1 : 1000000000 ^ (k + 1) ≤ y) (h2 : y < 1000000000 ^ (k + 2)) : ScaleP y k (1000000000 / (y / 1000000000 ^ (k + 1) % 1000000000 + 1)) := by
 have hP := zaH (k + 1)
 have d1 : y / 1000000000 ^ (k + 1) < 1000000000 := by
  rw [Nat.div_lt_iff_lt_mul hP];rw [Nat.pow_succ, Nat.mul_comm] at h2; exact h2
 have d0 : 1 ≤ y / 1000000000 ^ (k + 1) := Nat.div_pos h1 hP;rw [Nat.mod_eq_of_lt d1];have e := zdA y (1000000000 ^ (k + 1));have l := Nat.mod_lt y hP;obtain ⟨D, hD⟩ : ∃ D, D = y / 1000000000 ^ (k + 1) := ⟨_, rfl⟩
 rw [← hD] at d0 d1 e ⊢;have h3 := Nat.div_mul_le_self 1000000000 (D + 1);refine ⟨Nat.div_pos (by omega) (by omega), ?_, ?_⟩
 ·rw [Nat.div_lt_iff_lt_mul (by omega)]; omega
 ·obtain ⟨f, hf⟩ : ∃ f, f = 1000000000 / (D + 1) := ⟨_, rfl⟩
  rw [← hf] at h3 ⊢;have hf0 : 0 < f := by rw [hf]; exact Nat.div_pos (by omega) (by omega)
  have h4 : y < (D + 1) * 1000000000 ^ (k + 1) := by rw [Nat.add_mul, Nat.one_mul, Nat.mul_comm]; omega
  have h5 : y * f < (D + 1) * 1000000000 ^ (k + 1) * f := Nat.mul_lt_mul_of_pos_right h4 hf0
  have h6 : (D + 1) * 1000000000 ^ (k + 1) * f = f * (D + 1) * 1000000000 ^ (k + 1) := by
   rw [Nat.mul_comm _ f, ← Nat.mul_assoc]
  have h7 : f * (D + 1) * 1000000000 ^ (k + 1) ≤ 1000000000 * 1000000000 ^ (k + 1) := Nat.mul_le_mul_right _ h3;rw [Nat.pow_succ 1000000000 (k + 1), Nat.mul_comm (1000000000 ^ (k + 1))];omega
def DivP (H : AHeap) (f : FuncId) (args : List Value) (x y : Nat) : Prop :=
 ∃ n1 n2, x / y < 1000000000 ^ n1 ∧ x % y < 1000000000 ^ n2 ∧ n1 ≤ 1000 ∧ n2 ≤ 1000 ∧
  Ret Tryz.prog f args H (.tuple ⟨[.slice (some ⟨H.fresh, 0, none⟩) (dlen (x / y)) n1, .slice (some ⟨H.fresh + 2, 0, none⟩) (dlen (x % y)) n2]⟩) ((H.add (.cells ((pw n1 (x / y)).map I) 1 false false)).add (.cells ((pw n2 (x % y)).map I) 1 false false))
theorem zm7 {H : AHeap} {p q : Option Addr} {c e x y : Nat} (hp : SlAt H 1 i1 p (dg x)) (hq : SlAt H 1 i1 q (dg y)) (hy : y ≠ 0) (hle : y ≤ x) (h1 : dlen y = 1) (ha : dlen x ≤ 300) :
  DivP H 257 [.slice p (dlen x) c, .slice q (dlen y) e] x y := by
 have hyb : y < 1000000000 := by
  have := zaD y;rw [h1] at this; simpa using this
 have hd : dg y = [(y : Int)] := zrK hy hyb;rw [hd] at hq;have hxy : x / y < 1000000000 ^ dlen x := Nat.lt_of_le_of_lt (Nat.div_le_self _ _) (zaD x);have hr : x % y < 1000000000 ^ 1 := by have := Nat.mod_lt x (show 0 < y by omega); omega
 have cd := zqR (c := c) (e := e) hp hq (by rw [zaQ]; omega) (dg_dig x) (by omega) (by omega) (by rw [← hd, zhh, if_neg (by omega)]; split <;> omega);rw [zaQ] at cd;unfold dg at cd;obtain ⟨e1, e2⟩ := zrF (n := dlen x) (v := x) (f := y) (zaD x) (by omega) hyb;have er : [((x % y : Nat) : Int)] = pw 1 (x % y) := (zok (by have := Nat.mod_lt x (show 0 < y by omega); omega)).symm;rw [e1, e2, er, zck hxy, zck hr] at cd;rw [h1];refine ⟨dlen x, 1, hxy, hr, by omega, by omega, ?_⟩;have em : [I ((x % y : Nat) : Int)] = (pw 1 (x % y)).map I := by rw [← er]; rfl
 rw [em] at cd;exact cd
set_option maxHeartbeats 16000000 in
theorem zqS {H : AHeap} {p q : Option Addr} {c e x y k : Nat} (hp : SlAt H 1 i1 p (dg x)) (hq : SlAt H 1 i1 q (dg y)) (hle : y ≤ x) (h1 : dlen y = k + 2) (ha : dlen x ≤ 300) :
  DivP H 257 [.slice p (dlen x) c, .slice q (dlen y) e] x y := by
 have hy0 : y ≠ 0 := by intro h; rw [h, zaO] at h1; omega
 have hy1 : 1000000000 ^ (k + 1) ≤ y := by have := zio hy0; rwa [h1] at this
 have hy2 : y < 1000000000 ^ (k + 2) := by have := zaD y; rwa [h1] at this
 have hsc := zp3 hy1 hy2;obtain ⟨f, hf⟩ : ∃ f, f = 1000000000 / (y / 1000000000 ^ (k + 1) % 1000000000 + 1) := ⟨_, rfl⟩
 rw [← hf] at hsc;have f1 := hsc.f1;have f2 := hsc.f2;obtain ⟨la, hla⟩ : ∃ la, la = dlen x := ⟨_, rfl⟩
 have hx := zaD x;rw [← hla] at ha hx ⊢;have hkl : k + 2 ≤ la := by rw [hla, ← h1]; exact zaZ hle
 have hr : x % y < 1000000000 ^ dlen (x % y * f) := Nat.lt_of_le_of_lt (Nat.le_mul_of_pos_right _ f1) (zaD _)
 have hq1 : x / y < 1000000000 ^ (la - 1 - k) := by
  rw [Nat.div_lt_iff_lt_mul (by omega)];have e : la = la - 1 - k + (k + 1) := by omega
  rw [e, zbl] at hx;exact Nat.lt_of_lt_of_le hx (Nat.mul_le_mul_left _ hy1)
 have hr2 : dlen (x % y * f) ≤ k + 2 := by
  refine za3 (Nat.lt_of_le_of_lt (Nat.mul_le_mul_right f ?_) hsc.lt);exact Nat.le_of_lt (Nat.mod_lt _ (by omega))
 refine ⟨la - 1 - k, dlen (x % y * f), hq1, hr, by omega, by omega, ?_⟩;have hcmp : ¬ cmpW (dg x) (dg y) < 0 := by rw [zhh, if_neg (by omega)]; split <;> omega
 refine zae Tryz.func257 rfl rfl rfl fun hc => ?_
 have cc := fun lo L => zbB (H := ext H lo L) (c := c) (e := e) (hp.ext (zag hc)) (hq.ext (zag hc)) (by rw [zaQ]; omega) (by rw [zaQ]; omega)
 rw [zaQ, zaQ, h1, ← hla] at cc;unfold dg at hp hq;rw [h1] at hq ⊢;rw [← hla] at hp;have cm := fun lo (L : List (Option ABlk)) (h : L[0]? = some (some (.cells [I (f : Int)] 1 false false))) => zej (H := ext H lo L) (p := q) (q := some ⟨nb H 0, 0, none⟩) (c := e) (e := 1) (la := k + 2) (lb := 1) (x := y) (y := f) (hq.ext (zag hc)) (by rw [zok f2]; exact zaB (g := I) (l := [(f : Int)]) (zaa h)) hy2 (by simpa using f2) (by omega) (by omega)
 have cn := fun lo (L : List (Option ABlk)) (h : L[0]? = some (some (.cells [I (f : Int)] 1 false false))) => zej (H := ext H lo L) (p := p) (q := some ⟨nb H 0, 0, none⟩) (c := c) (e := 1) (la := la) (lb := 1) (x := x) (y := f) (hp.ext (zag hc)) (by rw [zok f2]; exact zaB (g := I) (l := [(f : Int)]) (zaa h)) hx (by simpa using f2) (by omega) (by omega)
 have hdV : dlen (y * f) = k + 2 := by
  have a := za3 hsc.lt;have b := ziL (Nat.le_trans hy1 (Nat.le_mul_of_pos_right _ f1));omega
 rw [hdV] at cm;simp only [zal, za2] at cm cn;have lq := zaK (k + 2) y;obtain ⟨b2, o2, cs2, z2, s2, ro2, rfl, hg2, hw2⟩ := hq.out (by intro e; rw [e] at lq; simp at lq);have ef : (1000000000 : Int) / ((y / 1000000000 ^ (k + 1) % 1000000000 + 1 : Nat) : Int) = (f : Int) := by rw [hf]; rfl
 refine zst ?_;apply zac (ht := rfl); exact cc _ _; exact rfl;refine zq0 ?_;apply zaf;refine zah rfl (decide_eq_false hcmp) ?_;refine zst ?_;refine zq0 ?_;apply zaf;refine zah rfl (by simp; omega) ?_;refine zst ?_;apply zad; exact zcN rfl (by omega); exact rfl;refine zq2 ?_;refine zq42 ?_;refine zq4 ?_;apply zad; exact zeq rfl rfl (by omega) (by omega) (by omega); exact rfl;refine zq19 ?_;(iterate 6 (refine zs1 ?_));rw [ef]
 skip;apply zac (ht := rfl); exact cm _ _ rfl; exact rfl;refine zst ?_;refine zq19 ?_;refine zst ?_;apply zac (ht := rfl); exact cn _ _ rfl; exact rfl;have lA := zaQ (x * f)
 have hdA : dlen (x * f) ≤ la + 1 := za3 (by
  rw [Nat.pow_succ];exact Nat.lt_of_lt_of_le (Nat.mul_lt_mul_of_pos_right hx f1) (Nat.mul_le_mul_left _ (by omega)))
 have hdA2 : la ≤ dlen (x * f) := by rw [hla]; exact zaZ (Nat.le_mul_of_pos_right _ f1)
 refine zgz (f := i1) (m := 1) (lst := []) (xs := dg (x * f)) (k0 := 2) hc ⟨_, rfl⟩ (fun _ => rfl) (fun _ => rfl) (by rw [lA]; rfl) rfl rfl rfl rfl rfl (zaa rfl) (by rw [lA]; exact slc_pw hdA) (by intro h; rw [h] at lA; simp at lA; omega) (by show (2 * (0 + (dg (x * f)).length) + 1000) * 8 ≤ 2 ^ 48; rw [lA]; omega) (Nat.ne_of_beq_eq_false rfl) (Nat.ne_of_beq_eq_false rfl) rfl (fun L3 hv3 ho3 hl3 => ?_);obtain ⟨s3, g4⟩ := hv3.out;have g0 : L3[0]? = some (some (.cells [I (f : Int)] 1 false false)) := (ho3 0 (Nat.le_of_ble_eq_true rfl) (by decide)).trans rfl;have g1 : L3[1]? = some (some (.cells ((pw (k + 3) (y * f)).map I) 1 false false)) := (ho3 1 (Nat.le_of_ble_eq_true rfl) (by decide)).trans rfl;have l3 : L3.length = 5 := hl3;rw [show (([] : List Int) ++ dg (x * f)).length = dlen (x * f) from lA];have g4 : L3[4]? = some (some (.cells ((dg (x * f)).flatMap i1) 1 s3 false)) := g4;clear hv3 ho3 hl3 cm cn cc hg2 hw2 hp hq lq;refine zst ?_;apply zar;refine zaN (l' := [(0, .slice p la c), (8, .slice (some ⟨nb H 0, 0, none⟩) 1 1), (9, .slice (some ⟨nb H 1, 0, none⟩) (k + 2) (k + 3)), (10, I ((k + 2 : Nat) : Int)), (11, .slice (some ⟨nb H 4, 0, none⟩) (dlen (x * f)) (dlen (x * f)))]) zsb (.refl _) ?_;by_cases hda : dlen (x * f) = la + 1
 ·rw [hda];apply zdK;refine zst ?_;refine zq4 ?_;refine zq0 ?_;apply zaf;refine zah rfl (by simp) ?_;apply zap;apply zaq
  ·exact rfl
  have eg : (dg (x * f)).flatMap i1 = (pw (la + 1) (x * f)).map I := by rw [flatI1, dg, hda]
  rw [eg] at g4;refine zcH (l' := [(8, .slice (some ⟨nb H 0, 0, none⟩) 1 1), (9, .slice (some ⟨nb H 1, 0, none⟩) (k + 2) (k + 3)), (10, I ((k + 2 : Nat) : Int)), (11, .slice (some ⟨nb H 4, 0, none⟩) (la + 1) (la + 1))]) zsb (.refl _) ?_;exact zjJ hc g0 g1 g4 (by omega) hsc.lt hy1 f1 f2 hx hkl (by omega) (Nat.le_refl _)
 ·have hda : dlen (x * f) = la := by omega
  rw [hda];apply zdK;refine zst ?_;refine zq4 ?_;refine zq0 ?_;apply zaf;refine zam rfl (by simp; omega) ?_;refine zst ?_;refine zq19 ?_;refine zgz (f := i1) (m := 1) (lst := dg (x * f)) (xs := [(0 : Int)]) (k0 := 4) hc ⟨_, getApp g4⟩ (fun _ => rfl) (fun _ => rfl) (by rw [lA, hda]; rfl) rfl rfl rfl rfl rfl (zaa List.getElem?_concat_length) rfl (by simp) (by show (2 * ((dg (x * f)).length + 1) + 1000) * 8 ≤ 2 ^ 48; rw [lA, hda]; omega) (Nat.ne_of_beq_eq_false rfl) (Nat.ne_of_beq_eq_false rfl) rfl (fun L4 hv4 ho4 hl4 => ?_);obtain ⟨s4, g6⟩ := hv4.out;have e6 : ∀ x : Option ABlk, (L3 ++ [x]).length = 6 := fun x => by simp [l3]
  have k0 : L4[0]? = some (some (.cells [I (f : Int)] 1 false false)) := (ho4 0 (by rw [e6]; omega) (by decide)).trans (getApp g0);have k1 : L4[1]? = some (some (.cells ((pw (k + 3) (y * f)).map I) 1 false false)) := (ho4 1 (by rw [e6]; omega) (by decide)).trans (getApp g1);rw [e6] at g6 ⊢
  have eg : (dg (x * f) ++ [(0 : Int)]).flatMap i1 = (pw (la + 1) (x * f)).map I := by
   rw [flatI1, zdG, dg, hda];have := zaD (x * f);rw [hda] at this;rw [Nat.div_eq_of_lt this]; rfl
  rw [eg] at g6;have el : (dg (x * f) ++ [(0 : Int)]).length = la + 1 := by rw [List.length_append, lA, hda]; rfl
  rw [el];refine zst ?_;refine zaN (l' := [(0, .slice p la c), (8, .slice (some ⟨nb H 0, 0, none⟩) 1 1), (9, .slice (some ⟨nb H 1, 0, none⟩) (k + 2) (k + 3)), (10, I ((k + 2 : Nat) : Int)), (11, .slice (some ⟨nb H 6, 0, none⟩) (la + 1) (la + 1))]) zsb (.refl _) ?_;apply zdK;refine zst ?_;refine zq4 ?_;refine zq0 ?_;apply zaf;refine zah rfl (by simp) ?_;apply zap;apply zaq
  ·exact rfl
  refine zcH (l' := [(8, .slice (some ⟨nb H 0, 0, none⟩) 1 1), (9, .slice (some ⟨nb H 1, 0, none⟩) (k + 2) (k + 3)), (10, I ((k + 2 : Nat) : Int)), (11, .slice (some ⟨nb H 6, 0, none⟩) (la + 1) (la + 1))]) zsb (.refl _) ?_;exact zjJ hc k0 k1 g6 (by omega) hsc.lt hy1 f1 f2 hx hkl (by omega) (Nat.le_refl _)
theorem zrJ {H : AHeap} {p q : Option Addr} {c e x y : Nat} (hp : SlAt H 1 i1 p (dg x)) (hq : SlAt H 1 i1 q (dg y)) (hy : y ≠ 0) (hle : y ≤ x) (ha : dlen x ≤ 300) :
  DivP H 257 [.slice p (dlen x) c, .slice q (dlen y) e] x y := by
 rcases Nat.lt_or_ge (dlen y) 2 with h | h
 ·exact zm7 hp hq hy hle (by have : dlen y ≠ 0 := fun h => hy (zbW.1 h); omega) ha
 ·obtain ⟨k, hk⟩ : ∃ k, dlen y = k + 2 := ⟨dlen y - 2, by omega⟩
  exact zqS hp hq hle hk ha
theorem zps {H : AHeap} {p q : Option Addr} {c e x y : Nat} (hp : SlAt H 1 i1 p (dg x)) (hp' : OldS H p) (hq : SlAt H 1 i1 q (dg y)) (hlt : x < y) (hb : dlen y ≤ 300) :
  Ret Tryz.prog 257 [.slice p (dlen x) c, .slice q (dlen y) e] H (.tuple ⟨[.slice none 0 0, .slice p (dlen x) c]⟩) H := by
 have ha := zaZ (Nat.le_of_lt hlt);have := zpt (c := c) (e := e) hp hp' hq (by rw [zaQ]; omega) (by rw [zaQ]; omega) (by rw [zhh, if_pos hlt]; decide)
 rwa [zaQ, zaQ] at this
def SrcG (H h : AHeap) (p : Option Addr) (v : Nat) : Prop := (SlAt H 1 i1 p (dg v) ∧ OldS H p) ∨ ∃ b n, p = some ⟨b, 0, none⟩ ∧ b % 2 = 0 ∧ H.fresh ≤ b ∧ v < 1000000000 ^ n ∧ n ≤ 1000 ∧ h.get b = some (.cells ((pw n v).map I) 1 false false)
theorem SrcG.mono {H h h' : AHeap} {p : Option Addr} {v : Nat} (hs : SrcG H h p v) (hE : Ext h h') : SrcG H h' p v := by
 rcases hs with h1 | ⟨b, n, h1, h2, h3, h4, h5, h6⟩
 ·exact .inl h1
 ·exact .inr ⟨b, n, h1, h2, h3, h4, h5, hE _ _ h6⟩
theorem SrcG.slAt {H h : AHeap} {p : Option Addr} {v : Nat} (hs : SrcG H h p v) (hE : Ext H h) : SlAt h 1 i1 p (dg v) := by
 rcases hs with h1 | ⟨b, n, rfl, h2, h3, h4, h5, h6⟩
 ·exact h1.1.ext hE
 ·have := (zaB (g := I) (l := pw n v) h6).take (dlen v)
  rwa [zfa h4] at this
theorem SrcG.old {H h : AHeap} {p : Option Addr} {v : Nat} (hs : SrcG H h p v) (hc : Closed h) (hf : H.fresh ≤ h.fresh) : OldS h p := by
 rcases hs with h1 | ⟨b, n, rfl, h2, h3, h4, h5, h6⟩
 ·intro x hx;obtain ⟨k1, k2⟩ := h1.2 x hx;exact ⟨k1.imp id fun k => by omega, k2⟩
 ·intro x hx;cases hx;refine ⟨.inr ?_, rfl⟩;rcases Nat.lt_or_ge b h.fresh with k | k
  ·exact k
  ·have := hc b h2 k;rw [h6] at this; cases this
def ComG (H : AHeap) (g : Nat) (v : Value) (H' : AHeap) : Prop := ∃ p c, v = .slice p (dlen g) c ∧ ((H' = H ∧ SlAt H 1 i1 p (dg g) ∧ OldS H p) ∨ ∃ n, p = some ⟨H.fresh, 0, none⟩ ∧ g < 1000000000 ^ n ∧ n ≤ 1000 ∧ H' = H.add (.cells ((pw n g).map I) 1 false false))
theorem zqH {P : Program} {H h : AHeap} {lo c : Nat} {l : EL} {rs : Array ResultVar} {p : Option Addr} {g : Nat} (hc : Closed H) (hc' : Closed h) (hE : Ext H h) (hs : SrcG H h p g) (hr : resE l rs.toList = some [.slice p (dlen g) c]) : Fin P rs H (ComG H g) ⟨ofA l, [], ext h lo []⟩ := by
 have hg : ∀ b x, H.get b = some x → (ext h lo []).get b = some x := fun b x hx => zaj hc' (hE _ _ hx)
 rcases hs with ⟨h1, h2⟩ | ⟨b, n, rfl, h2, h3, h4, h5, h6⟩
 ·exact ⟨⟨_, _, _, H, rfl, zdD hr, zdz (H0 := H) (ys := []) (zeh hc hg (l := []) .nil (by simp) rfl (by simp)) (by exact h2.ren), p, c, rfl, .inl ⟨rfl, h1, h2⟩⟩⟩
 ·refine ⟨⟨_, _, .slice (some ⟨H.fresh, 0, none⟩) (dlen g) c, _, rfl, zdD hr, zf2 hc hg ⟨h2, h3⟩ (zaj hc' h6) zaY ?_, _, c, rfl, .inr ⟨n, rfl, h4, h5, rfl⟩⟩⟩;simp [packA, renV, zbw (H := H) ⟨h2, h3⟩]
structure ComK (H : AHeap) (g x y : Nat) (p q : Option Addr) (h : AHeap) : Prop where
 clo : Closed h
 ext : Ext H h
 fr : H.fresh ≤ h.fresh
 lx : dlen x ≤ 300
 ly : dlen y ≤ 300
 sa : SrcG H h p x
 sb : SrcG H h q y
 gcd : Nat.gcd x y = g
set_option maxHeartbeats 8000000 in
theorem zpx {H : AHeap} {p q : Option Addr} {c e x y : Nat} (hp : SlAt H 1 i1 p (dg x)) (hp' : OldS H p) (hq : SlAt H 1 i1 q (dg y)) (hq' : OldS H q) (ha : dlen x ≤ 300) (hb : dlen y ≤ 300) :
  CallT Tryz.prog 256 [.slice p (dlen x) c, .slice q (dlen y) e] H (ComG H (Nat.gcd x y)) := by
 refine zae Tryz.func256 rfl rfl rfl fun hc => ?_
 obtain ⟨g, hg⟩ : ∃ g, g = Nat.gcd x y := ⟨_, rfl⟩
 rw [← hg];refine zst ?_;apply zar
 refine zaA (α := Nat × Nat × (Option Addr × Nat) × (Option Addr × Nat) × AHeap × Nat) (fun s => [(0, .slice s.2.2.1.1 (dlen s.1) s.2.2.1.2), (1, .slice s.2.2.2.1.1 (dlen s.2.1) s.2.2.2.1.2)]) (fun s => ext s.2.2.2.2.1 s.2.2.2.2.2 []) (fun s => ComK H g s.1 s.2.1 s.2.2.1.1 s.2.2.2.1.1 s.2.2.2.2.1) (fun s => s.2.1) (fun s hJ ih => ?_) (x, y, (p, c), (q, e), H, H.fresh)
  ⟨hc, .refl _, Nat.le_refl _, ha, hb, .inl ⟨hp, hp'⟩, .inl ⟨hq, hq'⟩, hg.symm⟩ zsb (.refl _)
 obtain ⟨x, y, ⟨p, c⟩, ⟨q, e⟩, h, lo⟩ := s;have ih' := fun a' y' p' c' q' e' h' lo' h1 h2 => ih (a', y', (p', c'), (q', e'), h', lo') h1 h2
 simp only at hJ ih' ⊢;clear ih hp hp' hq hq' ha hb hg;have hE := zag hJ.clo (lo := lo) (L := []);by_cases hy : y = 0
 ·subst hy;have eg : x = g := by have := hJ.gcd; rwa [Nat.gcd_zero_right] at this
  subst eg;refine zst ?_;refine zq0 ?_;apply zaf;refine zah rfl (by rw [zaO]; rfl) ?_;apply zap;apply zaq; exact rfl;refine zst ?_;exact zqH hc hJ.clo hJ.ext hJ.sa rfl
 ·have sla := (hJ.sa.slAt hJ.ext).ext hE;have slb := (hJ.sb.slAt hJ.ext).ext hE;have hcl := hJ.clo;have hdy : dlen y ≠ 0 := fun h => hy (zbW.1 h)
  refine zst ?_;refine zq0 ?_;apply zaf;refine zam rfl (decide_eq_true (by omega)) ?_;rcases Nat.lt_or_ge x y with hlt | hge
  ·have cl := zps (c := c) (e := e) sla (hJ.sa.old hJ.clo hJ.fr).ext slb hlt hJ.ly;refine zst ?_;apply zac (ht := rfl); exact cl; exact rfl;refine zst ?_;exact zaN zsb (.refl _) (ih' y x q e p c h lo hlt ⟨hJ.clo, hJ.ext, hJ.fr, hJ.ly, hJ.lx, hJ.sb, hJ.sa, by rw [Nat.gcd_comm]; exact hJ.gcd⟩)
  ·obtain ⟨n1, n2, l1, l2, m1, m2, cd⟩ := zrJ (c := c) (e := e) sla slb hy hge hJ.lx;simp only [zal, za2] at cd;have hlt := Nat.mod_lt x (show 0 < y by omega);refine zst ?_;apply zac (ht := rfl); exact cd; exact rfl;refine zst ?_
   exact zaN zsb zbT (ih' y (x % y) q e (some ⟨nb h 1, 0, none⟩) n2 (ext h lo ([] ++ [some (.cells ((pw n1 (x / y)).map I) 1 false false)] ++ [some (.cells ((pw n2 (x % y)).map I) 1 false false)])) (min lo h.fresh) hlt ⟨zbp hcl, hJ.ext.trans (zag hcl), Nat.le_trans hJ.fr (by rw [zal]; exact zbf _), hJ.ly, Nat.le_trans (zaZ (Nat.le_of_lt hlt)) hJ.ly, hJ.sb.mono (zag hcl), .inr ⟨nb h 1, n2, rfl, zao.1 (zat 1), Nat.le_trans hJ.fr (zbf 1), l2, m2, zaa rfl⟩, by
    have := hJ.gcd;rw [Nat.gcd_comm, ← Nat.gcd_rec, Nat.gcd_comm]; exact this⟩)
open Go Go.Den Go.Lib
def dpad : Nat → Nat → List UInt8
 | 0, _ => []
 | w + 1, n => dpad w (n / 10) ++ [UInt8.ofNat (48 + n % 10)]
theorem zeX : ∀ w n, (dpad w n).length = w
 | 0, _ => rfl
 | w + 1, n => by simp [dpad, zeX w]
theorem zds : ∀ {w a b : Nat}, 1 ≤ a → b < 10 ^ w → decDigits (a * 10 ^ w + b) = decDigits a ++ dpad w b
 | 0, a, b, _, hb => by
  have : b = 0 := by simpa using hb
  subst this; simp [dpad]
 | w + 1, a, b, ha, hb => by
  have hP : 0 < 10 ^ w := Nat.pow_pos (by decide)
  have h1 : 10 ≤ a * 10 ^ (w + 1) + b := by
   have : 1 * 10 ^ (w + 1) ≤ a * 10 ^ (w + 1) := Nat.mul_le_mul_right _ ha;rw [Nat.pow_succ] at this ⊢;omega
  have e : a * 10 ^ (w + 1) = (a * 10 ^ w) * 10 := by rw [Nat.pow_succ, Nat.mul_assoc]
  rw [Nat.pow_succ] at hb;rw [decDigits, dif_neg (by omega), e];have e1 : (a * 10 ^ w * 10 + b) / 10 = a * 10 ^ w + b / 10 := by omega
  have e2 : (a * 10 ^ w * 10 + b) % 10 = b % 10 := by omega
  rw [e1, e2, zds ha (by omega), dpad, List.append_assoc]
theorem zlC : ∀ w n, (dpad w n).all isDig = true
 | 0, _ => rfl
 | w + 1, n => by
  rw [dpad, List.all_append, zlC w];simp only [List.all_cons, List.all_nil, Bool.and_true, Bool.true_and];rw [zce, zhX _ (Nat.mod_lt _ (by decide))];omega
theorem zlB : ∀ w n, n < 10 ^ w → valB (dpad w n) = (n : Int)
 | 0, n, h => by
  have : n = 0 := by simpa using h
  subst this; rfl
 | w + 1, n, h => by
  rw [Nat.pow_succ] at h;rw [dpad, zeu, zlB w (n / 10) (by omega), zhX _ (Nat.mod_lt _ (by decide))];omega
def nd (n : Nat) : Nat := if n = 0 then 0 else nd (n / 10) + 1
termination_by n
decreasing_by omega
theorem zit : nd 0 = 0 := by rw [nd]; rfl
theorem zhJ {n : Nat} (h : n ≠ 0) : nd n = nd (n / 10) + 1 := by rw [nd, if_neg h]
theorem zkB {n : Nat} (h : n ≠ 0) : dpad (nd n) n = decDigits n := by
 induction n using Nat.strongRecOn with
 | _ n ih =>
  rw [zhJ h, dpad];by_cases h1 : n / 10 = 0
  ·rw [h1, zit];have : n < 10 := by omega
   rw [decDigits, dif_pos this, Nat.mod_eq_of_lt this]; rfl
  ·rw [ih (n / 10) (by omega) h1]
   conv => rhs; rw [decDigits, dif_neg (by omega)]
theorem zoF {n k : Nat} : 0 < n / 10 ^ k ↔ k < nd n := by
 induction k generalizing n with
 | zero =>
  rw [Nat.pow_zero, Nat.div_one];by_cases h : n = 0
  ·subst h; rw [zit]
  ·rw [zhJ h]; omega
 | succ k ih =>
  rw [Nat.pow_succ, Nat.mul_comm, ← Nat.div_div_eq_div_mul, ih];by_cases h : n = 0
  ·subst h; rw [zit]; simp
  ·rw [zhJ h]; omega
theorem nd_le {n k : Nat} (h : n < 10 ^ k) : nd n ≤ k := by
 rcases Nat.lt_or_ge k (nd n) with h1 | h1
 ·have := zoF.2 h1;rw [Nat.div_eq_of_lt h] at this; omega
 ·exact h1
theorem zpk (k n : Nat) : dpad (k + 1) n = UInt8.ofNat (48 + n / 10 ^ k % 10) :: dpad k n := by
 induction k generalizing n with
 | zero => simp [dpad]
 | succ k ih =>
  rw [dpad, ih (n / 10), Nat.div_div_eq_div_mul, Nat.mul_comm, ← Nat.pow_succ]
  conv => rhs; rw [dpad]
  rfl
theorem pow9 (k : Nat) : 1000000000 ^ k = 10 ^ (9 * k) := by
 rw [Nat.pow_mul]
theorem zcP (v : Nat) : (decDigits v).length ≤ 9 * dlen v + 1 := by
 have h := zaD v;rw [pow9] at h;exact za8 v (9 * dlen v + 1) (Nat.lt_of_lt_of_le h (Nat.pow_le_pow_right (by decide) (by omega))) (by omega)
theorem dig_sub : ∀ d : Nat, d < 10 → (([48, 49, 50, 51, 52, 53, 54, 55, 56, 57] : List UInt8).take (d + 1)).drop d = [UInt8.ofNat (48 + d)] := by decide
theorem zhu {v i : Nat} (h : 1000000000 ^ (i + 1) ≤ v) : decDigits (v / 1000000000 ^ i) = decDigits (v / 1000000000 ^ (i + 1)) ++ dpad 9 (v / 1000000000 ^ i % 1000000000) := by
 have e : v / 1000000000 ^ (i + 1) = v / 1000000000 ^ i / 1000000000 := by rw [Nat.pow_succ, Nat.div_div_eq_div_mul]
 have h1 : 1 ≤ v / 1000000000 ^ (i + 1) := Nat.div_pos h (zaH _);rw [e] at h1 ⊢;have := zds (w := 9) (a := v / 1000000000 ^ i / 1000000000) (b := v / 1000000000 ^ i % 1000000000) h1 (Nat.mod_lt _ (by decide));rw [← this]
 congr 1
 have := Nat.div_add_mod (v / 1000000000 ^ i) 1000000000;have e2 : (10 : Nat) ^ 9 = 1000000000 := by decide
 rw [e2]; omega
theorem zqQ {P : Program} {l : EL} {h : AHeap} {t : TypeId} {x lo hi : Operand} {d : Nat} (hx : ev l x = some (.string (tx [48, 49, 50, 51, 52, 53, 54, 55, 56, 57]))) (h1 : ev l lo = some (.int .i64 (d : Int))) (h2 : ev l hi = some (.int .i64 ((d + 1 : Nat) : Int))) (hs : strOf P t = true) (hd : d < 10) :
  Does P l (.slice t x (some lo) (some hi) none) h (.string (tx [UInt8.ofNat (48 + d)])) h := by
 have := zhb (P := P) (h := h) (lo := some lo) (hi := some hi) (p := some (.int .i64 (d : Int))) (q := some (.int .i64 ((d + 1 : Nat) : Int))) (i := d) (j := d + 1) (m := 10) hx (by simp only [evO, h1]) (by simp only [evO, h2]) hs (b3_both (n := 10) (c := 10) (by omega) (by omega) (Nat.le_refl _))
 rwa [dig_sub d hd] at this
theorem zlE {P : Program} {l : EL} {h : AHeap} {x y : Operand} {t t' : TypeId} {a : Nat} (hx : ev l x = some (.int .i64 (a : Int))) (hy : ev l y = some (.int .i64 10)) : Does P l (.binOp .rem t x y t') h (.int .i64 ((a % 10 : Nat) : Int)) h :=
 zpm (b := 10) hx hy (by omega)
theorem zqP {P : Program} {l : EL} {h : AHeap} {x y : Operand} {t t' : TypeId} {a : Nat} (hx : ev l x = some (.int .i64 (a : Int))) (hy : ev l y = some (.int .i64 10)) (ha : a < 9223372036854775808) : Does P l (.binOp .quo t x y t') h (.int .i64 ((a / 10 : Nat) : Int)) h :=
 zrG (b := 10) hx hy ha (by omega)
set_option maxHeartbeats 8000000 in
theorem zdW {H : AHeap} {n least K : Nat} (hn : n < 9223372036854775808) (hl : least ≤ 100) (hK : K = max (nd n) least) :
  Ret Tryz.prog 138 [I n, I least] H (.string (tx (dpad K n))) H := by
 refine zae Tryz.func138 rfl rfl rfl fun hc => ?_
 have hnd : nd n ≤ 19 := nd_le (by omega);refine zst ?_;apply zar;refine zaA (α := Nat) (fun k => [(0, I ((n / 10 ^ k : Nat) : Int)), (1, I least), (5, .string (tx (dpad k n)))]) (fun _ => ext H H.fresh []) (fun k => k ≤ K) (fun k => K - k) (fun k hk ih => ?_) 0 (Nat.zero_le _) (by rw [Nat.pow_zero, Nat.div_one]; repeat (first | exact zbi | apply za0 rfl)) (.refl _);have hlen := zeX k n;have hm := zoF (n := n) (k := k);have hle := Nat.div_le_self n (10 ^ k);obtain ⟨m, hmd⟩ : ∃ m, m = n / 10 ^ k := ⟨_, rfl⟩
 have hmd2 : m % 10 < 10 := Nat.mod_lt _ (by decide);rw [← hmd] at hm hle ⊢;refine zst ?_;refine zq0 ?_;refine zs1 ?_;refine zrs (ds := []) (α := Bool) (fun B => [(0, I (m : Int)), (1, I least), (5, .string (tx (dpad k n))), (13, .bool B)]) (fun _ => ext H H.fresh []) (fun B => B = true ↔ k < K) ?_ ?_
 ·refine zan rfl rfl (fun u1 => ?_) (fun u1 => ?_)
  ·have u1 : 0 < m := by have := of_decide_eq_true u1; omega
   have := hm.1 u1;refine zst ?_;exact ziz true (by simp; omega) zsb rfl
  ·have u1 : ¬ 0 < m := by have := of_decide_eq_false u1; omega
   have u2 : ¬ k < nd n := fun h => u1 (hm.2 h)
   refine zst ?_;apply zay (hd := rfl) (hl := rfl); exact ziK rfl rfl rfl; exact rfl;refine zst ?_;refine zq1 ?_;refine zst ?_;rw [hlen];exact ziz (decide ((k : Int) < (least : Int))) (by rw [decide_eq_true_iff]; omega) zsb rfl
 ·rintro B hB
  cases B
  ·have hk2 : k = K := by
    have : ¬ k < K := fun h => by simpa using hB.2 h
    omega
   refine zah rfl rfl ?_;apply zap;apply zaq; exact rfl;refine zst ?_;rw [hk2];exact zab hc rfl rfl ⟨rfl, rfl⟩
  ·have hk2 := hB.1 rfl;refine zam rfl rfl ?_;have ih' := ih (k + 1) (by omega) (by omega);rw [zpk, Nat.pow_succ, ← Nat.div_div_eq_div_mul, ← hmd] at ih';refine zst ?_;apply zad; exact zlE rfl rfl; exact rfl;refine zst ?_;apply zad; exact zlE rfl rfl; exact rfl;refine zq4 ?_;apply zad; exact zqQ rfl rfl rfl rfl (by omega); exact rfl;refine zst ?_;refine zq44 ?_;refine zst ?_;apply zad; exact zqP rfl rfl (by omega); exact rfl;refine zst ?_;exact zaN zsb (.refl _) ih'
set_option maxHeartbeats 8000000 in
theorem zj3 {H : AHeap} {neg : Bool} {p : Option Addr} {c v : Nat} (hp : SlAt H 1 i1 p (dg v)) (hv : dlen v ≤ 1000) (hneg : neg = true → v ≠ 0) :
  Ret Tryz.prog 99 [intQ neg p (dlen v) c] H (.string (tx (ratN neg v))) H := by
 refine zae Tryz.func99 rfl rfl rfl fun hc => ?_
 by_cases h0 : v = 0
 ·subst h0
  have hn : neg = false := by cases neg with
   | false => rfl
   | true => exact absurd rfl (hneg rfl)
  subst hn;rw [zaO];have e : ratN false 0 = [48] := by decide +kernel
  rw [e];refine zst ?_;refine zq17 ?_;refine zst ?_;refine zq0 ?_;apply zaf;refine zam rfl rfl ?_;refine zst ?_;exact zab hc rfl rfl ⟨rfl, rfl⟩
 ·have hd0 : dlen v ≠ 0 := fun h => h0 (zbW.1 h)
  unfold dg at hp;have hpow := zio h0;have hlt := zaD v;obtain ⟨n, hn⟩ : ∃ n, dlen v = n + 1 := ⟨dlen v - 1, by omega⟩
  rw [hn] at hp hv hpow hlt ⊢;rw [Nat.add_sub_cancel] at hpow;have lp := zaK (n + 1) v;obtain ⟨b2, o2, cs2, z2, s2, ro2, rfl, hg2, hw2⟩ := hp.out (by intro e; rw [e] at lp; simp at lp);have htop1 : 1 ≤ v / 1000000000 ^ n := Nat.div_pos hpow (zaH _)
  have htop2 : v / 1000000000 ^ n < 1000000000 := by
   rw [Nat.div_lt_iff_lt_mul (zaH _)];rw [Nat.pow_succ, Nat.mul_comm] at hlt; exact hlt
  have ed : (v / 1000000000 ^ n % 1000000000) = v / 1000000000 ^ n := Nat.mod_eq_of_lt htop2;have cd1 := fun lo L => zdW (H := ext H lo L) (n := v / 1000000000 ^ n) (least := 1) (K := nd (v / 1000000000 ^ n)) (by omega) (by omega) (by have := zhJ (n := v / 1000000000 ^ n) (by omega); omega)
  rw [zkB (by omega)] at cd1;have cd9 := fun lo L i => zdW (H := ext H lo L) (n := v / 1000000000 ^ i % 1000000000) (least := 9) (K := 9) (by have := Nat.mod_lt (v / 1000000000 ^ i) (show 0 < 1000000000 by decide); omega) (by omega) (by have := nd_le (n := v / 1000000000 ^ i % 1000000000) (k := 9) (Nat.mod_lt _ (by decide)); omega)
  refine zst ?_;refine zq17 ?_;refine zst ?_;refine zq0 ?_;apply zaf;refine zah rfl (by simp; omega) ?_;refine zst ?_;refine zq17 ?_;refine zst ?_;refine zq17 ?_;refine zst ?_;apply zad; exact zcN rfl (by omega); exact rfl;refine zq2 ?_;refine zq42 ?_;rw [ed];apply zac (ht := rfl); exact cd1 _ _; exact rfl;refine zst ?_;refine zq17 ?_;refine zst ?_;refine zq27 ?_;refine zst ?_;apply zar;have e2 : ((n + 1 : Nat) : Int) - 2 = (n : Int) - 1 := by omega
  rw [e2];refine zaA (α := Nat) (fun r => [(1, .pointer (some ⟨nb H 0, 0, none⟩)), (3, .string (tx (decDigits (v / 1000000000 ^ r)))), (4, I ((r : Int) - 1))]) (fun _ => ext H H.fresh [some (.cells [.bool neg, .slice (some ⟨b2, o2, none⟩) (n + 1) c] 0 false false)]) (fun r => r ≤ n) (fun r => r) (fun r hr ih => ?_) n (Nat.le_refl _) zsb (.refl _);rcases Nat.eq_zero_or_pos r with hr0 | hr0
  ·subst hr0;rw [Nat.pow_zero, Nat.div_one];refine zst ?_;refine zq0 ?_;apply zaf;refine zah rfl (decide_eq_false (by omega)) ?_;have hbd := zcP v
   cases neg with
   | false =>
    apply zap;apply zaq; exact rfl;refine zst ?_;refine zq17 ?_;apply zaf;refine zah rfl rfl ?_;refine zst ?_
    exact zab hc rfl rfl ⟨rfl, rfl⟩
   | true =>
    apply zap;apply zaq; exact rfl;refine zst ?_;refine zq17 ?_;apply zaf;refine zam rfl rfl ?_;refine zst ?_;refine zq44 ?_;refine zst ?_;exact zab hc rfl rfl ⟨rfl, rfl⟩
  ·obtain ⟨i, rfl⟩ : ∃ i, r = i + 1 := ⟨r - 1, by omega⟩
   have e3 : ((i + 1 : Nat) : Int) - 1 = (i : Int) := by omega
   rw [e3];have ih' := ih i (by omega) (by omega);have hge : 1000000000 ^ (i + 1) ≤ v := Nat.le_trans (Nat.pow_le_pow_right (by decide) hr) hpow;rw [zhu hge] at ih'
   have hbd : (decDigits (v / 1000000000 ^ (i + 1))).length ≤ 10000 := by
    have h1 := zcP (v / 1000000000 ^ (i + 1));have h2 := zaZ (Nat.div_le_self v (1000000000 ^ (i + 1)));omega
   have hl9 := zeX 9 (v / 1000000000 ^ i % 1000000000);refine zst ?_;refine zq0 ?_;apply zaf;refine zam rfl (decide_eq_true (by omega)) ?_;refine zst ?_;refine zq17 ?_;refine zst ?_;refine zq2 ?_;refine zq42 ?_;apply zac (ht := rfl); exact cd9 _ _ _; exact rfl;apply zad; exact zeY rfl rfl (by rw [hl9]; omega); exact rfl;refine zst ?_;refine zq27 ?_;refine zst ?_;exact zaN zsb (.refl _) ih'
end Go.Proofs.YtlejimjgagfalaaGreatDoor
