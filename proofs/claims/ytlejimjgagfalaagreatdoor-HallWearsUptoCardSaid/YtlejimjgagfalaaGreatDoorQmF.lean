import Derived.Test.YtlejimjgagfalaaGreatDoorMeA
import Derived.Test.YtlejimjgagfalaaGreatDoorSmA
import Derived.Test.YtlejimjgagfalaaGreatDoorQlA
import Derived.Test.YtlejimjgagfalaaGreatDoorQmB
import Derived.Test.YtlejimjgagfalaaGreatDoorQaB
import Derived.Test.YtlejimjgagfalaaGreatDoorHaC
import Derived.Test.YtlejimjgagfalaaGreatDoorStA
import Derived.Test.YtlejimjgagfalaaGreatDoorStC
import Derived.Test.YtlejimjgagfalaaGreatDoorOpA
import Derived.Test.YtlejimjgagfalaaGreatDoorShC
noncomputable section
namespace Go.Proofs.YtlejimjgagfalaaGreatDoor
open Go Go.Den
set_option maxRecDepth 100000
theorem zez {H : AHeap} {neg s : Bool} {b n c v : Nat} (hb : H.get b = some (.cells ((pw n v).map I) 1 s false)) (hlt : OldS H (some ⟨b, 0, none⟩)) (hv : v < 1000000000 ^ n) (hc : n ≤ c) (hn : n ≤ 2000) :
  Ret Tryz.prog 139 [.bool neg, .slice (some ⟨b, 0, none⟩) (dlen v) c] H (intQ (neg && decide (0 < v)) (some ⟨b, 0, none⟩) (dlen v) c) H := by
 have hs := (zaB (g := I) (l := pw n v) hb).take (dlen v);rw [zfa hv] at hs;have hd := za3 hv;have h := zey (neg := neg) (c := c) hs hlt ⟨by rw [zaQ]; omega, (fun e => by cases e), (fun _ e => by cases e; rfl)⟩ (by rw [zaQ]; omega);rw [zaQ, zia] at h
 have e : decide (0 < dlen v) = decide (0 < v) := by
  rw [decide_eq_decide];have := zbW (v := v);omega
 rwa [e] at h
set_option maxHeartbeats 4000000 in
theorem zew {H : AHeap} {p q : Option Addr} {c e x y : Nat} {ng ng' : Bool} (hp : SlAt H 1 i1 p (dg x)) (hq : SlAt H 1 i1 q (dg y)) (ha : dlen x ≤ 400) (hb : dlen y ≤ 400) :
  Ret Tryz.prog 228 [intQ ng p (dlen x) c, intQ ng' q (dlen y) e] H (intQ ((ng != ng') && decide (0 < x * y)) (some ⟨H.fresh, 0, none⟩) (dlen (x * y)) (dlen x + dlen y)) (H.add (.cells ((pw (dlen x + dlen y) (x * y)).map I) 1 false false)) := by
 refine zae Tryz.func228 rfl rfl rfl fun hc => ?_
 have hxy : x * y < 1000000000 ^ (dlen x + dlen y) := by
  rw [zbl]; exact Nat.mul_lt_mul'' (zaD x) (zaD y)
 have cm := fun lo L => zej (H := ext H lo L) (c := c) (e := e) (la := dlen x) (lb := dlen y) (x := x) (y := y) (hp.ext (zag hc)) (hq.ext (zag hc)) (zaD x) (zaD y) ha hb
 have cs := fun lo (L : List (Option ABlk)) (k : Nat) (hk : L[k]? = some (some (.cells ((pw (dlen x + dlen y) (x * y)).map I) 1 false false))) => zez (H := ext H lo L) (neg := (ng != ng')) (b := nb H k) (c := dlen x + dlen y) (zaa hk) (OldS.new (List.getElem?_eq_some_iff.1 hk).1) hxy (Nat.le_refl _) (by omega)
 refine zst ?_;apply zax (by assumption); decide +kernel;refine zq12 ?_;refine zq13 ?_;refine zq12 ?_;refine zq13 ?_;apply zau (hfree := rfl); intro _; exact zrH rfl rfl trivial rfl; exact rfl;refine zq12 ?_;refine zq13 ?_;refine zq12 ?_;refine zq13 ?_;refine zbk (v := fun b => .slice (some ⟨b, 0, none⟩) (dlen (x * y)) (dlen x + dlen y)) rfl rfl (by decide +kernel) (cm _ _) rfl ?_;apply zbc (ht := rfl) (hw := rfl); decide +kernel; exact cs _ _ 3 rfl; exact rfl;refine zcV (k := 2) rfl (by decide +kernel) hc (by simp) (zav rfl rfl (zaa rfl) rfl rfl (zat _)) ?_;apply zaz;apply zaV;exact zdn (vs := [intQ ((ng != ng') && decide (0 < x * y)) (some ⟨nb H 3, 0, none⟩) (dlen (x * y)) (dlen x + dlen y)]) (k := 3) hc (zbG rfl rfl (zaa rfl) rfl rfl) rfl zaY zdh ⟨rfl, rfl⟩
def NewI (H : AHeap) (f : FuncId) (args : List Value) (neg : Bool) (v : Nat) : Prop :=
 (v = 0 ∧ Ret Tryz.prog f args H (intQ false none 0 0) H) ∨ ∃ n c s, v < 1000000000 ^ n ∧ n ≤ c ∧ n ≤ 1000 ∧ Ret Tryz.prog f args H (intQ (neg && decide (0 < v)) (some ⟨H.fresh, 0, none⟩) (dlen v) c) (H.add (.cells ((pw n v).map I) 1 s false))
set_option maxHeartbeats 8000000 in
theorem zmM {H : AHeap} {p q : Option Addr} {c e x y : Nat} {ng : Bool} (hp : SlAt H 1 i1 p (dg x)) (hq : SlAt H 1 i1 q (dg y)) (ha : dlen x ≤ 900) (hb : dlen y ≤ 900) :
  NewI H 261 [intQ ng p (dlen x) c, intQ ng q (dlen y) e] ng (x + y) := by
 have hd := ziM ha hb;have ca := fun lo L (hc : Closed H) => zkO (H := ext H lo L) (c := c) (e := e) (hp.ext (zag hc)) (hq.ext (zag hc)) (by omega) (by omega)
 have eb : (ng == ng) = true := by simp
 by_cases h0 : x + y = 0
 ·refine .inl ⟨h0, ?_⟩;rw [h0, zer] at ca;refine zae Tryz.func261 rfl rfl rfl fun hc => ?_
  have cs := fun lo L => zey (H := ext H lo L) (neg := ng) (q := none) (c := 0) (l := []) SlAt.nil (by intro x hx; cases hx) ⟨Nat.le_refl _, (fun _ => ⟨rfl, rfl⟩), (fun _ e => by cases e)⟩ (by simp)
  have en : (ng && decide (0 < trimN [])) = false := by simp [trimN, trimAt]
  rw [en] at cs;have ca' := fun lo L => ca lo L hc
  refine zst ?_;refine zq17 ?_;refine zst ?_;refine zq17 ?_;apply zad; exact zdU rfl rfl trivial rfl; exact rfl;rw [eb];apply zaf;refine zam rfl rfl ?_;apply zcj;apply zax (by assumption); decide +kernel;refine zq12 ?_;refine zq13 ?_;refine zq12 ?_;refine zq13 ?_;refine zq12 ?_;refine zq13 ?_;apply zaC (ht := rfl); exact ca' _ _; exact rfl;apply zaC (ht := rfl); exact cs _ _; exact rfl;refine zcV (k := 2) rfl (by decide +kernel) hc (by simp) (zav rfl rfl (zaa rfl) rfl rfl (zat _)) ?_;apply zaz;apply zaV;exact zdN hc (zbG rfl rfl (zaa rfl) rfl rfl) rfl ⟨rfl, rfl⟩
 ·refine .inr ⟨dlen (x + y), dlen (x + y), true, zaD _, Nat.le_refl _, by omega, ?_⟩
  have hne : dg (x + y) ≠ [] := by
   intro h;have := zaQ (x + y);rw [h] at this;exact h0 (zbW.1 this.symm)
  obtain ⟨d0, dr, edg⟩ := List.exists_cons_of_ne_nil hne
  have eV : ∀ b, lstV b (dg (x + y)) = .slice (some ⟨b, 0, none⟩) (dlen (x + y)) (dlen (x + y)) := fun b => by
   have := zaQ (x + y);unfold lstV;rw [this, edg]; rfl
  have eH : ∀ h, lstH h 1 i1 (dg (x + y)) = h.add (.cells ((pw (dlen (x + y)) (x + y)).map I) 1 true false) := fun h => by
   have : (pw (dlen (x + y)) (x + y)).map I = (dg (x + y)).flatMap i1 := by rw [flatI1]; rfl
   rw [this, edg]; rfl
  simp only [eV, eH] at ca;refine zae Tryz.func261 rfl rfl rfl fun hc => ?_
  have ca' := fun lo L => ca lo L hc
  have cs := fun lo (L : List (Option ABlk)) (k : Nat) (hk : L[k]? = some (some (.cells ((pw (dlen (x + y)) (x + y)).map I) 1 true false))) => zez (H := ext H lo L) (neg := ng) (b := nb H k) (c := dlen (x + y)) (zaa hk) (OldS.new (List.getElem?_eq_some_iff.1 hk).1) (zaD _) (Nat.le_refl _) (by omega)
  refine zst ?_;refine zq17 ?_;refine zst ?_;refine zq17 ?_;apply zad; exact zdU rfl rfl trivial rfl; exact rfl;rw [eb];apply zaf;refine zam rfl rfl ?_;apply zcj;apply zax (by assumption); decide +kernel;refine zq12 ?_;refine zq13 ?_;refine zq12 ?_;refine zq13 ?_;refine zq12 ?_;refine zq13 ?_;refine zbk (v := fun b => .slice (some ⟨b, 0, none⟩) (dlen (x + y)) (dlen (x + y))) rfl rfl (by decide +kernel) (ca' _ _) rfl ?_;apply zbc (ht := rfl) (hw := rfl); decide +kernel; exact cs _ _ 3 rfl; exact rfl;refine zcV (k := 2) rfl (by decide +kernel) hc (by simp) (zav rfl rfl (zaa rfl) rfl rfl (zat _)) ?_;apply zaz;apply zaV;exact zdn (vs := [intQ (ng && decide (0 < x + y)) (some ⟨nb H 3, 0, none⟩) (dlen (x + y)) (dlen (x + y))]) (k := 3) hc (zbG rfl rfl (zaa rfl) rfl rfl) rfl zaY zdh ⟨rfl, rfl⟩
set_option maxHeartbeats 8000000 in
theorem zmN {H : AHeap} {p q : Option Addr} {c e x y : Nat} {ng : Bool} (hp : SlAt H 1 i1 p (dg x)) (hq : SlAt H 1 i1 q (dg y)) (hle : y ≤ x) (h0 : x ≠ 0) (ha : dlen x ≤ 900) :
  NewI H 261 [intQ ng p (dlen x) c, intQ (!ng) q (dlen y) e] ng (x - y) := by
 have hxy : x - y < 1000000000 ^ dlen x := Nat.lt_of_le_of_lt (Nat.sub_le _ _) (zaD x);have hdy := zaZ hle;refine .inr ⟨dlen x, dlen x, true, hxy, Nat.le_refl _, by omega, ?_⟩;refine zae Tryz.func261 rfl rfl rfl fun hc => ?_
 have eb : (ng == !ng) = false := by cases ng <;> rfl
 have cc := fun lo L => zbB (H := ext H lo L) (c := c) (e := e) (hp.ext (zag hc)) (hq.ext (zag hc)) (by rw [zaQ]; omega) (by rw [zaQ]; omega)
 rw [zaQ, zaQ, zhh, if_neg (by omega)] at cc;have cb := fun lo L => zgs (H := ext H lo L) (c := c) (e := e) (hp.ext (zag hc)) (hq.ext (zag hc)) hle h0 (by omega)
 have cs := fun lo (L : List (Option ABlk)) (k : Nat) (hk : L[k]? = some (some (.cells ((pw (dlen x) (x - y)).map I) 1 true false))) => zez (H := ext H lo L) (neg := ng) (b := nb H k) (c := dlen x) (zaa hk) (OldS.new (List.getElem?_eq_some_iff.1 hk).1) hxy (Nat.le_refl _) (by omega)
 refine zst ?_;refine zq17 ?_;refine zst ?_;refine zq17 ?_;apply zad; exact zdU rfl rfl trivial rfl; exact rfl;rw [eb];apply zaf;refine zah rfl rfl ?_;refine zst ?_;refine zq17 ?_;refine zst ?_;refine zq17 ?_;apply zac (ht := rfl); exact cc _ _; exact rfl;refine zq0 ?_;apply zaf;refine zam rfl (by split <;> rfl) ?_;apply zcj;apply zax (by assumption); decide +kernel;refine zq12 ?_;refine zq13 ?_;refine zq12 ?_;refine zq13 ?_;refine zq12 ?_;refine zq13 ?_;refine zbk (v := fun b => .slice (some ⟨b, 0, none⟩) (dlen (x - y)) (dlen x)) rfl rfl (by decide +kernel) (cb _ _) rfl ?_;apply zbc (ht := rfl) (hw := rfl); decide +kernel; exact cs _ _ 3 rfl; exact rfl;refine zcV (k := 2) rfl (by decide +kernel) hc (by simp) (zav rfl rfl (zaa rfl) rfl rfl (zat _)) ?_;apply zaz;apply zaV;exact zdn (vs := [intQ (ng && decide (0 < x - y)) (some ⟨nb H 3, 0, none⟩) (dlen (x - y)) (dlen x)]) (k := 3) hc (zbG rfl rfl (zaa rfl) rfl rfl) rfl zaY zdh ⟨rfl, rfl⟩
set_option maxHeartbeats 8000000 in
theorem zmO {H : AHeap} {p q : Option Addr} {c e x y : Nat} {ng : Bool} (hp : SlAt H 1 i1 p (dg x)) (hq : SlAt H 1 i1 q (dg y)) (hlt : x < y) (hb : dlen y ≤ 900) :
  NewI H 261 [intQ (!ng) p (dlen x) c, intQ ng q (dlen y) e] ng (y - x) := by
 have hxy : y - x < 1000000000 ^ dlen y := Nat.lt_of_le_of_lt (Nat.sub_le _ _) (zaD y);have hdy := zaZ (Nat.le_of_lt hlt);refine .inr ⟨dlen y, dlen y, true, hxy, Nat.le_refl _, by omega, ?_⟩;refine zae Tryz.func261 rfl rfl rfl fun hc => ?_
 have eb : ((!ng) == ng) = false := by cases ng <;> rfl
 have cc := fun lo L => zbB (H := ext H lo L) (c := c) (e := e) (hp.ext (zag hc)) (hq.ext (zag hc)) (by rw [zaQ]; omega) (by rw [zaQ]; omega)
 rw [zaQ, zaQ, zhh, if_pos hlt] at cc;have cb := fun lo L => zgs (H := ext H lo L) (c := e) (e := c) (hq.ext (zag hc)) (hp.ext (zag hc)) (Nat.le_of_lt hlt) (by omega) (by omega)
 have cs := fun lo (L : List (Option ABlk)) (k : Nat) (hk : L[k]? = some (some (.cells ((pw (dlen y) (y - x)).map I) 1 true false))) => zez (H := ext H lo L) (neg := ng) (b := nb H k) (c := dlen y) (zaa hk) (OldS.new (List.getElem?_eq_some_iff.1 hk).1) hxy (Nat.le_refl _) (by omega)
 refine zst ?_;refine zq17 ?_;refine zst ?_;refine zq17 ?_;apply zad; exact zdU rfl rfl trivial rfl; exact rfl;rw [eb];apply zaf;refine zah rfl rfl ?_;refine zst ?_;refine zq17 ?_;refine zst ?_;refine zq17 ?_;apply zac (ht := rfl); exact cc _ _; exact rfl;refine zq0 ?_;apply zaf;refine zah rfl rfl ?_;refine zst ?_;apply zax (by assumption); decide +kernel;refine zq12 ?_;refine zq13 ?_;refine zq12 ?_;refine zq13 ?_;refine zq12 ?_;refine zq13 ?_;refine zbk (v := fun b => .slice (some ⟨b, 0, none⟩) (dlen (y - x)) (dlen y)) rfl rfl (by decide +kernel) (cb _ _) rfl ?_;apply zbc (ht := rfl) (hw := rfl); decide +kernel; exact cs _ _ 3 rfl; exact rfl;refine zcV (k := 2) rfl (by decide +kernel) hc (by simp) (zav rfl rfl (zaa rfl) rfl rfl (zat _)) ?_;apply zaz;apply zaV;exact zdn (vs := [intQ (ng && decide (0 < y - x)) (some ⟨nb H 3, 0, none⟩) (dlen (y - x)) (dlen y)]) (k := 3) hc (zbG rfl rfl (zaa rfl) rfl rfl) rfl zaY zdh ⟨rfl, rfl⟩
open Go Go.Den Go.Lib
structure NumG (s : List UInt8) (neg : Bool) (u : Nat) : Prop where
 pos : 0 < s.length
 neg_ : (((s[0]'pos).toNat : Int) == 45) = neg
 cut : (if neg = true then s.drop 1 else s) = Lib.decDigits u
theorem zjg (neg : Bool) (u : Nat) : NumG (ratN neg u) neg u := by
 have hp := zbY u
 cases neg with
 | true => exact ⟨by simp [ratN], rfl, by simp [ratN]⟩
 | false =>
  refine ⟨by simp [ratN]; omega, ?_, by simp [ratN]⟩;have := (zcS u (by omega)).1;simp only [ratN, Bool.false_eq_true, if_false];rw [beq_eq_false_iff_ne]; omega
def ml (u : Nat) : Nat := max 1 (dlen u)
theorem ml_lt (u : Nat) : u < 1000000000 ^ ml u := Nat.lt_of_lt_of_le (zaD u) (Nat.pow_le_pow_right (by decide) (by unfold ml; omega))
theorem zpv {x : Nat} (h : 1000000000 ≤ x) : (decDigits x).drop ((decDigits x).length - 9) = dpad 9 (x % 1000000000) ∧ (decDigits x).take ((decDigits x).length - 9) = decDigits (x / 1000000000) ∧ 9 < (decDigits x).length := by
 have e := zds (w := 9) (a := x / 1000000000) (b := x % 1000000000) (by omega) (Nat.mod_lt _ (by decide))
 have e2 : x / 1000000000 * 10 ^ 9 + x % 1000000000 = x := by
  have : (10 : Nat) ^ 9 = 1000000000 := by decide
  rw [this]; omega
 rw [e2] at e;have hl := zeX 9 (x % 1000000000);have hp := zbY (x / 1000000000);have hlen : (decDigits x).length = (decDigits (x / 1000000000)).length + 9 := by rw [e, List.length_append, hl]
 refine ⟨?_, ?_, by omega⟩
 ·rw [hlen, Nat.add_sub_cancel]
  conv => lhs; rw [e]
  rw [List.drop_left]
 ·rw [hlen, Nat.add_sub_cancel]
  conv => lhs; rw [e]
  rw [List.take_left]
theorem zpu {x : Nat} (h : x < 1000000000) : (decDigits x).length ≤ 9 := za8 x 9 (by omega) (by omega)
set_option maxHeartbeats 8000000 in
theorem zlg {H : AHeap} {s : List UInt8} {neg : Bool} {u : Nat} (h : NumG s neg u) (hlen : s.length ≤ 10000) (hu : dlen u ≤ 1000) :
  Ret Tryz.prog 254 [.string (tx s)] H (intQ (neg && decide (0 < u)) (some ⟨H.fresh, 0, none⟩) (dlen u) (ml u)) (H.add (.cells ((pw (ml u) u).map I) 1 true false)) := by
 refine zae Tryz.func254 rfl rfl rfl fun hc => ?_
 have h0 := h.pos;have e0 : decide ((s.length : Int) > 0) = true := decide_eq_true (by omega);have e1 : (((s[0]'h0).toNat : Int) == 45) = neg := h.neg_;have ecut := h.cut
 have hDl : (decDigits u).length ≤ 10000 := by
  rw [← ecut];split
  ·rw [List.length_drop]; omega
  ·exact hlen
 clear h;refine zst ?_;refine zq9 ?_;refine zq0 ?_;refine zs1 ?_;rw [e0];refine zst ?_;apply zay (hd := rfl) (hl := rfl); exact zdT rfl rfl rfl (by exact zb7 (by omega)) (by omega); exact rfl;refine zq1 ?_;(iterate 8 (refine zs1 ?_));rw [e1]
 skip;refine ct_J [(0, .string (tx (decDigits u))), (2, .pointer (some ⟨nb H 0, 0, none⟩)), (3, .bool neg)] (ds := []) (h := ext H H.fresh [some (.cells [.bool false, .slice none 0 0] 0 false false)]) ?_ ?_
 ·refine zai rfl (fun u1 => ?_) (fun u1 => ?_)
  ·subst u1;rw [if_pos rfl] at ecut;refine zst ?_;apply zad; exact zct 1 rfl rfl rfl rfl (by omega); exact rfl;rw [ecut];refine zst ?_;exact zaP zsb
  ·subst u1;rw [if_neg (by simp)] at ecut;subst ecut;apply zbb;exact zaP zsb
 refine zst ?_;apply zar;refine zaA (α := Nat × Value × List (Option ABlk)) (fun s => [(0, .string (tx (decDigits (u / 1000000000 ^ s.1)))), (2, .pointer (some ⟨nb H 0, 0, none⟩)), (3, .bool neg), (4, s.2.1)]) (fun s => ext H H.fresh s.2.2) (fun s => s.1 < ml u ∧ s.2.2[0]? = some (some (.cells [.bool false, .slice none 0 0] 0 false false)) ∧ Lst H s.2.2 1 i1 1 s.2.1 (pw s.1 u)) (fun s => ml u - s.1) (fun s hJ ih => ?_) (0, .slice none 0 0, [some (.cells [.bool false, .slice none 0 0] 0 false false)]) ⟨by unfold ml; omega, rfl, Lst.nil⟩ (by rw [Nat.pow_zero, Nat.div_one]; repeat (first | exact zbi | apply za0 rfl)) (.refl _);obtain ⟨i, v, L⟩ := s;obtain ⟨hi, hL0, hv⟩ := hJ;simp only at hi hL0 hv ih ⊢;have ih' := fun i' v' L' a1 a2 => ih (i', v', L') a1 a2
 simp only at ih';clear ih e0 e1 ecut h0;have hlen0 : 0 < L.length := (List.getElem?_eq_some_iff.1 hL0).1;have hml : ml u ≤ 1000 := by unfold ml; omega
 obtain ⟨x, hx⟩ : ∃ x, x = u / 1000000000 ^ i := ⟨_, rfl⟩
 have hxs : u / 1000000000 ^ (i + 1) = x / 1000000000 := by rw [hx, Nat.pow_succ, Nat.div_div_eq_div_mul]
 have hxl : (decDigits x).length ≤ 10000 := by
  have h1 := zcP x;have h2 := zaZ (Nat.div_le_self u (1000000000 ^ i));rw [← hx] at h2;omega
 have esn : pw i u ++ [((x % 1000000000 : Nat) : Int)] = pw (i + 1) u := by rw [zdG, hx]
 rw [← hx];rcases Nat.lt_or_ge x 1000000000 with hlt | hge
 ·have h9 := zpu hlt;have e2 : decide (((decDigits x).length : Int) > 9) = false := decide_eq_false (by omega);have hdd := za9 x;have hvx := zbX x;rw [Nat.mod_eq_of_lt hlt] at esn
  have hi1 : i + 1 = ml u := by
   have : u < 1000000000 ^ (i + 1) := by
    have := Nat.div_lt_iff_lt_mul (x := u) (y := 1000000000) (k := 1000000000 ^ i) (zaH i);rw [Nat.pow_succ, Nat.mul_comm];exact this.1 (by rw [← hx]; exact hlt)
   have := za3 this;unfold ml at hi ⊢;omega
  refine zst ?_;refine zq9 ?_;refine zq0 ?_;apply zaf;refine zah rfl e2 ?_;apply zap;apply zaq; exact rfl;refine zst ?_;apply zac (ht := rfl); exact zh9 (by omega) (by assumption); exact rfl;refine zq19 ?_;rw [hvx];refine zbP (f := i1) (m := 1) (xs := [(x : Int)]) (k0 := 1) hc (hv.app _) (by simp) (fun _ => rfl) (fun _ => rfl) rfl rfl rfl rfl rfl rfl (zaa List.getElem?_concat_length) rfl (by simp) (by show (2 * ((pw i u).length + 1) + 1000) * 8 ≤ 2 ^ 48; rw [zaK]; omega) (Nat.ne_of_beq_eq_false rfl) (Nat.ne_of_beq_eq_false rfl) rfl (fun v' L3 hv' hst3 hlen3 => ?_);rw [esn, hi1] at hv';have hll := zaK (ml u) u;rcases hv'.out with ⟨e, _⟩ | ⟨_, kk, hk1, rfl, hkL⟩
  ·rw [e] at hll; simp at hll; omega
  have f0 : L3[0]? = some (some (.cells [.bool false, .slice none 0 0] 0 false false)) := hst3 0 _ (by omega) (getApp hL0);have fl : 0 < L3.length := (List.getElem?_eq_some_iff.1 f0).1;rw [flatI1] at hkL;have sg := fun lo (L : List (Option ABlk)) (hk : L[kk]? = some (some (.cells ((pw (ml u) u).map I) 1 true false))) => zey (H := ext H lo L) (neg := neg) (q := some ⟨nb H kk, 0, none⟩) (c := ml u) (l := pw (ml u) u) (zaB (g := I) (zaa hk)) (OldS.new (List.getElem?_eq_some_iff.1 hk).1) ⟨by rw [zaK]; exact Nat.le_refl _, (fun e => by cases e), (fun _ e => by cases e; rfl)⟩ (by rw [zaK]; omega)
  have ez : decide (0 < dlen u) = decide (0 < u) := by
   rw [decide_eq_decide];have := zbW (v := u);omega
  simp only [zaK, zck (ml_lt u), ez] at sg;rw [hll];apply zac (ht := rfl); exact sg _ _ hkL; exact rfl;refine za7 (k := 0) hc fl (zav rfl rfl (zaa f0) rfl rfl (zat _)) (fun L4 l4 o4 k4 => ?_);apply zaV;exact zdn (vs := [intQ (neg && decide (0 < u)) (some ⟨nb H kk, 0, none⟩) (dlen u) (ml u)]) (k := kk) hc (zbG rfl rfl (zaa k4) rfl rfl) ((o4 kk (by omega)).trans hkL) zaY zdh ⟨rfl, rfl⟩
 ·obtain ⟨p1, p2, p3⟩ := zpv hge;have e2 : decide (((decDigits x).length : Int) > 9) = true := decide_eq_true (by omega);have d1 := zlC 9 (x % 1000000000);have l1 := zeX 9 (x % 1000000000);have v1 := zlB 9 (x % 1000000000) (Nat.mod_lt _ (by decide))
  have hi1 : i + 1 < ml u := by
   have h1 : 1000000000 ^ (i + 1) ≤ u := by
    rw [Nat.pow_succ, Nat.mul_comm];have h2 : 1000000000 ≤ u / 1000000000 ^ i := by rw [← hx]; exact hge
    exact (Nat.le_div_iff_mul_le (zaH i)).1 h2
   have := ziL h1;unfold ml; omega
  refine zst ?_;refine zq9 ?_;refine zq0 ?_;apply zaf;refine zam rfl e2 ?_;refine zst ?_;refine zq9 ?_;refine zq27 ?_;apply zad; exact zct ((decDigits x).length - 9) rfl rfl rfl (by omega) (by omega); exact rfl;rw [p1];apply zac (ht := rfl); exact zh9 (by omega) (by assumption); exact rfl;refine zq19 ?_;rw [v1];refine zbP (f := i1) (m := 1) (xs := [((x % 1000000000 : Nat) : Int)]) (k0 := 1) hc (hv.app _) (by simp) (fun _ => rfl) (fun _ => rfl) rfl rfl rfl rfl rfl rfl (zaa List.getElem?_concat_length) rfl (by simp) (by show (2 * ((pw i u).length + 1) + 1000) * 8 ≤ 2 ^ 48; rw [zaK]; omega) (Nat.ne_of_beq_eq_false rfl) (Nat.ne_of_beq_eq_false rfl) rfl (fun v' L3 hv' hst3 hlen3 => ?_);rw [esn] at hv';have f0 : L3[0]? = some (some (.cells [.bool false, .slice none 0 0] 0 false false)) := hst3 0 _ (by omega) (getApp hL0);have ih2 := ih' (i + 1) v' L3 (by omega) ⟨hi1, f0, hv'⟩;rw [hxs] at ih2;refine zst ?_;refine zq9 ?_;refine zq27 ?_;apply zad; exact ziH ((decDigits x).length - 9) rfl rfl rfl (by omega) (by omega); exact rfl;rw [p2];refine zst ?_;exact zaN zsb (.refl _) ih2
abbrev mB (u : Nat) : ABlk := .cells ((pw (ml u) u).map I) 1 true false
theorem zdF (neg : Bool) {u : Nat} (hu : dlen u ≤ 1000) : (ratN neg u).length ≤ 10000 := by
 have := zcP u;unfold ratN;split
 ·rw [List.length_cons]; omega
 ·omega
set_option maxHeartbeats 4000000 in
theorem zeL {H : AHeap} {neg : Bool} {u d : Nat} (hu : dlen u ≤ 1000) (hd : dlen d ≤ 1000) (hd1 : 1 ≤ d) :
  Ret Tryz.prog 224 [.string (tx (ratQ neg u d))] H (.tuple ⟨[intQ (neg && decide (0 < u)) (some ⟨H.fresh, 0, none⟩) (dlen u) (ml u), intQ false (some ⟨H.fresh + 2, 0, none⟩) (dlen d) (ml d)]⟩) ((H.add (mB u)).add (mB d)) := by
 refine zae Tryz.func224 rfl rfl rfl fun hc => ?_
 have hS := zd3 neg u d;have hL := zdF neg hu;have hLd := zdF false hd;have hLd2 : (Lib.decDigits d).length ≤ 10000 := hLd;have cp := fun lo L => zlg (H := ext H lo L) (zjg neg u) hL hu
 have cw := fun lo L => zpL (H := ext H lo L)
 have cd := fun lo L => zlg (H := ext H lo L) (zjg false d) hLd hd
 by_cases h1 : d = 1
 ·subst h1;rw [zeG] at hS ⊢;simp only [zal, za2] at cp cw
  have m1 : mB 1 = .cells [I 1] 1 true false := by
   unfold mB ml;rw [ze3 (by decide) (by decide)]; rfl
  have m2 : ml 1 = 1 := by unfold ml; rw [ze3 (by decide) (by decide)]; rfl
  rw [m1, m2, ze3 (show 1 ≠ 0 by decide) (by decide)];refine zst ?_;apply zac (ht := rfl); exact zj6 (by omega); exact rfl;refine zst ?_;refine zq9 ?_;refine zq0 ?_;apply zaf;rw [hS];refine zam rfl (by simp) ?_;refine zst ?_;apply zac (ht := rfl); exact cp _ _; exact rfl
  skip;apply zac (ht := rfl); exact cw _ _; exact rfl;refine zq32 ?_;refine zq29 ?_;apply zaV;exact zlx (vs := [intQ (neg && decide (0 < u)) (some ⟨nb H 2, 0, none⟩) (dlen u) (ml u), intQ false (some ⟨nb H 3, 0, none⟩) 1 1]) (j := 2) (k := 3) hc (zjb rfl rfl (zaa rfl) rfl rfl rfl (zaa rfl) rfl rfl) rfl rfl (by decide) zaY rfl (zk3 (by decide)) ⟨rfl, rfl⟩
 ·rw [zc4 neg u h1] at hS ⊢;have hl : (ratN neg u ++ 47 :: Lib.decDigits d).length = (ratN neg u).length + 1 + (Lib.decDigits d).length := by simp; omega
  have et : (ratN neg u ++ 47 :: Lib.decDigits d).take (ratN neg u).length = ratN neg u := by simp
  have ed : (ratN neg u ++ 47 :: Lib.decDigits d).drop ((ratN neg u).length + 1) = ratN false d := by
   rw [← List.drop_drop]; simp [ratN]
  obtain ⟨s, hs⟩ : ∃ s, s = ratN neg u ++ 47 :: Lib.decDigits d := ⟨_, rfl⟩
  rw [← hs] at hS hl et ed ⊢;refine zst ?_;apply zac (ht := rfl); exact zj6 (by omega); exact rfl;refine zst ?_;refine zq9 ?_;refine zq0 ?_;apply zaf;rw [hS];refine zah rfl (by simp; omega) ?_;refine zst ?_;apply zax (by assumption); decide +kernel;(iterate 2 (refine zq5 ?_));apply zaS (hfree := rfl); exact ziH (ratN neg u).length rfl rfl rfl rfl (by omega); exact rfl;rw [et];refine zbk (v := fun b => intQ (neg && decide (0 < u)) (some ⟨b, 0, none⟩) (dlen u) (ml u)) rfl rfl (by decide +kernel) (cp _ _) rfl ?_;(iterate 2 (refine zq5 ?_));apply zau (hfree := rfl); intro _; exact zpl rfl (by omega); exact rfl;apply zaS (hfree := rfl); exact zct ((ratN neg u).length + 1) rfl rfl rfl (by omega) (by omega); exact rfl;rw [ed];refine zbk (v := fun b => intQ (false && decide (0 < d)) (some ⟨b, 0, none⟩) (dlen d) (ml d)) rfl rfl (by decide +kernel) (cd _ _) rfl ?_
  skip;refine zcV (k := 0) rfl (by decide +kernel) hc (by simp) (zav rfl rfl (zaa rfl) rfl rfl (zat _)) ?_;refine zcV (k := 1) rfl (by decide +kernel) hc (by simp) (zav rfl rfl (zaa rfl) rfl rfl (zat _)) ?_;apply zaz;apply zaV;exact zlx (vs := [intQ (neg && decide (0 < u)) (some ⟨nb H 2, 0, none⟩) (dlen u) (ml u), intQ (false && decide (0 < d)) (some ⟨nb H 3, 0, none⟩) (dlen d) (ml d)]) (j := 2) (k := 3) hc (zjb rfl rfl (zaa rfl) rfl rfl rfl (zaa rfl) rfl rfl) rfl rfl (by decide) zaY zaY (zk3 (by decide)) ⟨rfl, rfl⟩
def longB (a b : ByteArray) : Bool := decide ((a.size : Int) > 40) || decide ((b.size : Int) > 40)
def shortH (t : List Tb) (l : List Bk) (r : List Rq) : Bool := ((t.take 65).all fun x => !longB x.name x.kind) && (((l.take 257).all fun x => !longB x.name x.kind) && (((r.take 257).all fun x => !longB x.name x.kind) && (decide ((t.length : Int) ≤ 67) && (decide ((l.length : Int) ≤ 259) && decide ((r.length : Int) ≤ 259)))))
theorem zmA {t : List Tb} {l : List Bk} {r : List Rq} (h : shortH t l r = true) : t.length ≤ 67 ∧ l.length ≤ 259 ∧ r.length ≤ 259 := by
 unfold shortH at h;simp only [Bool.and_eq_true, decide_eq_true_eq] at h;omega
theorem zkN {α : Type} {l : List α} {p : α → Bool} {n i : Nat} (h : i < l.length) (hn : i < n) (hp : p l[i] = false) : (l.take n).all p = false := by
 rw [List.all_eq_false];refine ⟨l[i], ?_, by simp [hp]⟩;rw [List.mem_take_iff_getElem];exact ⟨i, by omega, rfl⟩
theorem all_good {α : Type} {l : List α} {p : α → Bool} {n : Nat} (h : ∀ j (hj : j < l.length), j < min l.length n → p l[j] = true) : (l.take n).all p = true := by
 rw [List.all_eq_true];intro x hx;rw [List.mem_take_iff_getElem] at hx;obtain ⟨j, hj, rfl⟩ := hx;exact h j (by omega) (by omega)
set_option maxHeartbeats 8000000 in
theorem short_c {H : AHeap} {q p u : Option Addr} {c d e : Nat} {t : List Tb} {l : List Bk} {r : List Rq} (hs : SlAt H 2 tb q t) (hn : t.length < 1000000000) (hp : SlAt H 4 bk p l) (hm : l.length < 1000000000) (hu : SlAt H 4 rq u r) (hk : r.length < 1000000000) :
  Ret Tryz.prog 6 [.slice q t.length c, .slice p l.length d, .slice u r.length e] H (.bool (shortH t l r)) H := by
 refine zae Tryz.func6 rfl rfl rfl fun hc => ?_
 refine zst ?_;apply zar;refine zcG (fun i => [(0, .slice q t.length c), (1, .slice p l.length d), (2, .slice u r.length e), (7, I i)]) (fun i => ∀ j (hj : j < t.length), j < i → longB t[j].name t[j].kind = false) (min t.length 65) (fun i hi hJ ih => ?_) 0 (by omega) (by intros; omega) zsb;refine zst ?_;refine zq0 ?_;refine zs1 ?_;refine zdf [(0, .slice q t.length c), (1, .slice p l.length d), (2, .slice u r.length e), (7, I i), (17, .bool (decide (i < t.length ∧ i ≤ 64)))] (ds := []) (h := ext H H.fresh []) ?_ ?_
 ·refine zan rfl rfl (fun u1 => ?_) (fun u1 => ?_)
  ·have u1' : (i : Int) < t.length := of_decide_eq_true u1;have e1 : decide (i < t.length ∧ i ≤ 64) = decide ((i : Int) ≤ 64) := by apply decide_eq_decide.2; omega
   rw [e1];refine zst ?_;refine zq1 ?_;refine zst ?_;exact zaP zsb
  ·have u1' : ¬ (i : Int) < t.length := of_decide_eq_false u1;have e1 : decide (i < t.length ∧ i ≤ 64) = false := by apply decide_eq_false; omega
   rw [e1];refine zst ?_;exact zaP zsb
 refine zai rfl (fun h1 => ?_) (fun h1 => ?_)
 ·have h1 : i < t.length ∧ i ≤ 64 := of_decide_eq_true h1;obtain ⟨h1, h1m⟩ := h1;obtain ⟨b, o, cs, z, s, ro, rfl, hg, hw⟩ := hs.out (by intro e; rw [e] at h1; simp at h1);obtain ⟨Z, hZ⟩ : ∃ Z, Z = longB t[i].name t[i].kind := ⟨_, rfl⟩
  refine zst ?_;refine zq2 ?_;refine zst ?_;refine zq21 ?_;apply zad; exact zbA rfl rfl rfl; exact rfl;refine zq0 ?_;refine zs1 ?_;refine zdf [(0, .slice (some ⟨b, o, none⟩) t.length c), (1, .slice p l.length d), (2, .slice u r.length e), (7, I i), (35, .bool Z)] (ds := []) (h := ext H H.fresh []) ?_ ?_
  ·refine zan rfl rfl (fun u1 => ?_) (fun u1 => ?_)
   ·have u1 : decide ((t[i].name.size : Int) > 40) = true := u1;have e1 : Z = true := by rw [hZ]; unfold longB; rw [u1]; rfl
    rw [e1];refine zst ?_;exact zaP zsb
   ·have u1 : decide ((t[i].name.size : Int) > 40) = false := u1;have e1 : Z = decide ((t[i].kind.size : Int) > 40) := by rw [hZ]; unfold longB; rw [u1]; rfl
    rw [e1];refine zst ?_;refine zq22 ?_;refine zst ?_;refine zq23 ?_;apply zay (hd := rfl) (hl := rfl); exact zbA rfl rfl rfl; exact rfl;refine zq1 ?_;refine zst ?_;exact zaP zsb
  refine zai rfl (fun h2 => ?_) (fun h2 => ?_)
  ·have bad : ((t.take 65).all fun x => !longB x.name x.kind) = false := zkN h1 (by omega) (by rw [← hZ, h2]; rfl);refine zst ?_;refine zab hc rfl rfl ⟨?_, rfl⟩;have e : shortH t l r = false := by unfold shortH; rw [bad]; rfl
   rw [e]; rfl
  ·refine zst ?_;refine zq4 ?_;refine zst ?_;refine zaN zsb (.refl _) (ih (i + 1) (by omega) (by omega) fun j hj hlt => ?_);rcases Nat.lt_or_ge j i with h | h
   ·exact hJ j hj h
   ·obtain rfl : j = i := by omega
    rw [← hZ]; exact h2
 have h1 : ¬ (i < t.length ∧ i ≤ 64) := of_decide_eq_false h1;have h1 : i = min t.length 65 := by omega
 subst h1;have g0 : ((t.take 65).all fun x => !longB x.name x.kind) = true := all_good fun j hj hlt => by rw [hJ j hj hlt]; rfl
 clear ih hJ hi;apply zap;apply zaq; exact rfl;refine zst ?_;apply zar;refine zcG (fun i => [(0, .slice q t.length c), (1, .slice p l.length d), (2, .slice u r.length e), (8, I i)]) (fun i => ∀ j (hj : j < l.length), j < i → longB l[j].name l[j].kind = false) (min l.length 257) (fun i hi hJ ih => ?_) 0 (by omega) (by intros; omega) zsb;refine zst ?_;refine zq0 ?_;refine zs1 ?_;refine zdf [(0, .slice q t.length c), (1, .slice p l.length d), (2, .slice u r.length e), (8, I i), (43, .bool (decide (i < l.length ∧ i ≤ 256)))] (ds := []) (h := ext H H.fresh []) ?_ ?_
 ·refine zan rfl rfl (fun u1 => ?_) (fun u1 => ?_)
  ·have u1' : (i : Int) < l.length := of_decide_eq_true u1;have e1 : decide (i < l.length ∧ i ≤ 256) = decide ((i : Int) ≤ 256) := by apply decide_eq_decide.2; omega
   rw [e1];refine zst ?_;refine zq1 ?_;refine zst ?_;exact zaP zsb
  ·have u1' : ¬ (i : Int) < l.length := of_decide_eq_false u1;have e1 : decide (i < l.length ∧ i ≤ 256) = false := by apply decide_eq_false; omega
   rw [e1];refine zst ?_;exact zaP zsb
 refine zai rfl (fun h1 => ?_) (fun h1 => ?_)
 ·have h1 : i < l.length ∧ i ≤ 256 := of_decide_eq_true h1;obtain ⟨h1, h1m⟩ := h1;obtain ⟨b, o, cs, z, s, ro, rfl, hg, hw⟩ := hp.out (by intro e; rw [e] at h1; simp at h1);obtain ⟨Z, hZ⟩ : ∃ Z, Z = longB l[i].name l[i].kind := ⟨_, rfl⟩
  refine zst ?_;refine zq2 ?_;refine zst ?_;refine zq21 ?_;apply zad; exact zbA rfl rfl rfl; exact rfl;refine zq0 ?_;refine zs1 ?_;refine zdf [(0, .slice q t.length c), (1, .slice (some ⟨b, o, none⟩) l.length d), (2, .slice u r.length e), (8, I i), (61, .bool Z)] (ds := []) (h := ext H H.fresh []) ?_ ?_
  ·refine zan rfl rfl (fun u1 => ?_) (fun u1 => ?_)
   ·have u1 : decide ((l[i].name.size : Int) > 40) = true := u1;have e1 : Z = true := by rw [hZ]; unfold longB; rw [u1]; rfl
    rw [e1];refine zst ?_;exact zaP zsb
   ·have u1 : decide ((l[i].name.size : Int) > 40) = false := u1;have e1 : Z = decide ((l[i].kind.size : Int) > 40) := by rw [hZ]; unfold longB; rw [u1]; rfl
    rw [e1];refine zst ?_;refine zq22 ?_;refine zst ?_;refine zq23 ?_;apply zay (hd := rfl) (hl := rfl); exact zbA rfl rfl rfl; exact rfl;refine zq1 ?_;refine zst ?_;exact zaP zsb
  refine zai rfl (fun h2 => ?_) (fun h2 => ?_)
  ·have bad : ((l.take 257).all fun x => !longB x.name x.kind) = false := zkN h1 (by omega) (by rw [← hZ, h2]; rfl);refine zst ?_;refine zab hc rfl rfl ⟨?_, rfl⟩;have e : shortH t l r = false := by unfold shortH; simp [g0, bad]
   rw [e]; rfl
  ·refine zst ?_;refine zq4 ?_;refine zst ?_;refine zaN zsb (.refl _) (ih (i + 1) (by omega) (by omega) fun j hj hlt => ?_);rcases Nat.lt_or_ge j i with h | h
   ·exact hJ j hj h
   ·obtain rfl : j = i := by omega
    rw [← hZ]; exact h2
 have h1 : ¬ (i < l.length ∧ i ≤ 256) := of_decide_eq_false h1;have h1 : i = min l.length 257 := by omega
 subst h1;have g1 : ((l.take 257).all fun x => !longB x.name x.kind) = true := all_good fun j hj hlt => by rw [hJ j hj hlt]; rfl
 clear ih hJ hi;apply zap;apply zaq; exact rfl;refine zst ?_;apply zar;refine zcG (fun i => [(0, .slice q t.length c), (1, .slice p l.length d), (2, .slice u r.length e), (9, I i)]) (fun i => ∀ j (hj : j < r.length), j < i → longB r[j].name r[j].kind = false) (min r.length 257) (fun i hi hJ ih => ?_) 0 (by omega) (by intros; omega) zsb;refine zst ?_;refine zq0 ?_;refine zs1 ?_;refine zdf [(0, .slice q t.length c), (1, .slice p l.length d), (2, .slice u r.length e), (9, I i), (69, .bool (decide (i < r.length ∧ i ≤ 256)))] (ds := []) (h := ext H H.fresh []) ?_ ?_
 ·refine zan rfl rfl (fun u1 => ?_) (fun u1 => ?_)
  ·have u1' : (i : Int) < r.length := of_decide_eq_true u1;have e1 : decide (i < r.length ∧ i ≤ 256) = decide ((i : Int) ≤ 256) := by apply decide_eq_decide.2; omega
   rw [e1];refine zst ?_;refine zq1 ?_;refine zst ?_;exact zaP zsb
  ·have u1' : ¬ (i : Int) < r.length := of_decide_eq_false u1;have e1 : decide (i < r.length ∧ i ≤ 256) = false := by apply decide_eq_false; omega
   rw [e1];refine zst ?_;exact zaP zsb
 refine zai rfl (fun h1 => ?_) (fun h1 => ?_)
 ·have h1 : i < r.length ∧ i ≤ 256 := of_decide_eq_true h1;obtain ⟨h1, h1m⟩ := h1;obtain ⟨b, o, cs, z, s, ro, rfl, hg, hw⟩ := hu.out (by intro e; rw [e] at h1; simp at h1);obtain ⟨Z, hZ⟩ : ∃ Z, Z = longB r[i].name r[i].kind := ⟨_, rfl⟩
  refine zst ?_;refine zq2 ?_;refine zst ?_;refine zq21 ?_;apply zad; exact zbA rfl rfl rfl; exact rfl;refine zq0 ?_;refine zs1 ?_;refine zdf [(0, .slice q t.length c), (1, .slice p l.length d), (2, .slice (some ⟨b, o, none⟩) r.length e), (9, I i), (87, .bool Z)] (ds := []) (h := ext H H.fresh []) ?_ ?_
  ·refine zan rfl rfl (fun u1 => ?_) (fun u1 => ?_)
   ·have u1 : decide ((r[i].name.size : Int) > 40) = true := u1;have e1 : Z = true := by rw [hZ]; unfold longB; rw [u1]; rfl
    rw [e1];refine zst ?_;exact zaP zsb
   ·have u1 : decide ((r[i].name.size : Int) > 40) = false := u1;have e1 : Z = decide ((r[i].kind.size : Int) > 40) := by rw [hZ]; unfold longB; rw [u1]; rfl
    rw [e1];refine zst ?_;refine zq22 ?_;refine zst ?_;refine zq23 ?_;apply zay (hd := rfl) (hl := rfl); exact zbA rfl rfl rfl; exact rfl;refine zq1 ?_;refine zst ?_;exact zaP zsb
  refine zai rfl (fun h2 => ?_) (fun h2 => ?_)
  ·have bad : ((r.take 257).all fun x => !longB x.name x.kind) = false := zkN h1 (by omega) (by rw [← hZ, h2]; rfl);refine zst ?_;refine zab hc rfl rfl ⟨?_, rfl⟩;have e : shortH t l r = false := by unfold shortH; simp [g0, g1, bad]
   rw [e]; rfl
  ·refine zst ?_;refine zq4 ?_;refine zst ?_;refine zaN zsb (.refl _) (ih (i + 1) (by omega) (by omega) fun j hj hlt => ?_);rcases Nat.lt_or_ge j i with h | h
   ·exact hJ j hj h
   ·obtain rfl : j = i := by omega
    rw [← hZ]; exact h2
 have h1 : ¬ (i < r.length ∧ i ≤ 256) := of_decide_eq_false h1;have h1 : i = min r.length 257 := by omega
 subst h1;have g2 : ((r.take 257).all fun x => !longB x.name x.kind) = true := all_good fun j hj hlt => by rw [hJ j hj hlt]; rfl
 clear ih hJ hi;have e : shortH t l r = (decide ((t.length : Int) ≤ 67) && (decide ((l.length : Int) ≤ 259) && decide ((r.length : Int) ≤ 259))) := by unfold shortH; rw [g0, g1, g2]; rfl
 rw [e];apply zap;apply zaq; exact rfl;refine zst ?_;refine zq0 ?_;refine zst ?_;refine zan rfl rfl (fun u1 => ?_) (fun u1 => ?_)
 ·have u1 : decide ((t.length : Int) ≤ 67) = true := u1;rw [u1];refine zst ?_;refine zq1 ?_;refine zst ?_;refine zan rfl rfl (fun u2 => ?_) (fun u2 => ?_)
  ·have u2 : decide ((l.length : Int) ≤ 259) = true := u2;rw [u2];refine zst ?_;refine zq1 ?_;refine zst ?_;exact zab hc rfl rfl ⟨rfl, rfl⟩
  ·have u2 : decide ((l.length : Int) ≤ 259) = false := u2;rw [u2];refine zst ?_;exact zab hc rfl rfl ⟨rfl, rfl⟩
 ·have u1 : decide ((t.length : Int) ≤ 67) = false := u1;rw [u1];refine zst ?_;exact zab hc rfl rfl ⟨rfl, rfl⟩
def listB (have' : List Int) (e bad : Int) (want : List Int) : Bool := if bad ≠ 0 then ((have'.length : Int) == 0) && (e == bad) else (e == 0) && decide (have' = want)
-- HERE
theorem zgf {H : AHeap} (hc : Closed H) {lo lo' : Nat} {L M : List (Option ABlk)} : Ext (ext H lo L) (ext H lo' (L ++ M)) := fun b y hb => by
 rw [zbq hc] at hb ⊢;by_cases h : b % 2 = 0 ∧ H.fresh ≤ b
 ·rw [if_pos h] at hb ⊢
  cases e : L[b / 2 - H.next]? with
  | none => rw [e] at hb; cases hb
  | some x => rw [getApp e]; rw [e] at hb; exact hb
 ·rw [if_neg h] at hb ⊢; exact hb
open Go Go.Den Go.Lib
theorem zgv {H : AHeap} {neg : Bool} {q : Option Addr} {c v : Nat} (hs : SlAt H 1 i1 q (dg v)) (hq : OldS H q) (hlow : LowS q c (dlen v)) (hn : dlen v ≤ 1000) :
  Ret Tryz.prog 139 [.bool neg, .slice q (dlen v) c] H (intQ (neg && decide (0 < v)) q (dlen v) c) H := by
 have h := zey (neg := neg) (c := c) hs hq (by rw [zaQ]; exact hlow) (by rw [zaQ]; omega);rw [zaQ, zia] at h
 have e : decide (0 < dlen v) = decide (0 < v) := by
  rw [decide_eq_decide];have := zbW (v := v);omega
 rwa [e] at h
set_option maxHeartbeats 4000000 in
theorem zll {H : AHeap} {ng : Bool} {q : Option Addr} {c v : Nat} (hs : SlAt H 1 i1 q (dg v)) (hq : OldS H q) (hlow : LowS q c (dlen v)) (hn : dlen v ≤ 1000) :
  Ret Tryz.prog 255 [intQ ng q (dlen v) c] H (intQ (!ng && decide (0 < v)) q (dlen v) c) H := by
 refine zae Tryz.func255 rfl rfl rfl fun hc => ?_
 have cs := fun lo L => zgv (H := ext H lo L) (neg := !ng) (c := c) (hs.ext (zag hc)) hq.ext hlow hn
 refine zst ?_;refine zq17 ?_;refine zq10 ?_;refine zst ?_;refine zq17 ?_;apply zac (ht := rfl); exact cs _ _; exact rfl;refine zq29 ?_;apply zaV;exact zdN hc (zbG rfl rfl (zaa rfl) rfl rfl) (zii hq) ⟨rfl, rfl⟩
theorem zoB {H : AHeap} {lo lo' : Nat} {L M : List (Option ABlk)} {p : Option Addr} (h : OldS (ext H lo L) p) : OldS (ext H lo' (L ++ M)) p := fun x hx => by
 obtain ⟨h1, h2⟩ := h x hx;refine ⟨h1.imp id fun k => ?_, h2⟩;rw [zal] at k ⊢;rw [List.length_append];unfold nb at k ⊢;omega
theorem zlJ {H : AHeap} {lo : Nat} {L : List (Option ABlk)} {p q : Option Addr} {c e x y : Nat} (_hc : Closed H) (hp : SlAt (ext H lo L) 1 i1 p (dg x)) (hp' : OldS (ext H lo L) p) (hq : SlAt (ext H lo L) 1 i1 q (dg y)) (hy : y ≠ 0) (hx : dlen x ≤ 300) (hyl : dlen y ≤ 300) :
  ∃ M pq cq R, SlAt (ext H lo (L ++ M)) 1 i1 pq (dg (x / y)) ∧ OldS (ext H lo (L ++ M)) pq ∧ LowS pq cq (dlen (x / y)) ∧
   Ret Tryz.prog 257 [.slice p (dlen x) c, .slice q (dlen y) e] (ext H lo L) (.tuple ⟨[.slice pq (dlen (x / y)) cq, R]⟩) (ext H lo (L ++ M)) := by
 rcases Nat.lt_or_ge x y with hlt | hge
 ·have cl := zps (c := c) (e := e) hp hp' hq hlt hyl;refine ⟨[], none, 0, .slice p (dlen x) c, ?_, ?_, ?_, ?_⟩
  ·rw [Nat.div_eq_of_lt hlt, zer]; exact SlAt.nil
  ·intro x hx; cases hx
  ·rw [Nat.div_eq_of_lt hlt, zaO];exact ⟨Nat.le_refl _, (fun _ => ⟨rfl, rfl⟩), (fun _ e => by cases e)⟩
  ·rw [Nat.div_eq_of_lt hlt, zaO, List.append_nil]; exact cl
 ·obtain ⟨n1, n2, l1, l2, m1, m2, cd⟩ := zrJ (c := c) (e := e) hp hq hy hge hx;simp only [zal, za2, List.append_assoc] at cd
  have g : (L ++ ([some (.cells ((pw n1 (x / y)).map I) 1 false false)] ++ [some (.cells ((pw n2 (x % y)).map I) 1 false false)]))[L.length]? = some (some (.cells ((pw n1 (x / y)).map I) 1 false false)) := by
   rw [← List.append_assoc]; exact getApp List.getElem?_concat_length
  refine ⟨_, some ⟨nb H L.length, 0, none⟩, n1, _, ?_, OldS.new (List.getElem?_eq_some_iff.1 g).1, ⟨za3 l1, (fun e => by cases e), (fun _ e => by cases e; rfl)⟩, cd⟩;have := (zaB (g := I) (l := pw n1 (x / y)) (zaa (H := H) (lo := lo) g)).take (dlen (x / y))
  rwa [zfa l1] at this
theorem dl_one {v : Nat} (h : dlen v = 1) : dg v = [(v : Int)] ∧ v < 1000000000 := by
 have h1 := zaD v;rw [h] at h1;have h2 : v < 1000000000 := by simpa using h1
 have h0 : v ≠ 0 := by intro e; rw [e, zaO] at h; omega
 exact ⟨zrK h0 h2, h2⟩
set_option maxHeartbeats 16000000 in
theorem zdk {H : AHeap} {p q : Option Addr} {c e x y : Nat} {ng nd : Bool} (hp : SlAt H 1 i1 p (dg x)) (hp' : OldS H p) (hlp : LowS p c (dlen x)) (hq : SlAt H 1 i1 q (dg y)) (hq' : OldS H q) (hlq : LowS q e (dlen y)) (hy : y ≠ 0) (ha : dlen x ≤ 300) (hb : dlen y ≤ 300) :
  Ret Tryz.prog 225 [intQ ng p (dlen x) c, intQ nd q (dlen y) e] H (.string (tx (ratQ ((if nd = true then !ng else ng) && decide (0 < x)) (x / Nat.gcd x y) (y / Nat.gcd x y)))) H := by
 refine zae Tryz.func225 rfl rfl rfl fun hc => ?_
 have cm := fun lo L => zll (H := ext H lo L) (ng := ng) (c := c) (hp.ext (zag hc)) hp'.ext hlp (by omega)
 have cn := fun lo L => zll (H := ext H lo L) (ng := true) (c := e) (hq.ext (zag hc)) hq'.ext hlq (by omega)
 have en : (!true && decide (0 < y)) = false := rfl;rw [en] at cn;obtain ⟨B, hB⟩ : ∃ B, B = if nd = true then (!ng && decide (0 < x)) else ng := ⟨_, rfl⟩
 have hB2 : ((if nd = true then !ng else ng) && decide (0 < x)) = (B && decide (0 < x)) := by
  rw [hB]; cases nd <;> cases ng <;> cases decide (0 < x) <;> rfl
 rw [hB2];refine zst ?_;refine zq17 ?_;apply zaf;refine ct_J [(2, .pointer (some ⟨nb H 0, 0, none⟩)), (3, .pointer (some ⟨nb H 1, 0, none⟩)), (4, .string (tx []))] (ds := []) (h := ext H H.fresh [some (.cells [.bool B, .slice p (dlen x) c] 0 false false), some (.cells [.bool false, .slice q (dlen y) e] 0 false false)]) ?_ ?_
 ·cases nd with
  | true =>
   rw [if_pos rfl] at hB;rw [hB];refine zam rfl rfl ?_;apply zax (by assumption); decide +kernel;refine zq13 ?_;apply zaC (ht := rfl); exact cm _ _; exact rfl;refine zq13 ?_;apply zaC (ht := rfl); exact cn _ _; exact rfl
   skip;refine zn1 (k := 0) rfl (by decide +kernel) hc (by simp) (zav rfl rfl (zaa rfl) rfl rfl (zat _)) ?_;refine zn1 (k := 1) rfl (by decide +kernel) hc (by simp) (zav rfl rfl (zaa rfl) rfl rfl (zat _)) ?_;apply zaz;simp only [List.map_nil, List.append_nil]
   exact zaP zsb
  | false =>
   rw [if_neg (by simp)] at hB;rw [hB];refine zah rfl rfl ?_;apply zbb;exact zaP zsb
 clear cm cn hB hB2 en;have hE := fun lo L => zag (lo := lo) (L := L) hc
 obtain ⟨g, hg⟩ : ∃ g, g = Nat.gcd x y := ⟨_, rfl⟩
 have hg0 : g ≠ 0 := by rw [hg]; intro h; exact hy (Nat.eq_zero_of_gcd_eq_zero_right h)
 have hgy : g ≤ y := by rw [hg]; exact Nat.gcd_le_right _ (by omega)
 have hgl : dlen g ≤ 300 := Nat.le_trans (zaZ hgy) hb;have cg := zpx (H := ext H H.fresh [some (.cells [.bool B, .slice p (dlen x) c] 0 false false), some (.cells [.bool false, .slice q (dlen y) e] 0 false false)]) (c := c) (e := e) (hp.ext (hE _ _)) hp'.ext (hq.ext (hE _ _)) hq'.ext ha hb;rw [← hg] at cg ⊢;refine zst ?_;refine zq17 ?_;refine zst ?_;refine zq17 ?_;refine zcx rfl cg rfl (fun v h' hv => ?_)
 have hv2 : ∃ L3 pg cg, v = .slice pg (dlen g) cg ∧ h' = ext H H.fresh L3 ∧ L3[0]? = some (some (.cells [.bool B, .slice p (dlen x) c] 0 false false)) ∧ L3[1]? = some (some (.cells [.bool false, .slice q (dlen y) e] 0 false false)) ∧ SlAt (ext H H.fresh L3) 1 i1 pg (dg g) := by
  obtain ⟨pg, cg, rfl, h1 | ⟨n, rfl, h2, h3, rfl⟩⟩ := hv
  ·obtain ⟨rfl, h2, _⟩ := h1;exact ⟨_, pg, cg, rfl, rfl, rfl, rfl, h2⟩
  ·refine ⟨_, _, cg, rfl, za2 _, rfl, rfl, ?_⟩;have := (zaB (g := I) (l := pw n g) (zaa (H := H) (lo := H.fresh) (L := [some (.cells [.bool B, .slice p (dlen x) c] 0 false false), some (.cells [.bool false, .slice q (dlen y) e] 0 false false)] ++ [some (.cells ((pw n g).map I) 1 false false)]) (k := 2) rfl)).take (dlen g);rw [zfa h2] at this;rw [zal];exact this
 obtain ⟨L3, pg, cgg, rfl, rfl, a0, a1, hsg⟩ := hv2;clear hv cg;obtain ⟨M4, pp, cp, R4, s4, o4, w4, cd4⟩ := zlJ (lo := H.fresh) (L := L3) (c := c) (e := cgg) hc (hp.ext (hE _ _)) hp'.ext hsg hg0 ha hgl;obtain ⟨M5, pq, cq, R5, s5, o5, w5, cd5⟩ := zlJ (lo := H.fresh) (L := L3 ++ M4) (c := e) (e := cgg) hc (hq.ext (hE _ _)) hq'.ext (hsg.ext (zgf hc)) hg0 hb hgl;have s4' := s4.ext (zgf hc (lo' := H.fresh) (M := M5));have o4' := zoB (lo' := H.fresh) (M := M5) o4;have hdx : g ∣ x := by rw [hg]; exact Nat.gcd_dvd_left x y
 have hxg : decide (0 < x / g) = decide (0 < x) := by
  rw [decide_eq_decide];constructor
  ·intro h;rcases Nat.eq_zero_or_pos x with h1 | h1
   ·rw [h1, Nat.zero_div] at h; omega
   ·exact h1
  ·intro h; exact Nat.div_pos (Nat.le_of_dvd h hdx) (by omega)
 have hpl : dlen (x / g) ≤ 300 := Nat.le_trans (zaZ (Nat.div_le_self _ _)) ha;have hql : dlen (y / g) ≤ 300 := Nat.le_trans (zaZ (Nat.div_le_self _ _)) hb;have hqp : 0 < y / g := Nat.div_pos hgy (by omega);have cs1 := zgv (neg := B) s4' o4' w4 (by omega);have cs2 := zgv (neg := false) s5 o5 w5 (by omega);have ct1 := zj3 (neg := B && decide (0 < x / g)) (c := cp) s4' (by omega) (by intro h; rw [Bool.and_eq_true, decide_eq_true_iff] at h; exact Nat.pos_iff_ne_zero.1 h.2);have ct2 := zj3 (neg := false) (c := cq) s5 (by omega) (by intro h; cases h);have ef : (false && decide (0 < y / g)) = false := rfl;rw [ef] at cs2;rw [hxg] at cs1 ct1;have hb1 := zdF (B && decide (0 < x)) (u := x / g) (by omega);have hb2 := zdF false (u := y / g) (by omega);refine zst ?_;refine zq34 ?_;refine zst ?_;apply zac (ht := rfl); exact cd4; exact rfl;have b0 := getApp (m := M4) a0;have b1 := getApp (m := M4) a1;refine zst ?_;refine zq34 ?_;refine zst ?_;apply zac (ht := rfl); exact cd5; exact rfl;have e0 := getApp (m := M5) b0;have e1 := getApp (m := M5) b1;clear cd4 cd5 s4 o4 hsg hp hq hp' hq' b0 b1 a0 a1;refine zst ?_;refine zq34 ?_;refine zst ?_;apply zac (ht := rfl); exact cs1; exact rfl;apply zac (ht := rfl); exact ct1; exact rfl;refine zst ?_;refine zq0 ?_;refine zs1 ?_;by_cases hd1 : dlen (y / g) = 1
 ·obtain ⟨eq1, eq2⟩ := dl_one hd1;have s5' := s5;rw [eq1] at s5';obtain ⟨b5, o5', cs5, z5, sx5, ro5, rfl, hg5, hw5⟩ := s5'.out (by simp);have hV5 : pt false 1 cs5 (o5' + 0 * 1) = some (I ((y / g : Nat) : Int)) := zgK (n := 1) (g := I) (i := 0) hw5 (by simp);rw [hd1] at cs2 ct2 ⊢;refine zst ?_;apply zay (hd := rfl) (hl := rfl); exact zaR rfl rfl rfl (by exact rfl); exact rfl;apply zay (hd := rfl) (hl := rfl); exact zaw rfl (by assumption) rfl (by exact (by assumption)); exact rfl;refine zq1 ?_;(iterate 2 (refine zs1 ?_));by_cases hone : y / g = 1
  ·have eg : (((y / g : Nat) : Int) == 1) = true := by rw [hone]; rfl
   refine zam rfl eg ?_;refine zst ?_;have eR : ratQ (B && decide (0 < x)) (x / g) (y / g) = ratN (B && decide (0 < x)) (x / g) := by rw [hone]; exact zeG _ _
   rw [eR];exact zab hc rfl rfl ⟨rfl, rfl⟩
  ·have eg : (((y / g : Nat) : Int) == 1) = false := by rw [beq_eq_false_iff_ne]; omega
   have eR : ratQ (B && decide (0 < x)) (x / g) (y / g) = ratN (B && decide (0 < x)) (x / g) ++ 47 :: Lib.decDigits (y / g) := zc4 _ _ hone;rw [eR];refine zah rfl eg ?_;refine zst ?_;refine zq44 ?_;refine zst ?_;apply zac (ht := rfl); exact cs2; exact rfl;apply zac (ht := rfl); exact ct2; exact rfl;refine zq44 ?_;refine zst ?_;refine zab hc rfl rfl ⟨?_, rfl⟩;show Value.string _ = Value.string _;rw [List.append_assoc]; rfl
 ·have hone : y / g ≠ 1 := fun h => hd1 (by rw [h]; exact ze3 (by decide) (by decide))
  have eR : ratQ (B && decide (0 < x)) (x / g) (y / g) = ratN (B && decide (0 < x)) (x / g) ++ 47 :: Lib.decDigits (y / g) := zc4 _ _ hone;rw [eR];have eg : (((dlen (y / g) : Nat) : Int) == 1) = false := by rw [beq_eq_false_iff_ne]; omega
  skip;rw [eg];refine zst ?_;refine zah rfl rfl ?_;refine zst ?_;refine zq44 ?_;refine zst ?_;apply zac (ht := rfl); exact cs2; exact rfl;apply zac (ht := rfl); exact ct2; exact rfl;refine zq44 ?_;refine zst ?_;refine zab hc rfl rfl ⟨?_, rfl⟩;show Value.string _ = Value.string _;rw [List.append_assoc]; rfl
end Go.Proofs.YtlejimjgagfalaaGreatDoor
