import Derived.Test.YtlejimjgagfalaaGreatDoorHaC
import Derived.Test.YtlejimjgagfalaaGreatDoorStA
import Derived.Test.YtlejimjgagfalaaGreatDoorHkA
import Derived.Test.YtlejimjgagfalaaGreatDoorStC
import Derived.Test.YtlejimjgagfalaaGreatDoorSmA
import Derived.Test.YtlejimjgagfalaaGreatDoorGaD
noncomputable section
namespace Go.Proofs.YtlejimjgagfalaaGreatDoor
open Go Go.Den
set_option maxRecDepth 100000
structure Mk where
 x : Int
 y : Int
 h : Int
abbrev mk (m : Mk) : List Value := [I m.x, I m.y, I m.h]
theorem zgR (m : Mk) : (mk m).length = 3 := rfl
structure GoodM (m : Mk) : Prop where
 x1 : -10000 ≤ m.x
 x2 : m.x ≤ 10000
 y1 : -10000 ≤ m.y
 y2 : m.y ≤ 10000
 h1 : -999999999 ≤ m.h
 h2 : m.h ≤ 999999999
theorem zlA {H : AHeap} {q : Option Addr} {c g : Nat} {caps : List Value} {l : List Mk} {most : Nat} {err : List Mk → Mk → Int} (hs : SlAt H 3 mk q l) (hlow : LowS q c l.length) (hn : l.length < 1000000000000)
  (hp : ∀ i (hi : i < l.length), ∀ H', Ext H H' → Ret Tryz.prog g (.agg ⟨mk l[i]⟩ :: .slice q i c :: caps) H' (I (err (l.take i) l[i])) H') :
  Ret Tryz.prog 49 [.slice q l.length c, I most, .func (.func g) #[] ⟨caps⟩] H (I (if l.length > most then 5 else restG err l)) H := by
 refine zae Tryz.func49 rfl rfl rfl fun hc => ?_
 refine zst ?_;refine zq0 ?_;apply zaf;refine zai rfl (fun h0 => ?_) (fun h0 => ?_)
 ·have h0 : l.length > most := by simp at h0; omega
  refine zst ?_;refine zab hc rfl rfl ⟨?_, rfl⟩;rw [if_pos h0]; rfl
 have h0 : ¬ l.length > most := by simp at h0; omega
 rw [if_neg h0];refine zst ?_;apply zar;refine zaA (α := Nat × List (Option ABlk)) (fun a => [(0, .slice q l.length c), (2, .func (.func g) #[] ⟨caps⟩), (14, .slice q l.length c), (15, I l.length), (16, I a.1)]) (fun a => ext H H.fresh a.2) (fun a => a.1 ≤ l.length ∧ ∀ j, j < a.1 → errG err l j = 0) (fun a => l.length - a.1) (fun a ha ih => ?_) (0, []) ⟨by simp, fun j hj => by simp at hj⟩ zsb (.refl _);obtain ⟨i, L⟩ := a;obtain ⟨hi, hJ⟩ := ha;simp only at hi hJ ih ⊢;have ih' := fun i' L' a1 a2 a3 => ih (i', L') a1 ⟨a2, a3⟩
 simp only at ih';clear ih;refine zst ?_;refine zq0 ?_;refine zst ?_;refine zai rfl (fun h1 => ?_) (fun h1 => ?_)
 ·simp only [decide_eq_true_eq, Int.ofNat_lt] at h1;obtain ⟨b, o, cs, z, s, ro, rfl, hg, hw⟩ := hs.out (by intro e; rw [e] at h1; simp at h1);have hcap := hlow.cap;refine zst ?_;refine zq2 ?_;refine zq15 ?_;refine zst ?_;refine zq16 ?_;apply zcj;apply zax (by assumption); decide +kernel;refine zq5 ?_;apply zaS (hfree := rfl); exact zaw rfl (by exact zaa (getApp getSetLast)) rfl (by exact rfl); exact rfl;(iterate 2 (refine zq5 ?_));apply zaS (hfree := rfl); exact zb9 rfl rfl rfl (by intro e; cases e) (by rintro _ ⟨⟩; rfl) (by omega); exact rfl
  skip;apply zaC (ht := rfl); exact hp i h1 _ (zag hc); exact rfl;refine zq14 ?_;apply zaz;refine zst ?_;refine zq0 ?_;apply zaf;refine zai rfl (fun h2 => ?_) (fun h2 => ?_)
  ·have h2 : err (l.take i) l[i] ≠ 0 := by simpa using h2
   refine zst ?_;refine zab hc rfl rfl ⟨?_, rfl⟩;rw [zeC h1 hJ (by rw [zbU h1]; exact h2), zbU h1]; rfl
  ·have h2 : err (l.take i) l[i] = 0 := by simpa using h2
   refine zst ?_;refine zq4 ?_;refine zst ?_;refine zaN zsb (.refl _) (ih' (i + 1) _ (by omega) (by omega) fun j hj => ?_);rcases Nat.lt_or_ge j i with h | h
   ·exact hJ j h
   ·obtain rfl : j = i := by omega
    rw [zbU h1]; exact h2
 ·have h1 : i = l.length := by simp at h1; omega
  subst h1;apply zap;apply zaq; exact rfl;refine zst ?_;refine zab hc rfl rfl ⟨?_, rfl⟩;rw [zcq hJ]; rfl
theorem zoY {H : AHeap} {q : Option Addr} {c g : Nat} {caps : List Value} {l : List Mk} {p : Mk → Bool} (hs : SlAt H 3 mk q l) (hn : l.length < 1000000000000)
  (hp : ∀ x ∈ l, ∀ H', Ext H H' → Ret Tryz.prog g (.agg ⟨mk x⟩ :: caps) H' (.bool (p x)) H') :
  Ret Tryz.prog 95 [.slice q l.length c, .func (.func g) #[] ⟨caps⟩] H (I (idxOf p l 0)) H := by
 refine zae Tryz.func95 rfl rfl rfl fun hc => ?_
 refine zst ?_;apply zar;refine zcG (fun i => [(0, .slice q l.length c), (1, .func (.func g) #[] ⟨caps⟩), (7, I l.length), (8, I i)]) (fun i => ∀ j (hj : j < l.length), j < i → p l[j] = false) l.length (fun i hi hJ ih => ?_) 0 (by omega) (by intros; omega) zsb;refine zst ?_;refine zq0 ?_;refine zst ?_;refine zai rfl (fun hb => ?_) (fun hb => ?_)
 ·simp only [decide_eq_true_eq, Int.ofNat_lt] at hb;obtain ⟨b, o, cs, z, s, ro, rfl, hg, hw⟩ := hs.out (by intro e; rw [e] at hb; simp at hb);refine zst ?_;refine zq2 ?_;refine zq15 ?_;apply zac (ht := rfl); exact hp _ (List.getElem_mem hb) _ (zag hc); exact rfl;apply zaf;refine zai rfl (fun h2 => ?_) (fun h2 => ?_)
  ·refine zst ?_;refine zab hc rfl rfl ⟨?_, rfl⟩;rw [zeS hb 0 hJ h2]; simp [packA]
  ·refine zst ?_;refine zq4 ?_;refine zst ?_;refine zbn ?_ (ih (i + 1) (by omega) (by omega) fun j hj hji => ?_)
   ·(repeat (first | exact zbi | apply za0 rfl))
   ·rcases Nat.lt_or_ge j i with h | h
    ·exact hJ j hj h
    ·have : j = i := by omega
     subst this; exact h2
 ·simp only [decide_eq_false_iff_not, Int.ofNat_lt] at hb;apply zap;apply zaq; exact rfl;refine zst ?_;refine zab hc rfl rfl ⟨?_, rfl⟩;rw [zc5 0 fun j hj => hJ j hj (by omega)]; rfl
theorem zfR {H : AHeap} {q : Option Addr} {c g : Nat} {caps : List Value} {l : List Mk} {p : Mk → Bool} (hs : SlAt H 3 mk q l) (hn : l.length < 1000000000000)
  (hp : ∀ x ∈ l, ∀ H', Ext H H' → Ret Tryz.prog g (.agg ⟨mk x⟩ :: caps) H' (.bool (p x)) H') :
  Ret Tryz.prog 51 [.slice q l.length c, .func (.func g) #[] ⟨caps⟩] H (.bool (l.any p)) H := by
 refine zae Tryz.func51 rfl rfl rfl fun hc => ?_
 refine zst ?_;apply zac (ht := rfl); exact zoY (l := l) (p := p) (hs.ext (zag hc)) hn fun x hx H' h' => hp x hx H' ((zag hc).trans h'); exact rfl
 refine zq0 ?_;refine zst ?_;refine zab hc rfl rfl ⟨?_, rfl⟩;rw [← zdL l 0]; rfl
theorem zkj {n a b : Int} (h1 : a ≤ n) (h2 : n ≤ b) : outL n a b = false := by
 unfold outL; simp; omega
theorem zko {H : AHeap} {q : Option Addr} {n c : Nat} {m : Mk} (g : GoodM m) : Ret Tryz.prog 50 [.agg ⟨mk m⟩, .slice q n c] H (I 0) H := by
 refine zae Tryz.func50 rfl rfl rfl fun hc => ?_
 refine zst ?_;apply zax (by assumption); decide +kernel;(iterate 2 (refine zq12 ?_));refine zq13 ?_;apply zaC (ht := rfl); exact within89; exact rfl;(iterate 2 (refine zq12 ?_));refine zq13 ?_;apply zaC (ht := rfl); exact within89; exact rfl;refine zq12 ?_;refine zq13 ?_;apply zaC (ht := rfl); exact within89; exact rfl;apply zcf (hfree := rfl); exact zaM rfl rfl rfl rfl rfl rfl rfl; exact rfl;apply zbc (ht := rfl) (hw := rfl); decide +kernel; exact first84 (l := [_, _, _]) (zaB (zaa rfl)) (by simp); exact rfl;refine zq14 ?_;apply zaz;apply zaV;refine zab hc rfl rfl ⟨?_, rfl⟩;rw [zkj g.x1 g.x2, zkj g.y1 g.y2, zkj g.h1 g.h2]; rfl
theorem zke {α : Type} {l : List α} : restG (fun (_ : List α) (_ : α) => (0 : Int)) l = 0 := zcq fun j hj => by rw [zbU hj]
theorem zkw {H : AHeap} {q : Option Addr} {c : Nat} {l : List Mk} {most : Nat} (hs : SlAt H 3 mk q l) (hlow : LowS q c l.length) (hn : l.length ≤ most) (hm : l.length < 1000000000000) (g : ∀ x ∈ l, GoodM x) :
  Ret Tryz.prog 49 [.slice q l.length c, I most, .func (.func 50) #[] ⟨[]⟩] H (I 0) H := by
 have h := zlA (g := 50) (caps := []) (most := most) (err := fun _ _ => 0) hs hlow hm fun i hi H' hE => by
  have := zko (H := H') (q := q) (n := i) (c := c) (g _ (List.getElem_mem hi));exact this
 rw [if_neg (by omega), zke] at h;exact h
theorem zry {H : AHeap} {a b : Mk} (ga : GoodM a) (gb : GoodM b) : Ret Tryz.prog 55 [.agg ⟨mk a⟩, .agg ⟨mk b⟩] H (.agg ⟨mk ⟨a.x - b.x, a.y - b.y, a.h - b.h⟩⟩) H := by
 refine zae Tryz.func55 rfl rfl rfl fun hc => ?_
 have x1 := ga.x1; have x2 := ga.x2; have x3 := ga.y1; have x4 := ga.y2; have x5 := ga.h1; have x6 := ga.h2;have y1 := gb.x1; have y2 := gb.x2; have y3 := gb.y1; have y4 := gb.y2; have y5 := gb.h1; have y6 := gb.h2;refine zst ?_;refine zq17 ?_;refine zst ?_;refine zq17 ?_;refine zq27 ?_;refine zst ?_;refine zq17 ?_;refine zst ?_;refine zq17 ?_;refine zq27 ?_;refine zq28 ?_;refine zst ?_;refine zq17 ?_;refine zst ?_;refine zq17 ?_;refine zq27 ?_;refine zq28 ?_;refine zq29 ?_;apply zaV;exact zcp hc rfl rfl (zaa rfl) rfl rfl rfl ⟨rfl, rfl⟩
def intsB (P : Program) (t : TypeId) (n : Nat) : Bool := match tyOf P t with
 | some ti => match ti.und with
  | .struct fs => Nat.beq fs.toList.length n && fs.toList.zipIdx.all fun p => !(p.1.name == "_") && (Nat.beq p.1.type 3 && Nat.beq p.1.offset p.2)
  | _ => false
 | none => false
theorem zjx {P : Program} {t : TypeId} {n : Nat} (h : intsB P t n = true) : ∃ ti fs, (ctxOf P).ty.get t = some ti ∧ ti.und = .struct fs ∧ fs.toList.length = n ∧ ∀ k (h : k < fs.toList.length), (fs.toList[k].name == "_") = false ∧ fs.toList[k].type = 3 ∧ fs.toList[k].offset = 0 + k := by
 unfold intsB at h;split at h
 ·rename_i ti hti;split at h
  ·rename_i fs hfs;rw [Bool.and_eq_true] at h;refine ⟨ti, fs, zbJ hti, hfs, Nat.eq_of_beq_eq_true h.1, fun k hk => ?_⟩
   have := List.all_eq_true.1 h.2 (fs.toList[k], k) (by
    rw [List.mem_iff_getElem];refine ⟨k, by simpa using hk, by simp⟩)
   simp only [Bool.and_eq_true, Bool.not_eq_true'] at this;refine ⟨this.1, Nat.eq_of_beq_eq_true this.2.1, ?_⟩;rw [Nat.zero_add];exact Nat.eq_of_beq_eq_true this.2.2
  ·cases h
 ·cases h
section
variable {C : Ctx} {xs ys : List Int} {fi : TI}
theorem zhG (h2 : isAggD fi.und = false) {k : Nat} (hk : k < xs.length) : partA fi (xs.map I) k = some (I xs[k]) := by
 simp [partA, h2, hk]
theorem zjE {rec : TypeId → Value → Value → Option Bool} (hrec : ∀ a b : Int, rec 3 (I a) (I b) = some (a == b)) (h1 : C.ty.get 3 = some fi) (h2 : isAggD fi.und = false) : ∀ (fs : List Field) (o : Nat),
  (∀ k (h : k < fs.length), (fs[k].name == "_") = false ∧ fs[k].type = 3 ∧ fs[k].offset = o + k) → o + fs.length = xs.length → o + fs.length = ys.length → eqFs C rec (xs.map I) (ys.map I) fs = some (decide (xs.drop o = ys.drop o))
 | [], o, _, e1, e2 => by
  rw [List.drop_of_length_le (by simp at e1; omega), List.drop_of_length_le (by simp at e2; omega)]
  simp [eqFs]
 | f :: fs, o, h, e1, e2 => by
  obtain ⟨n0, t0, o0⟩ := h 0 (by simp);simp only [List.getElem_cons_zero] at n0 t0 o0;have l1 : o < xs.length := by simp at e1; omega
  have l2 : o < ys.length := by simp at e2; omega
  have ih := zjE hrec h1 h2 fs (o + 1) (fun k hk => by
   have := h (k + 1) (by simpa using hk);simp only [List.getElem_cons_succ] at this;exact ⟨this.1, this.2.1, by omega⟩) (by simp at e1; omega) (by simp at e2; omega)
  simp only [eqFs, n0, t0, o0, h1, Nat.add_zero, Bool.false_eq_true, if_false, zhG h2 l1, zhG h2 l2, hrec];rw [List.drop_eq_getElem_cons l1, List.drop_eq_getElem_cons l2];by_cases e : xs[o] = ys[o]
  ·simp only [e, beq_self_eq_true, ih, List.cons.injEq, true_and]
  ·have : (xs[o] == ys[o]) = false := by simpa using e
   simp only [this, List.cons.injEq, e, false_and, decide_false]
theorem zm1 : (xs.map I).all flatC = true := by
 rw [List.all_eq_true];intro v hv;obtain ⟨y, _, rfl⟩ := List.mem_map.1 hv;rfl
end
section
variable {t : TypeId} {n : Nat} {xs ys : List Int}
theorem zqM (h : intsB Tryz.prog t n = true) (hs : Tryz.prog.stoodInHeld t = false) (e1 : xs.length = n) (e2 : ys.length = n) : eqV Tryz.prog (ctxOf Tryz.prog) 20 t (.agg ⟨xs.map I⟩) (.agg ⟨ys.map I⟩) = some (decide (xs = ys)) := by
 obtain ⟨ti, fs, h1, h2, h3, h4⟩ := zjx h;obtain ⟨ei, k1, k2, k3, k4⟩ := tyI
 have one : ∀ a b : Int, eqV Tryz.prog (ctxOf Tryz.prog) 19 3 (I a) (I b) = some (a == b) := by
  intro a b;simp only [eqV, k1, k2]; simp
 rw [eqV];simp only [h1, h2, hs, Bool.false_eq_true, if_false];have := zjE (C := ctxOf Tryz.prog) (xs := xs) (ys := ys) (fi := ei) one k1 k4 fs.toList 0 h4 (by omega) (by omega);rw [List.drop_zero, List.drop_zero] at this;exact this
theorem zqN (h : intsB Tryz.prog t n = true) (hs : Tryz.prog.stoodInHeld t = false) (hg : Tryz.prog.eqGuardType Tryz.prog.depth t = false) (e1 : xs.length = n) (e2 : ys.length = n) : eqA Tryz.prog (ctxOf Tryz.prog) t (.agg ⟨xs.map I⟩) (.agg ⟨ys.map I⟩) = some (decide (xs = ys)) := by
 obtain ⟨ti, fs, h1, h2, _⟩ := zjx h;unfold eqA;simp only [h1, h2, hg, zqM h hs e1 e2];simp only [zm1, Bool.and_self, if_true, Bool.false_eq_true, if_false]
end
end Go.Proofs.YtlejimjgagfalaaGreatDoor
noncomputable section
namespace Go.Den
section
variable {P : Program} [PC P] {l : EL} {H : AHeap} {lo : Nat} {L : List (Option ABlk)} {rs : Array ResultVar} {Q : Value → AHeap → Prop}
theorem zcX {a t b off n z c : Nat} {ag s ro : Bool} {cs : List Value} {v w : Value} (hr : rs.toList = [.cell a t, .tmp c]) (ha : lk l a = some (.pointer (some ⟨b, off, none⟩))) (hb : (ext H lo L).get b = some (.cells cs z s ro)) (ht : szOf P t = some (n, ag)) (hp : pt ag n cs off = some v) (hw : lk l c = some w) :
  resultsA (ctxOf P) (ofA l) (ext H lo L) rs.toList = some [v, w] := by
 simp only [hr, resultsA, evalA, zaG, ha, zcr hb ht hp, hw]
omit [PC P] in
theorem zc6 {vs : List Value} (hc : Closed H) (hr : resultsA (ctxOf P) (ofA l) (ext H lo L) rs.toList = some vs) (hv : flatD 8 (packA vs) = true) (hq : Q (packA vs) H) : Fin P rs H Q ⟨ofA l, [], ext H lo L⟩ :=
 ⟨⟨_, vs, packA vs, H, rfl, hr, zcU hc (fun _ _ h => zaj hc h) hv, hq⟩⟩
end
end Go.Den
namespace Go.Proofs.YtlejimjgagfalaaGreatDoor
open Go Go.Den
set_option maxRecDepth 100000
abbrev m9 (a b c : Mk) : List Value := [I a.x, I a.y, I a.h, I b.x, I b.y, I b.h, I c.x, I c.y, I c.h]
theorem eqPt (a b c d : Int) : eqA Tryz.prog (ctxOf Tryz.prog) 59 (.agg ⟨[I a, I b]⟩) (.agg ⟨[I c, I d]⟩) = some (decide ([a, b] = [c, d])) :=
 zqN (n := 2) (xs := [a, b]) (ys := [c, d]) (by decide +kernel) (by decide +kernel) (by decide +kernel) rfl rfl
def detM (a b c : Mk) : Int := (b.x - a.x) * (c.y - a.y) - (b.y - a.y) * (c.x - a.x)
def numX (a b c : Mk) : Int := (b.h - a.h) * (c.y - a.y) - (c.h - a.h) * (b.y - a.y)
def numY (a b c : Mk) : Int := (c.h - a.h) * (b.x - a.x) - (b.h - a.h) * (c.x - a.x)
abbrev plV (x y : List UInt8) : Value := .agg ⟨[.string (tx x), .string (tx y)]⟩
def slopeV (a b c : Mk) : Value := if detM a b c = 0 then .tuple ⟨[plV [] [], I 14]⟩ else .tuple ⟨[plV (ofS (numX a b c) (detM a b c)) (ofS (numY a b c) (detM a b c)), I 0]⟩
theorem mulBd {a b p q : Int} (h1 : -p ≤ a) (h2 : a ≤ p) (h3 : -q ≤ b) (h4 : b ≤ q) : -(p * q) ≤ a * b ∧ a * b ≤ p * q := by
 have hp : 0 ≤ p := by omega
 have hq : 0 ≤ q := by omega
 have h : (a * b).natAbs ≤ p.natAbs * q.natAbs := by
  rw [Int.natAbs_mul]; exact Nat.mul_le_mul (by omega) (by omega)
 have e : ((p.natAbs * q.natAbs : Nat) : Int) = p * q := by
  rw [Int.natCast_mul]; congr 1 <;> omega
 omega
structure DifB (a b c : Mk) : Prop where
 p1 : -400000000 ≤ (b.x - a.x) * (c.y - a.y) ∧ (b.x - a.x) * (c.y - a.y) ≤ 400000000
 p2 : -400000000 ≤ (b.y - a.y) * (c.x - a.x) ∧ (b.y - a.y) * (c.x - a.x) ≤ 400000000
 p3 : -39999999960000 ≤ (b.h - a.h) * (c.y - a.y) ∧ (b.h - a.h) * (c.y - a.y) ≤ 39999999960000
 p4 : -39999999960000 ≤ (c.h - a.h) * (b.y - a.y) ∧ (c.h - a.h) * (b.y - a.y) ≤ 39999999960000
 p5 : -39999999960000 ≤ (c.h - a.h) * (b.x - a.x) ∧ (c.h - a.h) * (b.x - a.x) ≤ 39999999960000
 p6 : -39999999960000 ≤ (b.h - a.h) * (c.x - a.x) ∧ (b.h - a.h) * (c.x - a.x) ≤ 39999999960000
theorem difB {a b c : Mk} (ga : GoodM a) (gb : GoodM b) (gc : GoodM c) : DifB a b c := by
 obtain ⟨x1, x2, x3, x4, x5, x6⟩ := ga;obtain ⟨y1, y2, y3, y4, y5, y6⟩ := gb;obtain ⟨z1, z2, z3, z4, z5, z6⟩ := gc;refine ⟨mulBd (p := 20000) (q := 20000) ?_ ?_ ?_ ?_, mulBd (p := 20000) (q := 20000) ?_ ?_ ?_ ?_, mulBd (p := 1999999998) (q := 20000) ?_ ?_ ?_ ?_, mulBd (p := 1999999998) (q := 20000) ?_ ?_ ?_ ?_, mulBd (p := 1999999998) (q := 20000) ?_ ?_ ?_ ?_, mulBd (p := 1999999998) (q := 20000) ?_ ?_ ?_ ?_⟩ <;> omega
theorem zp4 {a b c : Mk} (h : (decide ([a.x, a.y] = [b.x, b.y]) || decide ([b.x, b.y] = [c.x, c.y]) || decide ([c.x, c.y] = [a.x, a.y])) = true) : detM a b c = 0 := by
 simp only [Bool.or_eq_true, decide_eq_true_eq, List.cons.injEq, and_true] at h;unfold detM;rcases h with (⟨h1, h2⟩ | ⟨h1, h2⟩) | ⟨h1, h2⟩
 ·rw [h1, h2]; simp
 ·rw [h1, h2, Int.mul_comm]; omega
 ·rw [h1, h2]; simp
set_option maxHeartbeats 4000000 in
theorem slope_c {H : AHeap} {a b c : Mk} (hG : Glo B0 H) (ga : GoodM a) (gb : GoodM b) (gc : GoodM c) : Ret Tryz.prog 22 [.agg ⟨m9 a b c⟩] H (slopeV a b c) H := by
 refine zae Tryz.func22 rfl rfl rfl fun hc => ?_
 have db := difB ga gb gc;have q1 : -9223372036854775808 ≤ (b.x - a.x) * (c.y - a.y) ∧ (b.x - a.x) * (c.y - a.y) ≤ 9223372036854775807 := by have := db.p1; omega
 have q2 : -9223372036854775808 ≤ (b.y - a.y) * (c.x - a.x) ∧ (b.y - a.y) * (c.x - a.x) ≤ 9223372036854775807 := by have := db.p2; omega
 have q3 : -9223372036854775808 ≤ (b.h - a.h) * (c.y - a.y) ∧ (b.h - a.h) * (c.y - a.y) ≤ 9223372036854775807 := by have := db.p3; omega
 have q4 : -9223372036854775808 ≤ (c.h - a.h) * (b.y - a.y) ∧ (c.h - a.h) * (b.y - a.y) ≤ 9223372036854775807 := by have := db.p4; omega
 have q5 : -9223372036854775808 ≤ (c.h - a.h) * (b.x - a.x) ∧ (c.h - a.h) * (b.x - a.x) ≤ 9223372036854775807 := by have := db.p5; omega
 have q6 : -9223372036854775808 ≤ (b.h - a.h) * (c.x - a.x) ∧ (b.h - a.h) * (c.x - a.x) ≤ 9223372036854775807 := by have := db.p6; omega
 have p1 := db.p1;have p2 := db.p2;have p3 := db.p3;have p4 := db.p4;have p5 := db.p5;have p6 := db.p6
 have hx : ∀ lo L, L[0]? = some (some (.cells (m9 a b c) 0 false false)) → Ret Tryz.prog 49 [.slice (some ⟨nb H 0, 0, none⟩) 3 3, I 3, .func (.func 50) #[] ⟨[]⟩] (ext H lo L) (I 0) (ext H lo L) := fun lo L h0 => by
  have := zkw (H := ext H lo L) (q := some ⟨nb H 0, 0, none⟩) (c := 3) (l := [a, b, c]) (most := 3) (zbs zgR (zaa (by exact h0))) ⟨Nat.le_refl _, (fun e => by cases e), (fun _ e => by cases e; rfl)⟩ (Nat.le_refl _) (by simp) (fun x hx => by
   simp only [List.mem_cons, List.not_mem_nil, or_false] at hx;rcases hx with rfl | rfl | rfl <;> assumption)
  exact this
 have cl1 := fun lo L => zry (H := ext H lo L) gb ga
 have cl2 := fun lo L => zry (H := ext H lo L) gc ga
 refine zst ?_;apply zad; exact zep rfl rfl rfl; exact rfl;apply zac (ht := rfl); exact hx _ _ rfl; exact rfl;refine zst ?_;refine zq0 ?_;apply zaf;refine zah rfl rfl ?_;refine zst ?_;apply zax (by assumption); decide +kernel;apply zau (hfree := rfl); intro _; exact zaL rfl rfl rfl (by exact rfl); exact rfl;refine zq13 ?_;apply zau (hfree := rfl); intro _; exact zaL rfl rfl rfl (by exact rfl); exact rfl;refine zq13 ?_;apply zaC (ht := rfl); exact cl1 _ _; exact rfl;apply zau (hfree := rfl); intro _; exact zaL rfl rfl rfl (by exact rfl); exact rfl;refine zq13 ?_;apply zau (hfree := rfl); intro _; exact zaL rfl rfl rfl (by exact rfl); exact rfl;refine zq13 ?_;apply zaC (ht := rfl); exact cl2 _ _; exact rfl;(iterate 2 (apply zj9 (hfree := rfl); exact zgj rfl rfl; exact rfl));refine zcV (k := 2) rfl (by decide +kernel) hc (by simp) (zav rfl rfl (zaa rfl) rfl rfl (zat _)) ?_;refine zcV (k := 3) rfl (by decide +kernel) hc (by simp) (zav rfl rfl (zaa rfl) rfl rfl (zat _)) ?_;apply zaz;obtain ⟨da, hda⟩ : ∃ m : Mk, m = ⟨b.x - a.x, b.y - a.y, b.h - a.h⟩ := ⟨_, rfl⟩
 obtain ⟨dc, hdc⟩ : ∃ m : Mk, m = ⟨c.x - a.x, c.y - a.y, c.h - a.h⟩ := ⟨_, rfl⟩
 refine zcH (l' := [(1, .pointer (some ⟨nb H 0, 0, none⟩)), (2, .pointer (some ⟨nb H 1, 0, none⟩)), (3, I 0), (5, .pointer (some ⟨nb H 2, 0, none⟩)), (6, .pointer (some ⟨nb H 3, 0, none⟩))]) (h' := ext H H.fresh [some (.cells (m9 a b c) 0 false false), some (.cells [.string (tx []), .string (tx [])] 0 false false), some (.cells [I (b.x - a.x), I (b.y - a.y), I (b.h - a.h)] 0 false false), some (.cells [I (c.x - a.x), I (c.y - a.y), I (c.h - a.h)] 0 false false)]) zsb (.refl _) ?_;refine zst ?_;refine zq17 ?_;refine zst ?_;refine zq17 ?_;refine zq33 ?_;refine zst ?_;refine zq17 ?_;refine zst ?_;refine zq17 ?_;refine zq33 ?_;refine zq27 ?_;refine zst ?_;apply zad; exact zaL rfl rfl rfl (by exact rfl); exact rfl;refine zst ?_;refine zq17 ?_;apply zad; exact zaL rfl rfl rfl (by exact rfl); exact rfl;refine zst ?_;refine zq17 ?_;apply zad; exact zdU rfl rfl trivial (eqPt _ _ _ _); exact rfl;refine zs1 ?_;obtain ⟨S, hS⟩ : ∃ S, S = (decide ([a.x, a.y] = [b.x, b.y]) || decide ([b.x, b.y] = [c.x, c.y]) || decide ([c.x, c.y] = [a.x, a.y])) := ⟨_, rfl⟩
 refine zdf [(2, .pointer (some ⟨nb H 1, 0, none⟩)), (3, I 0), (5, .pointer (some ⟨nb H 2, 0, none⟩)), (6, .pointer (some ⟨nb H 3, 0, none⟩)), (7, I (detM a b c)), (8, .bool S)] (ds := []) (h := ext H H.fresh [some (.cells (m9 a b c) 0 false false), some (.cells [.string (tx []), .string (tx [])] 0 false false), some (.cells [I (b.x - a.x), I (b.y - a.y), I (b.h - a.h)] 0 false false), some (.cells [I (c.x - a.x), I (c.y - a.y), I (c.h - a.h)] 0 false false)]) ?_ ?_
 ·refine zan rfl rfl (fun u1 => ?_) (fun u1 => ?_)
  ·have u1 : decide ([a.x, a.y] = [b.x, b.y]) = true := u1;have e : S = true := by rw [hS, u1]; rfl
   rw [e];refine zst ?_;exact zaP zsb
  ·have u1 : decide ([a.x, a.y] = [b.x, b.y]) = false := u1;apply zay (hd := rfl) (hl := rfl); exact zaL rfl rfl rfl (by exact rfl); exact rfl;refine zst ?_;refine zq25 ?_;apply zay (hd := rfl) (hl := rfl); exact zaL rfl rfl rfl (by exact rfl); exact rfl;refine zst ?_;refine zq25 ?_;apply zay (hd := rfl) (hl := rfl); exact zdU rfl rfl trivial (eqPt _ _ _ _); exact rfl;refine zst ?_;refine zan rfl rfl (fun u2 => ?_) (fun u2 => ?_)
   ·have u2 : decide ([b.x, b.y] = [c.x, c.y]) = true := u2;have e : S = true := by rw [hS, u1, u2]; rfl
    rw [e];refine zst ?_;exact zaP zsb
   ·have u2 : decide ([b.x, b.y] = [c.x, c.y]) = false := u2;have e : S = decide ([c.x, c.y] = [a.x, a.y]) := by rw [hS, u1, u2]; rfl
    rw [e];apply zay (hd := rfl) (hl := rfl); exact zaL rfl rfl rfl (by exact rfl); exact rfl;refine zst ?_;refine zq25 ?_;apply zay (hd := rfl) (hl := rfl); exact zaL rfl rfl rfl (by exact rfl); exact rfl;refine zst ?_;refine zq25 ?_;apply zay (hd := rfl) (hl := rfl); exact zdU rfl rfl trivial (eqPt _ _ _ _); exact rfl;refine zst ?_;exact zaP zsb
 by_cases hd : detM a b c = 0
 ·have ev : slopeV a b c = .tuple ⟨[plV [] [], I 14]⟩ := if_pos hd;rw [ev, hd];refine zst ?_;refine zan rfl rfl (fun u => ?_) (fun u => ?_)
  ·refine zst ?_;refine zam rfl rfl ?_;refine zst ?_;refine zq28 ?_;refine zq32 ?_;refine zst ?_;exact zc6 hc (zcX rfl rfl (zaa rfl) rfl rfl rfl) rfl ⟨rfl, rfl⟩
  ·refine zst ?_;refine zq1 ?_;refine zst ?_;refine zam rfl rfl ?_;refine zst ?_;refine zq28 ?_;refine zq32 ?_;refine zst ?_;exact zc6 hc (zcX rfl rfl (zaa rfl) rfl rfl rfl) rfl ⟨rfl, rfl⟩
 ·have ev : slopeV a b c = .tuple ⟨[plV (ofS (numX a b c) (detM a b c)) (ofS (numY a b c) (detM a b c)), I 0]⟩ := if_neg hd
  have hS0 : S = false := by
   cases S with
   | false => rfl
   | true => exact absurd (zp4 hS.symm) hd
  rw [ev, hS0];have hdB : -800000000 ≤ detM a b c ∧ detM a b c ≤ 800000000 := by unfold detM; omega
  have hxB : -79999999920000 ≤ numX a b c ∧ numX a b c ≤ 79999999920000 := by unfold numX; omega
  have hyB : -79999999920000 ≤ numY a b c ∧ numY a b c ≤ 79999999920000 := by unfold numY; omega
  have cx := fun lo L => of_c (H := ext H lo L) (n := numX a b c) (d := detM a b c) (Glo.ext hG) (by omega) (by omega) (by omega) (by omega) hd
  have cy := fun lo L => of_c (H := ext H lo L) (n := numY a b c) (d := detM a b c) (Glo.ext hG) (by omega) (by omega) (by omega) (by omega) hd
  refine zst ?_;refine zq1 ?_;refine zst ?_;refine zah rfl (decide_eq_false hd) ?_;refine zst ?_;refine zq17 ?_;refine zst ?_;refine zq17 ?_;refine zq33 ?_;refine zst ?_;refine zq17 ?_;refine zst ?_;refine zq17 ?_;refine zq33 ?_;refine zq27 ?_;refine zst ?_;apply zac (ht := rfl); exact cx _ _; exact rfl;refine zst ?_;refine zq17 ?_;refine zst ?_;refine zq17 ?_;refine zq33 ?_;refine zst ?_;refine zq17 ?_;refine zst ?_;refine zq17 ?_;refine zq33 ?_;refine zq27 ?_;refine zst ?_;apply zac (ht := rfl); exact cy _ _; exact rfl;refine zst ?_;refine zq19 ?_;apply zac (ht := rfl); exact first84 (l := [_, _]) (zaB (zaa rfl)) (by simp); exact rfl;refine zst ?_;refine zq0 ?_;apply zaf;refine zah rfl rfl ?_;refine zst ?_;refine zq28 ?_;refine zq32 ?_;refine zst ?_;exact zc6 hc (zcX rfl rfl (zaa rfl) rfl rfl rfl) rfl ⟨rfl, rfl⟩
open Go Go.Den Go.Lib
def rowsM (ms : List Mk) : Mat := ms.map fun m => [(m.x : Rat), (m.y : Rat), 1]
def hsM (ms : List Mk) : List Rat := ms.map fun m => (m.h : Rat)
theorem zcW (ms : List Mk) : Wide 3 (rowsM ms) := fun i hi => by
 have hi2 : i < ms.length := by simpa [rowsM] using hi
 simp [rowsM, hi2]
structure SloK (H : AHeap) (ms : List Mk) (i : Nat) (v4 v5 : Value) (bs : List Nat) (L : List (Option ABlk)) : Prop where
 le : i ≤ ms.length
 l0 : L[0]? = some (some (.cells (ms.flatMap mk) 0 false false))
 l1 : L[1]? = some (some (.cells [.string (tx []), .string (tx [])] 0 false false))
 rows : Lst H L 1 (rwV 3) 2 v4 bs
 len : bs.length = i
 row : ∀ j (h : j < bs.length) (h2 : j < (rowsM ms).length), ∃ k, bs[j] = nb H k ∧ L[k]? = some (some (.cells ((rowsM ms)[j].flatMap s1q) 1 false false))
 nodup : bs.Nodup
 right : Lst H L 1 s1q 2 v5 ((hsM ms).take i)
noncomputable def sloB : Code := inC (inC (sndK (fstC (sndK (sndK (sndK (Tryz.f23.body.getD .skip)))))))
noncomputable abbrev slNt : Nat := Tryz.f23.ntmps
theorem one_sV : (.string ⟨#[49]⟩ : Value) = sV 1 := by
 show _ = Value.string (tx (rt 1));rw [rt_1]; rfl
set_option maxHeartbeats 16000000 in
theorem zmz {H : AHeap} {ms : List Mk} {Qe : Nat → St → Prop} {Qr : St → Prop} {lo : Nat} (hcl : Closed H) (h3 : ms.length = 3) (g : ∀ m ∈ ms, GoodM m)
  (hk : ∀ v4 v5 bs L l, SloK H ms 3 v4 v5 bs L → Sub [(1, .pointer (some ⟨nb H 0, 0, none⟩)), (2, .pointer (some ⟨nb H 1, 0, none⟩)), (4, v4), (5, v5)] l → Qe 0 ⟨ofA l, [], ext H lo L⟩) :
  LT Tryz.prog none slNt sloB ⟨ofA [(1, .pointer (some ⟨nb H 0, 0, none⟩)), (2, .pointer (some ⟨nb H 1, 0, none⟩)), (4, .slice none 0 0), (5, .slice none 0 0), (6, I (0 : Nat))], [], ext H lo [some (.cells (ms.flatMap mk) 0 false false), some (.cells [.string (tx []), .string (tx [])] 0 false false)]⟩ Qe Qr := by
 refine zaA (α := Nat × Value × Value × List Nat × List (Option ABlk)) (fun a => [(1, .pointer (some ⟨nb H 0, 0, none⟩)), (2, .pointer (some ⟨nb H 1, 0, none⟩)), (4, a.2.1), (5, a.2.2.1), (6, I a.1)]) (fun a => ext H lo a.2.2.2.2) (fun a => SloK H ms a.1 a.2.1 a.2.2.1 a.2.2.2.1 a.2.2.2.2) (fun a => ms.length - a.1) (fun a ha ih => ?_) (0, .slice none 0 0, .slice none 0 0, [], _) ⟨by omega, rfl, rfl, .nil, rfl, by intro j h; simp at h, .nil, .nil⟩ zsb (.refl _);obtain ⟨i, v4, v5, bs, L⟩ := a;have ih' := fun i' v4' v5' bs' L' h1 h2 => ih (i', v4', v5', bs', L') h1 h2
 simp only at ha ih' ⊢;clear ih;have hle := ha.le;have hlen := ha.len;have hL0 := ha.l0;refine zst ?_;refine zq0 ?_;apply zaf;refine zai rfl (fun u => ?_) (fun u => ?_)
 ·have u : i < ms.length := by
   have u := of_decide_eq_true u;omega
  have gi := g _ (List.getElem_mem u);have g1 := gi.x1;have g2 := gi.x2;have g3 := gi.y1;have g4 := gi.y2;have g5 := gi.h1;have g6 := gi.h2;have cx := fun lo L => zgZ (H := ext H lo L) (n := ms[i].x) (by omega) (by omega)
  have cy := fun lo L => zgZ (H := ext H lo L) (n := ms[i].y) (by omega) (by omega)
  have ch := fun lo L => zgZ (H := ext H lo L) (n := ms[i].h) (by omega) (by omega)
  refine zst ?_;apply zax (by assumption); decide +kernel;(iterate 2 (refine zq5 ?_));apply zau (hfree := rfl); intro _; exact zaL rfl rfl rfl (by exact zb7 (by omega)); exact rfl;(iterate 2 (refine zq12 ?_));apply zaS (hfree := rfl); exact zaw rfl (by exact zaa (getApp (by assumption))) rfl (by exact zil (fun _ => rfl) (by omega) rfl); exact rfl;apply zaC (ht := rfl); exact cx _ _; exact rfl;refine zq5 ?_;apply zau (hfree := rfl); intro _; exact zaL rfl rfl rfl (by exact zb7 (by omega)); exact rfl;(iterate 2 (refine zq12 ?_));apply zaS (hfree := rfl); exact zaw rfl (by exact zaa (getApp (by assumption))) rfl (by exact zil (fun _ => rfl) (by omega) rfl); exact rfl;apply zaC (ht := rfl); exact cy _ _; exact rfl;(iterate 2 (apply zcf (hfree := rfl); exact zaM rfl rfl rfl rfl rfl rfl rfl; exact rfl));have h1l := (List.getElem?_eq_some_iff.1 ha.l1).1;refine zif (xs := [nb H L.length]) (lst := bs) (f := rwV 3) (m := 1) (k0 := 2) hcl rfl (by decide +kernel) (ha.rows.app _) (by simp <;> omega) (fun _ => rfl) (fun _ => rfl) rfl rfl rfl rfl rfl rfl (zaa (k := L.length + 1) (x := .cells [rwU 3 (nb H L.length)] 1 false false) (by simp; exact ⟨rfl, rfl⟩)) rfl (by simp) (by show (2 * (bs.length + 1) + 1000) * 24 ≤ 2 ^ 48; omega) (Nat.ne_of_beq_eq_false rfl) (Nat.ne_of_beq_eq_false rfl) rfl (fun v1 L1 hv1 hkeep1 hlen1 => ?_);have hrM : i < (rowsM ms).length := by simpa [rowsM] using u
  have hrow : (rowsM ms)[i] = [(ms[i].x : Rat), (ms[i].y : Rat), 1] := by simp [rowsM]
  have zne : ∀ (cs cs' : List Value) s s', ABlk.cells cs 0 s false ≠ ABlk.cells cs' 1 s' false := fun cs cs' s s' e => by
   injection e with _ e2; exact absurd e2 (by decide)
  have sne : ∀ (cs cs' : List Value), ABlk.cells cs 1 false false ≠ ABlk.cells cs' 1 true false := fun cs cs' e => by
   injection e with _ _ e2; cases e2
  have kp : ∀ j y, L[j]? = some (some y) → (bs ≠ [] → y ≠ ABlk.cells (bs.flatMap (rwV 3)) 1 true false) → L1[j]? = some (some y) := fun j y hy hn => hkeep1 j y (getApp hy) hn
  have m0 := kp 0 _ ha.l0 (fun _ => zne _ _ _ _);have m1 := kp 1 _ ha.l1 (fun _ => zne _ _ _ _)
  have hnew : L1[L.length]? = some (some (.cells ((rowsM ms)[i].flatMap s1q) 1 false false)) := by
   refine hkeep1 L.length _ ?_ (fun _ => sne _ _);rw [hrow];show _ = some (some (ABlk.cells [sV (ms[i].x : Rat), sV (ms[i].y : Rat), sV 1] 1 false false));rw [← one_sV];simp;exact ⟨rfl, rfl⟩
  have hrows1 : ∀ j (h : j < (bs ++ [nb H L.length]).length) (h2 : j < (rowsM ms).length), ∃ k, (bs ++ [nb H L.length])[j] = nb H k ∧ L1[k]? = some (some (.cells ((rowsM ms)[j].flatMap s1q) 1 false false)) := fun j hj hj2 => by
   rw [List.length_append, List.length_singleton] at hj;rcases Nat.lt_or_ge j bs.length with h1 | h1
   ·obtain ⟨k, hkk, hk2⟩ := ha.row j h1 hj2;exact ⟨k, by rw [List.getElem_append_left h1]; exact hkk, kp k _ hk2 (fun _ => sne _ _)⟩
   ·have e : j = i := by omega
    subst e;exact ⟨L.length, by rw [List.getElem_append_right h1]; simp, hnew⟩
  have hnd1 : (bs ++ [nb H L.length]).Nodup := by
   rw [List.nodup_append];refine ⟨ha.nodup, by simp, fun a h1 c h2 => ?_⟩;rw [List.mem_singleton.1 h2];obtain ⟨j, hj, rfl⟩ := List.getElem_of_mem h1;obtain ⟨k, hkk, hk2⟩ := ha.row j hj (by omega);rw [hkk];have := (List.getElem?_eq_some_iff.1 hk2).1;intro e;have := zfM.1 e;omega
  have hright1 : Lst H L1 1 s1q 2 v5 ((hsM ms).take i) := by
   rcases ha.right.out with ⟨e1, e2⟩ | ⟨e1, k, h0, e2, h3⟩
   ·exact ⟨.inl ⟨e1, e2⟩⟩
   ·exact ⟨.inr ⟨e1, k, h0, e2, kp k _ h3 (fun hb => zff e1 hb)⟩⟩
  have hl1 : L1.length = L.length + 3 := by simpa using hlen1
  have hbl1 : (bs ++ [nb H L.length]).length = i + 1 := by rw [List.length_append, hlen]; rfl
  obtain ⟨bs1, hv1, hnd1, hbl1, hrows1⟩ : ∃ bs1 : List Nat, Lst H L1 1 (rwV 3) 2 v1 bs1 ∧ bs1.Nodup ∧ bs1.length = i + 1 ∧ ∀ j (h : j < bs1.length) (h2 : j < (rowsM ms).length), ∃ k, bs1[j] = nb H k ∧ L1[k]? = some (some (.cells ((rowsM ms)[j].flatMap s1q) 1 false false)) := ⟨_, hv1, hnd1, hbl1, hrows1⟩
  clear hkeep1 kp hnew ha hrow hL0 hlen1 cx cy;refine zq14 ?_;apply zaz;refine zst ?_;apply zad; exact zaL rfl rfl rfl (by exact zb7 (by omega)); exact rfl;refine zst ?_;apply zad; exact zaw rfl (by exact zaa (getApp (by assumption))) rfl (by exact zil (fun _ => rfl) (by omega) rfl); exact rfl;simp only [List.map_nil, List.append_nil]
  skip;apply zac (ht := rfl); exact ch _ _; exact rfl;refine zq19 ?_;refine zi8 (xs := [(ms[i].h : Rat)]) (lst := (hsM ms).take i) (f := s1q) (m := 1) (k0 := 2) hcl (hright1.app _) (by simp <;> omega) (fun _ => rfl) (fun _ => rfl) rfl rfl rfl rfl rfl rfl (zaa List.getElem?_concat_length) rfl (by simp) ?_ (Nat.ne_of_beq_eq_false rfl) (Nat.ne_of_beq_eq_false rfl) rfl (fun v2 L2 hv2 hkeep2 hlen2 => ?_)
  ·exact Nat.le_trans (Nat.mul_le_mul_right _ (by simp only [List.length_take, hsM, List.length_map, List.length_cons, List.length_nil]; omega : _ ≤ 30000)) (Nat.le_of_ble_eq_true rfl)
  have hrows2 : Lst H L2 1 (rwV 3) 2 v1 bs1 := by
   rcases hv1.out with ⟨e1, e2⟩ | ⟨e1, k, h0, e2, h3⟩
   ·exact ⟨.inl ⟨e1, e2⟩⟩
   ·exact ⟨.inr ⟨e1, k, h0, e2, hkeep2 k _ (getApp h3) (fun hb e => zff hb e1 e.symm)⟩⟩
  refine zst ?_;refine zq4 ?_;refine zst ?_;refine zbn zsb (ih' (i + 1) v1 v2 bs1 L2 (by omega) ⟨by omega, hkeep2 0 _ (getApp m0) (fun _ => zne _ _ _ _), hkeep2 1 _ (getApp m1) (fun _ => zne _ _ _ _), hrows2, hbl1, fun j hj hj2 => ?_, hnd1, ?_⟩)
  ·obtain ⟨k, hkk, hk2⟩ := hrows1 j hj hj2;exact ⟨k, hkk, hkeep2 k _ (getApp hk2) (fun _ => sne _ _)⟩
  ·have hh : i < (hsM ms).length := by simpa [hsM] using u
   rw [List.take_succ_eq_append_getElem hh, show (hsM ms)[i] = (ms[i].h : Rat) by simp [hsM]];exact hv2
 ·have u : i = 3 := by
   have u := of_decide_eq_false u;omega
  subst u;apply zap;exact hk v4 v5 bs L _ ha zsb
theorem zhi {H : AHeap} {n : Nat} {M : Mat} {v : Value} {bs : List Nat} {L : List (Option ABlk)} {lo : Nat} (h : ClnK H n M M.length v bs L) (hm : 0 < M.length) : ∃ p, v = .slice p M.length M.length ∧ GridAt (ext H lo L) p n M := by
 have hl := h.len;rcases h.lst.out with ⟨e, _⟩ | ⟨_, k, _, rfl, hk⟩
 ·rw [e] at hl; simp at hl; omega
 ·refine ⟨some ⟨nb H k, 0, none⟩, by rw [hl], ⟨bs.map fun b => (some ⟨b, 0, none⟩, n), by rw [List.length_map]; exact hl, ?_, fun i a b => ?_⟩⟩
  ·have hg := zaa (H := H) (lo := lo) hk;rw [zdl] at hg;refine zaB (g := fun q : Option Addr × Nat => .slice q.1 n q.2) (z := 1) (s := true) (ro := false) ?_;rw [List.map_map]; exact hg
  ·rw [List.length_map] at b;obtain ⟨k2, e2, s2, hk2⟩ := h.row i b a;simp only [List.getElem_map];rw [e2];have hg := zaa (H := H) (lo := lo) hk2;rw [zdl] at hg;exact zaB (g := sV) hg
theorem solL_at {M : Mat} {b : List Rat} {n i : Nat} (hi : i < n) (h2 : i < (solL M b n).length) : (solL M b n)[i] = ent (pivK (wideM M b) (n + 1)).1 i n := by simp [solL]
set_option maxHeartbeats 16000000 in
theorem solve_c {H : AHeap} {p q : Option Addr} {cp cq n : Nat} {M : Mat} {b : List Rat} (hg : GridAt H p n M) (hq : SlAt H 1 s1q q b) (hb : b.length = M.length) (hw : Wide n M) (hn0 : 0 < n) (hn : n ≤ 100) (hm0 : 0 < M.length) (hm : M.length ≤ 100) (hnm : n ≤ M.length)
  (hz : SzP (n + 1) (wideM M b)) (hcols : (pivK (wideM M b) (n + 1)).2 = List.range n) :
  Ret Tryz.prog 102 [.slice p M.length cp, .slice q b.length cq] H (.tuple ⟨[.slice (some ⟨H.fresh, 0, none⟩) n n, .bool true]⟩) (H.add (.cells ((solL M b n).map sV) 1 true false)) := by
 refine zae Tryz.func102 rfl rfl rfl fun hc => ?_
 have cw := fun lo L => znj (H := ext H lo L) (c := cp) (hg.ext (zag hc)) (by intro e; rw [e] at hm0; simp at hm0)
 have hwl := zcd hb;have hww := zb2 hw hb;refine zst ?_;apply zac (ht := rfl); exact cw _ _; exact rfl;refine zst ?_;apply zar;refine zaN zsb (.refl _) (wide_w (cp := cp) (cq := cq) hc hg hq hb hw hn0 hn hm0 hm (fun v bs L l hC hsub => ?_));apply zaq; exact rfl;refine zef hsub ?_;rw [← hwl] at hC;obtain ⟨pw, rfl, hgw⟩ := zhi (lo := H.fresh) hC (by omega);have cpv := zlc (cp := (wideM M b).length) hgw hww (by omega) (by omega) (by omega) (by omega) hz;have hext : Ext H (ext H H.fresh L) := zag hc;have hfr : H.fresh ≤ (ext H H.fresh L).fresh := by rw [zal]; exact zbf _
 clear hsub hC hgw cw hg hq;refine zst ?_;refine zcx rfl cpv rfl (fun v h hh => ?_);obtain ⟨K, bs2, p2, rfl, hM, hs, hl⟩ := hh.out;clear cpv hh;have hE : Ext H h := hext.trans hM.ext;have hfh : H.fresh ≤ h.fresh := Nat.le_trans hfr (Nat.le_trans hM.k2 (Nat.le_of_lt hM.k1));clear hext hfr;rw [hcols] at hs ⊢;rw [List.length_range];have hPl := (zcg hww (n + 1)).len;obtain ⟨E, eE⟩ : ∃ E, E = (pivK (wideM M b) (n + 1)).1 := ⟨_, rfl⟩
 have hsol : ∀ i (hi : i < n) (h2 : i < (solL M b n).length), (solL M b n)[i] = ent E i n := fun i hi h2 => by rw [solL_at hi h2, eE]
 rw [← eE, hwl] at hPl;rw [← eE] at hM;have hsl := sol_len (M := M) (b := b) (n := n);rw [hwl];obtain ⟨S, eS⟩ : ∃ S, S = solL M b n := ⟨_, rfl⟩
 rw [← eS] at hsl ⊢;have hsol2 : ∀ i (hi : i < n) (h2 : i < S.length), S[i] = ent E i n := by subst eS; exact hsol
 clear hsol eE eS hcols hz hww hwl hw hb;have hcl := hM.clo;have cz := fun lo L => zeros_c (H := ext h lo L) (n := n) (by omega)
 simp only [zeR, zal] at cz;obtain ⟨Z, eZ⟩ : ∃ Z, Z = List.replicate n (0 : Rat) := ⟨_, rfl⟩
 have hZl : Z.length = n := by rw [eZ]; simp
 rw [← eZ] at cz;clear eZ
 have hZ1 : ∀ L : List (Option ABlk), L ++ lstL 1 s1q Z = L ++ [some (.cells (Z.map sV) 1 true false)] := fun L => by
  cases Z with
  | nil => simp at hZl; omega
  | cons a r => show L ++ [some (.cells ((a :: r).flatMap s1q) 1 true false)] = _; rw [zdl]
 have hZ2 : ∀ c, lstV c Z = .slice (some ⟨c, 0, none⟩) n n := fun c => by
  cases Z with
  | nil => simp at hZl; omega
  | cons a r => show Value.slice (some ⟨c, 0, none⟩) _ _ = _; rw [hZl]
 simp only [hZ1, hZ2] at cz;clear hZ1 hZ2;refine zcy (l' := [(38, .tuple ⟨[.slice (some ⟨K, 0, none⟩) n M.length, .slice p2 n n]⟩), (7, I n)]) (h' := ext h h.low []) zsb (zo0 hl) (by simp) ?_;refine zst ?_;apply zac (ht := rfl); exact cz _ _; exact rfl;refine zst ?_;apply zar;obtain ⟨b3, o3, cs3, z3, s3, ro3, rfl, hg3, hw3⟩ := hs.out (by intro e; have := congrArg List.length e; simp at this; omega);have hcl3 : (colI (List.range n)).length = n := by simp
 obtain ⟨z4, s4, hg4⟩ := hM.rows.top;have hbl := hM.rows.len;refine zaA (α := Nat × List (Option ABlk)) (fun a => [(7, I n), (9, .slice (some ⟨K, 0, none⟩) n M.length), (10, .slice (some ⟨b3, o3, none⟩) n n), (11, .slice (some ⟨nb h 0, 0, none⟩) n n), (12, I a.1)]) (fun a => ext h h.low a.2) (fun a => a.1 ≤ n ∧ a.2[0]? = some (some (.cells ((preK Z S a.1).map sV) 1 true false))) (fun a => n - a.1) (fun a ha ih => ?_) (0, [some (.cells (Z.map sV) 1 true false)]) ⟨Nat.zero_le _, by rw [zgL]; rfl⟩ zsb (.refl _);obtain ⟨i, L2⟩ := a;obtain ⟨hi, hL⟩ := ha;simp only at hi hL ih ⊢;have ih' := fun i' L' a1 a2 a3 => ih (i', L') a1 ⟨a2, a3⟩
 simp only at ih';clear ih cz;refine zst ?_;refine zq0 ?_;apply zaf;refine zai rfl (fun u => ?_) (fun u => ?_)
 ·simp only [decide_eq_true_eq, Int.ofNat_lt] at u;have hiE : i < E.length := by omega
  obtain ⟨z5, s5, hg5⟩ := hM.rows.row i hiE (by omega);have hEl := zb1 hM.rows.wide hiE;have hci : (colI (List.range n))[i]'(by rw [hcl3]; exact u) = (i : Int) := by simp
  have hen := zg7 hiE (show n < E[i].length by omega);have hSi := hsol2 i u (by omega);have hst := zim (l := Z) (g := S) (k := i) (by omega) (by omega);rw [hSi, hen] at hst;have hpl := zeJ (l := Z) (g := S) (k := i) (by omega) (by omega);have hlt0 : 0 < L2.length := (List.getElem?_eq_some_iff.1 hL).1;refine zst ?_;refine zq2 ?_;refine zq3 ?_;refine zst ?_;refine zq0 ?_;apply zaf;rw [hci]
  skip;refine zah rfl (by rw [beq_eq_false_iff_ne]; omega) ?_;apply zbb;apply zax (by assumption); decide +kernel;(iterate 3 (refine zq5 ?_));refine zq6 ?_;refine zq7 ?_;(iterate 2 (refine zq5 ?_));refine zq6 ?_;refine zq46 ?_;refine zq5 ?_;refine zq6 ?_;refine zq46 ?_;refine zq47 ?_;rw [hci, Int.toNat_natCast];refine zdg (k := 0) (x := .cells ((preK Z S (i + 1)).map sV) 1 true false) rfl (by decide +kernel) hcl hlt0 (zav rfl rfl (zaa hL) rfl (by rw [← hst]; exact zbj (g := sV) (by omega) rfl rfl) (zat _)) (fun L3 l3 o3 k3 => ?_);apply zaz;refine zst ?_;refine zq4 ?_;refine zst ?_;simp only [List.map_nil, List.append_nil];exact zaN zsb (.refl _) (ih' (i + 1) L3 (by omega) (by omega) k3)
 ·have u : i = n := by simp at u; omega
  subst u;rw [show preK Z S i = S from by have := zin (l := Z) (g := S) (by omega); rw [hZl] at this; exact this] at hL;apply zap;apply zaq; exact rfl;(iterate 7 (refine zs1 ?_));have hb0 : nb h 0 % 2 = 0 ∧ H.fresh ≤ nb h 0 := ⟨zao.1 (zat 0), Nat.le_trans hfh (zbf 0)⟩
  refine ⟨⟨_, _, .tuple ⟨[.slice (some ⟨H.fresh, 0, none⟩) i i, .bool true]⟩, _, rfl, zdD rfl, zf2 hc (fun _ _ hx => zaj hcl (hE _ _ hx)) hb0 (zaa hL) (by rw [List.all_map]; simp [flatD]) (by simp [packA, renV, renL, zbw (H := H) hb0]), rfl, rfl⟩⟩
theorem zoh {C : Nat} {x : Rat} (h : QB C x) (hC : C < 1000000000 ^ 100) : RSz 100 x := ⟨za3 (Nat.lt_of_le_of_lt h.n hC), za3 (Nat.lt_of_le_of_lt h.d hC)⟩
theorem bK_step {B : Nat} (h : 0 < B) (n : Nat) : bK B n ≤ bK B (n + 1) := by
 have h0 := zlT h n;show bK B n ≤ 2 * bK B n * bK B n;exact Nat.le_trans (by omega) (Nat.le_mul_of_pos_right _ h0)
theorem zpG {B : Nat} (h : 0 < B) {m n : Nat} (hmn : m ≤ n) : bK B m ≤ bK B n := by
 induction hmn with
 | refl => exact Nat.le_refl _
 | step _ ih => exact Nat.le_trans ih (bK_step h _)
theorem zro {B w : Nat} {M : Mat} (hB : 0 < B) (hw : Wide w M) (h : BM B M) (hC : bK B w * bK B w < 1000000000 ^ 100) : SzP w M := by
 have hq : ∀ c, c ≤ w → ∀ i k, QB (bK B w) (ent (pivK M c).1 i k) := fun c hc i k => ((zpB hB hw h c).qb i k).mono (zpG hB hc)
 have h1 : bK B w ≤ bK B w * bK B w := Nat.le_mul_of_pos_right _ (zlT hB w)
 have hs : ∀ c, c < w → ∀ r i, r < M.length → i < M.length → ent (pivK M c).1 i c ≠ 0 → ∀ a k, QB (bK B w) (ent (scaleM (swapM (pivK M c).1 i r) r (ent (swapM (pivK M c).1 i r) r c)⁻¹) a k) := by
  intro c hc r i hr hi hne a k;have hl := (zcg hw c).len;have hi' : i < (pivK M c).1.length := by omega
  have hr' : r < (pivK M c).1.length := by omega
  have e1 : ∀ d, ent (swapM (pivK M c).1 i r) r d = ent (pivK M c).1 i d := fun d => by rw [zcL hi' hr', if_pos rfl]
  rw [zeV (by rw [zbm]; exact hr'), e1, e1];split
  ·exact ((zpB hB hw h c).div i i k c hne).mono (zpG hB (Nat.le_of_lt hc))
  ·rw [zcL hi' hr'];split
   ·exact hq c (Nat.le_of_lt hc) i k
   ·split
    ·exact hq c (Nat.le_of_lt hc) r k
    ·exact hq c (Nat.le_of_lt hc) a k
 exact ⟨fun c hc i k => zoh (hq c hc i k) (Nat.lt_of_le_of_lt h1 hC), fun c hc r i hr hi hne a k => zoh (hs c hc r i hr hi hne a k) (Nat.lt_of_le_of_lt h1 hC), fun c hc r i hr hi hne a k => zoh ((hs c hc r i hr hi hne a c).mul (hs c hc r i hr hi hne r k)) hC⟩
theorem bK4 : bK 999999999 4 * bK 999999999 4 < 1000000000 ^ 100 := by decide +kernel
theorem bK3 : bK 999999999 3 * bK 999999999 3 < 1000000000 ^ 100 := by decide +kernel
def onlyV (H : AHeap) (n : Nat) (M : Mat) : Value := if (pivK M n).2.length < n then .tuple ⟨[.slice none 0 0, .bool false]⟩ else .tuple ⟨[.slice (some ⟨H.fresh, 0, none⟩) n n, .bool true]⟩
def onlyH (H : AHeap) (n : Nat) (M : Mat) (b : List Rat) : AHeap := if (pivK M n).2.length < n then H else H.add (.cells ((solL M b n).map sV) 1 true false)
theorem cols_sq {n : Nat} {M : Mat} {b : List Rat} (hw : Wide n M) (hb : b.length = M.length) (hm : M.length = n) (hf : (pivK M n).2.length = n) : (pivK (wideM M b) (n + 1)).2 = List.range n := by
 have ht := (zgF hw).2 hf;have h1 := zgm hw hb ht;have hl := (zcg (zb2 hw hb) n).len;rw [zcd hb] at hl;have := zcc (M := wideM M b) (c := n) (by omega) 1;rw [this];exact zgN _ h1
theorem only_c {H : AHeap} {p q : Option Addr} {cp cq n : Nat} {M : Mat} {b : List Rat} (hg : GridAt H p n M) (hq : SlAt H 1 s1q q b) (hb : b.length = n) (hw : Wide n M) (hn0 : 0 < n) (hn : n ≤ 100) (hm : M.length = n)
  (hz : SzP n M) (hz2 : SzP (n + 1) (wideM M b)) :
  Ret Tryz.prog 58 [.slice p n cp, .slice q n cq] H (onlyV H n M) (onlyH H n M b) := by
 have cr := fun lo L (hE : Ext H (ext H lo L)) => rank_c (H := ext H lo L) (cp := cp) (hg.ext hE) hw hn0 (by omega) (by omega) (by omega) hz
 rw [hm] at cr;refine zae Tryz.func58 rfl rfl rfl fun hc => ?_
 have hle := zdj M n;unfold onlyV onlyH;by_cases u : (pivK M n).2.length < n
 ·rw [if_pos u, if_pos u];have e1 : decide (((pivK M n).2.length : Int) < (n : Int)) = true := decide_eq_true (by omega);refine zst ?_;apply zac (ht := rfl); exact cr _ _ (zag hc); exact rfl;refine zst ?_;refine zq0 ?_;apply zaf;refine zam rfl e1 ?_;refine zst ?_;exact zab hc rfl rfl ⟨rfl, rfl⟩
 ·rw [if_neg u, if_neg u];have e1 : decide (((pivK M n).2.length : Int) < (n : Int)) = false := decide_eq_false (by omega);have hcols := cols_sq hw (by omega) hm (by omega) (b := b);have cs := fun lo L (hE : Ext H (ext H lo L)) => solve_c (H := ext H lo L) (cp := cp) (cq := cq) (hg.ext hE) (hq.ext hE) (by omega) hw hn0 hn (by omega) (by omega) (by omega) hz2 hcols
  rw [hm, hb] at cs;simp only [zal, za2] at cs;refine zst ?_;apply zac (ht := rfl); exact cr _ _ (zag hc); exact rfl;refine zst ?_;refine zq0 ?_;apply zaf;refine zah rfl e1 ?_;refine zst ?_;apply zac (ht := rfl); exact cs _ _ (zag hc); exact rfl;refine zst ?_;exact zci (k := 0) hc rfl rfl (by rw [List.all_map]; simp [flatD]) (by simp [packA, renV, renL, zbw ⟨zao.1 (zat 0), zbf 0⟩]) ⟨rfl, rfl⟩
end Go.Proofs.YtlejimjgagfalaaGreatDoor
