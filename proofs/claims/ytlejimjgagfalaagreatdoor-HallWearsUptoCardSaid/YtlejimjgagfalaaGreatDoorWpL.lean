import Derived.Test.YtlejimjgagfalaaGreatDoorQaB
import Derived.Test.YtlejimjgagfalaaGreatDoorAsF
import Derived.Test.YtlejimjgagfalaaGreatDoorHaC
import Derived.Test.YtlejimjgagfalaaGreatDoorStA
import Derived.Test.YtlejimjgagfalaaGreatDoorStC
import Derived.Test.YtlejimjgagfalaaGreatDoorOpA
import Derived.Test.YtlejimjgagfalaaGreatDoorMeA
import Derived.Test.YtlejimjgagfalaaGreatDoorQmF
noncomputable section
namespace Go.Proofs.YtlejimjgagfalaaGreatDoor
open Go Go.Den
set_option maxRecDepth 100000
def lenB (x : Bk) : Int := x.to - x.frm
def wornL : List Bk → Int → Int
 | [], _ => -1
 | x :: r, lim => if lim ≤ lenB x then x.frm + lim - 1 else wornL r (lim - lenB x)
def ltB (x y : Bk) : Bool := decide (x.frm - y.frm < 0)
theorem ltB_iff {x y : Bk} : ltB x y = true ↔ x.frm < y.frm := by unfold ltB; rw [decide_eq_true_eq]; omega
theorem zqv {x y : Bk} : ltB x y = false ↔ ¬ x.frm < y.frm := by unfold ltB; rw [decide_eq_false_iff_not]; omega
theorem weakB : Weak ltB := ⟨fun a b h => by rw [ltB_iff] at h; rw [zqv]; omega, fun a b c h1 h2 => by rw [zqv] at h1 h2 ⊢; omega⟩
structure BkIn (x : Bk) : Prop where
 f0 : 0 ≤ x.frm
 f1 : x.frm ≤ 99999
 t0 : 0 ≤ x.to
 t1 : x.to ≤ 99999
 lt : x.frm < x.to
theorem worn0_c {H : AHeap} {lim : Int} : Ret Tryz.prog 48 [.slice none 0 0, I lim] H (I (wornL [] lim)) H := by
 refine zae Tryz.func48 rfl rfl rfl fun hc => ?_
 refine zst ?_;apply zac (ht := rfl); exact zpU; exact rfl;refine zst ?_;apply zar;apply zdK;refine zst ?_;refine zq0 ?_;refine zst ?_;refine zah rfl rfl ?_;apply zap;apply zaq; exact rfl;refine zst ?_;exact zab hc rfl rfl ⟨rfl, rfl⟩
def useS (u : List Int) (n : Int) (x : Bk) : List Int := u.set n.toNat (u[n.toNat]?.getD 0 + lenB x)
def useI (n : Nat) (l : List Bk) (A : List Int) : Nat → List Int
 | 0 => List.replicate n 0
 | i + 1 => match l[i]?, A[i]? with
  | some x, some k => useS (useI n l A i) k x
  | _, _ => useI n l A i
theorem zdc {n : Nat} {l : List Bk} {A : List Int} : ∀ {i : Nat}, (useI n l A i).length = n
 | 0 => by simp [useI]
 | i + 1 => by
  simp only [useI];split
  ·unfold useS; rw [List.length_set, zdc]
  ·exact zdc
theorem ziX {n : Nat} {l : List Bk} {A : List Int} {i : Nat} (h : i < l.length) (hA : i < A.length) : useI n l A (i + 1) = useS (useI n l A i) A[i] l[i] := by
 simp only [useI, List.getElem?_eq_getElem h, List.getElem?_eq_getElem hA]
theorem zj2 {n : Nat} {l : List Bk} {A : List Int} (hl : ∀ x ∈ l, 0 ≤ lenB x ∧ lenB x ≤ 99999) : ∀ (i : Nat), ∀ y ∈ useI n l A i, 0 ≤ y ∧ y ≤ 99999 * (i : Int)
 | 0, y, h => by
  simp only [useI] at h
  rw [(List.mem_replicate.1 h).2]; simp
 | i + 1, y, h => by
  have ih := zj2 (A := A) (n := n) hl i;have key : ∀ y ∈ useI n l A i, 0 ≤ y ∧ y ≤ 99999 * ((i + 1 : Nat) : Int) := fun y h => by have := ih y h; omega
  simp only [useI] at h;split at h
  ·rename_i x m hx hm;have hb := hl x (List.mem_of_getElem? hx);unfold useS at h;rcases List.mem_or_eq_of_mem_set h with h | rfl
   ·exact key y h
   ·cases e2 : (useI n l A i)[m.toNat]? with
    | none => simp only [Option.getD_none]; omega
    | some z =>
     have := ih z (List.mem_of_getElem? e2);simp only [Option.getD_some]; omega
  ·exact key y h
def usedV (t : List Tb) (l : List Bk) (A : List Int) : List Int := useI t.length l A l.length
def ownB (l : List Bk) (A : List Int) (n : Nat) : Nat → List Bk
 | 0 => []
 | i + 1 => match l[i]? with
  | some x => if A[i]? = some (n : Int) then ownB l A n i ++ [x] else ownB l A n i
  | none => ownB l A n i
theorem zgO {l : List Bk} {A : List Int} {n i : Nat} (h : i < l.length) : ownB l A n (i + 1) = if A[i]? = some (n : Int) then ownB l A n i ++ [l[i]] else ownB l A n i := by
 simp only [ownB, List.getElem?_eq_getElem h]
theorem zli {l : List Bk} {A : List Int} {n : Nat} : ∀ i, (ownB l A n i).length ≤ i
 | 0 => Nat.le_refl _
 | i + 1 => by
  have := zli (l := l) (A := A) (n := n) i;simp only [ownB];split
  ·split
   ·simp; omega
   ·omega
  ·omega
theorem zeM {l : List Bk} {A : List Int} {n : Nat} : ∀ i, ∀ x ∈ ownB l A n i, x ∈ l
 | 0, x, h => by simp [ownB] at h
 | i + 1, x, h => by
  simp only [ownB] at h;split at h
  ·rename_i y hy;split at h
   ·rcases List.mem_append.1 h with h | h
    ·exact zeM i x h
    ·rw [List.mem_singleton.1 h]; exact List.mem_of_getElem? hy
   ·exact zeM i x h
  ·exact zeM i x h
def wornK (l : List Bk) (A : List Int) (lim : Int) (n : Nat) : Int := wornL (isort ltB (ownB l A n l.length)) lim
def wornV (t : List Tb) (l : List Bk) (A : List Int) (lim : Int) : List Int := (List.range t.length).map (wornK l A lim)
theorem zmK {f : Nat → Int} (i : Nat) : (List.range (i + 1)).map f = (List.range i).map f ++ [f i] := by rw [List.range_succ, List.map_append]; rfl
theorem zpC {x : Bk} (h : BkOk x) : BkIn x := ⟨h.f0, h.f1, h.t0, h.t1, h.lt⟩
theorem zhl {t : List Tb} {l : List Bk} {A : List Int} (h : casE t l A = 0) : bothE t l = 0 ∧ A.length = l.length ∧ chkA t l A = 0 := by
 unfold casE at h;have ha := za4 h;have h2 := zdy (ha (whenL ((A.length : Int) != l.length) 2) (by simp)) (by decide);refine ⟨ha _ (by simp), ?_, ha _ (by simp)⟩;have : (A.length : Int) = l.length := by simpa using h2
 omega
theorem zpz {t : List Tb} {l : List Bk} {A : List Int} (h : chkA t l A = 0) {i : Nat} (hi : i < l.length) (hA : i < A.length) : 0 ≤ A[i] ∧ A[i] < t.length := by
 have h1 : chkI t l A i = 0 := by
  unfold chkA at h;exact za4 h _ (List.mem_map.2 ⟨i, List.mem_range.2 hA, rfl⟩)
 rw [zhj hi hA] at h1;by_cases e : A[i] < 0 ∨ A[i] ≥ t.length
 ·rw [if_pos e] at h1; exact absurd h1 (by decide)
 ·omega
theorem zoS {t : List Tb} {l : List Bk} (h : bothE t l = 0) : ∀ x ∈ l, 0 ≤ lenB x ∧ lenB x ≤ 99999 := fun x hx => by
 have := (zhm h).ok x hx;have h1 := this.f0;have h2 := this.lt;have h3 := this.t1;unfold lenB;omega
def usedVal (H : AHeap) (t : List Tb) (l : List Bk) (A : List Int) : Value := .tuple ⟨[if casE t l A = 0 then .slice (some ⟨H.fresh, 0, none⟩) t.length t.length else .slice none 0 0, I (casE t l A)]⟩
def usedH (H : AHeap) (t : List Tb) (l : List Bk) (A : List Int) : AHeap := if casE t l A = 0 then H.add (.cells ((usedV t l A).map I) 1 false false) else H
theorem zeD : ∀ n, repl [I 0] n = (List.replicate n (0 : Int)).map I
 | 0 => rfl
 | n + 1 => by simp [repl, zeD n, List.replicate_succ]
set_option maxHeartbeats 8000000 in
theorem Used_c {H : AHeap} {q r w : Option Addr} {c d e : Nat} {t : List Tb} {l : List Bk} {A : List Int} (hs : SlAt H 2 tb q t) (hlow : LowS q c t.length) (hn : t.length < 1000000) (hr : SlAt H 4 bk r l) (hlow2 : LowS r d l.length) (hm : l.length < 1000000) (hw : SlAt H 1 i1 w A) (hA : A.length < 1000000) :
  Ret Tryz.prog 9 [.slice q t.length c, .slice r l.length d, .slice w A.length e] H (usedVal H t l A) (usedH H t l A) := by
 refine zae Tryz.func9 rfl rfl rfl fun hc => ?_
 refine zst ?_;apply zac (ht := rfl); exact ze9 (hs.ext (zag hc)) hlow hn (hr.ext (zag hc)) hlow2 hm (hw.ext (zag hc)) hA; exact rfl;refine zst ?_;refine zq0 ?_;apply zaf;refine zai rfl (fun u => ?_) (fun u => ?_)
 ·have u : casE t l A ≠ 0 := by simpa using u
  unfold usedVal usedH;rw [if_neg u, if_neg u];refine zst ?_;exact zab hc rfl rfl ⟨rfl, rfl⟩
 have u : casE t l A = 0 := by simpa using u
 obtain ⟨hb, hAl, hk⟩ := zhl u;have hlb := zoS hb;have hok := (zhm hb).ok;unfold usedVal usedH;rw [if_pos u, if_pos u, u];refine zst ?_;apply zbO; exact zcO rfl rfl rfl rfl rfl rfl (Nat.le_refl _) (by omega) (Nat.le_trans (Nat.mul_le_mul_left _ (Nat.le_of_lt hn)) (Nat.le_of_ble_eq_true rfl)); exact rfl;refine zcy (l' := [(0, .slice q t.length c), (1, .slice r l.length d), (2, .slice w A.length e), (21, .slice (some ⟨nb H 0, 0, none⟩) t.length t.length)]) (h' := ext H H.fresh ([] ++ [some (.cells (repl [I 0] t.length) 1 false false)])) zsb (.refl _) (by simp) ?_;have w0 : repl [I 0] t.length = (useI t.length l A 0).map I := by rw [zeD]; rfl
 rw [w0];refine zst ?_;apply zar;refine zaA (α := Nat × List (Option ABlk)) (fun a => [(2, .slice w A.length e), (9, .slice (some ⟨nb H 0, 0, none⟩) t.length t.length), (22, .slice r l.length d), (23, I l.length), (24, I a.1)]) (fun a => ext H H.fresh a.2) (fun a => a.1 ≤ l.length ∧ a.2[0]? = some (some (.cells ((useI t.length l A a.1).map I) 1 false false))) (fun a => l.length - a.1) (fun a ha ih => ?_) (0, [some (.cells ((useI t.length l A 0).map I) 1 false false)]) ⟨Nat.zero_le _, rfl⟩ zsb (.refl _);obtain ⟨i, L⟩ := a;obtain ⟨hi, hL⟩ := ha;simp only at hi hL ih ⊢;have ih' := fun i' L' a1 a2 a3 => ih (i', L') a1 ⟨a2, a3⟩
 simp only at ih';clear ih;refine zst ?_;refine zq0 ?_;refine zst ?_;refine zai rfl (fun v => ?_) (fun v => ?_)
 ·simp only [decide_eq_true_eq, Int.ofNat_lt] at v;have hiA : i < A.length := by omega
  obtain ⟨b2, o2, cs2, z2, st2, ro2, rfl, hg2, hw2⟩ := hr.out (by intro e; rw [e] at v; simp at v);obtain ⟨b5, o5, cs5, z5, st5, ro5, rfl, hg5, hw5⟩ := hw.out (by intro e; rw [e] at hiA; simp at hiA);have hk1 := zpz hk v hiA;have hx := hok _ (List.getElem_mem v);have x0 := hx.f0;have x1 := hx.f1;have x2 := hx.t0;have x3 := hx.t1;have x4 := hx.lt;have us := ziX (n := t.length) v hiA;have ul := zdc (n := t.length) (l := l) (A := A) (i := i);have ub := zj2 (A := A) (n := t.length) hlb i;obtain ⟨U, hU⟩ : ∃ U, U = useI t.length l A i := ⟨_, rfl⟩
  rw [← hU] at hL us ul ub;clear hU;have hkt : A[i].toNat < U.length := by omega
  have ub1 := ub _ (List.getElem_mem hkt);have us2 : U.set A[i].toNat (U[A[i].toNat] + (l[i].to - l[i].frm)) = useI t.length l A (i + 1) := by rw [us]; unfold useS lenB; rw [List.getElem?_eq_getElem hkt, Option.getD_some]
  refine zst ?_;refine zq2 ?_;refine zq15 ?_;refine zst ?_;refine zq16 ?_;rw [set_mid rfl];have hL1 := getApp (m := [some (ABlk.cells (bk l[i]) 0 false false)]) hL;have hx1 : (L ++ [some (ABlk.cells (bk l[i]) 0 false false)])[L.length]? = some (some (.cells (bk l[i]) 0 false false)) := List.getElem?_concat_length;refine zcH (l' := [(2, .slice (some ⟨b5, o5, none⟩) A.length e), (9, .slice (some ⟨nb H 0, 0, none⟩) t.length t.length), (10, I i), (11, .pointer (some ⟨nb H L.length, 0, none⟩)), (22, .slice (some ⟨b2, o2, none⟩) l.length d), (23, I l.length), (24, I i)]) (h' := ext H H.fresh (L ++ [some (.cells (bk l[i]) 0 false false)])) zsb (.refl _) ?_;obtain ⟨k, hkk⟩ : ∃ k, k = L.length := ⟨_, rfl⟩
  obtain ⟨L1, hL1e⟩ : ∃ L1, L1 = L ++ [some (ABlk.cells (bk l[i]) 0 false false)] := ⟨_, rfl⟩
  rw [← hL1e] at hL1 hx1 ⊢;rw [← hkk] at hx1 ⊢;have hlt0 : 0 < L1.length := (List.getElem?_eq_some_iff.1 hL1).1;clear hL1e hkk hL;rw [← ul];apply zax (by assumption); decide +kernel;(iterate 3 (refine zq5 ?_));refine zq6 ?_;refine zq7 ?_;refine zq47 ?_;apply zaS (hfree := rfl); exact zaw rfl (by exact zaa (getApp (by assumption))) rfl (by exact zdH (by omega)); exact rfl;refine zq12 ?_;refine zq35 ?_;refine zq12 ?_;refine zq35 ?_;refine zq30 ?_;refine zq31 ?_;refine zq47 ?_;refine zdg (k := 0) rfl (by decide +kernel) hc (by simpa using hlt0) (zav rfl rfl (zaa (by simpa using hL1)) rfl (zbj (by omega) rfl rfl) (zat _)) (fun L3 l3 o3 k3 => ?_);apply zaz;apply zc8;refine zq4 ?_;refine zst ?_;simp only [List.map_nil, List.append_nil];rw [ul];exact zaN zsb (.refl _) (ih' (i + 1) L3 (by omega) (by omega) (by rw [← us2]; exact k3))
 have v : i = l.length := by simp at v; omega
 subst v;apply zap;apply zaq; exact rfl;refine zst ?_;exact zci (k := 0) hc rfl hL (zg0 _) (by simp [packA, renV, renL, zbw ⟨zao.1 (zat 0), zbf 0⟩]) ⟨rfl, rfl⟩
def wornX (t : List Tb) (l : List Bk) (A : List Int) (lim : Int) : Int := firstL [casE t l A, whenL (outL lim 1 999999999) 3]
def wornO (t : List Tb) (l : List Bk) (A : List Int) (lim : Int) : List Int := if wornX t l A lim ≠ 0 then [] else wornV t l A lim
theorem zir {l : List Bk} {A : List Int} {n : Nat} {x : Bk} : ∀ i, i ≤ l.length → (x ∈ ownB l A n i ↔ ∃ j, ∃ h : j < l.length, j < i ∧ A[j]? = some (n : Int) ∧ l[j] = x)
 | 0, _ => by simp [ownB]
 | i + 1, hi => by
  have h1 : i < l.length := by omega
  have ih := zir (l := l) (A := A) (n := n) (x := x) i (by omega);rw [zgO h1];by_cases e : A[i]? = some (n : Int)
  ·rw [if_pos e, List.mem_append, ih, List.mem_singleton];constructor
   ·rintro (⟨j, h, g1, g2, g3⟩ | rfl)
    ·exact ⟨j, h, by omega, g2, g3⟩
    ·exact ⟨i, h1, by omega, e, rfl⟩
   ·rintro ⟨j, h, g1, g2, g3⟩
    by_cases ej : j = i
    ·subst ej; exact .inr g3.symm
    ·exact .inl ⟨j, h, by omega, g2, g3⟩
  ·rw [if_neg e, ih];constructor
   ·rintro ⟨j, h, g1, g2, g3⟩
    exact ⟨j, h, by omega, g2, g3⟩
   ·rintro ⟨j, h, g1, g2, g3⟩
    have : j ≠ i := by rintro rfl; exact e g2
    exact ⟨j, h, by omega, g2, g3⟩
theorem zlh {l : List Bk} {A : List Int} {n : Nat} (hs : ∀ i k (h : i < l.length) (h2 : k < i), A[i]? = some (n : Int) → A[k]? = some (n : Int) → meetB l[i] (l[k]'(by omega)) = false) : ∀ i, i ≤ l.length → (ownB l A n i).Pairwise fun a b => meetB b a = false
 | 0, _ => .nil
 | i + 1, hi => by
  have h1 : i < l.length := by omega
  have ih := zlh hs i (by omega);rw [zgO h1];by_cases e : A[i]? = some (n : Int)
  ·rw [if_pos e];refine List.pairwise_append.2 ⟨ih, List.pairwise_singleton .., fun a ha b hb => ?_⟩;rw [List.mem_singleton.1 hb];obtain ⟨j, h, g1, g2, rfl⟩ := (zir i (by omega)).1 ha;exact hs i j h1 g1 e g2
  ·rw [if_neg e]; exact ih
def Seq (l : List Bk) : Prop := l.Pairwise fun a b => a.to ≤ b.frm
theorem zpR {T : List Bk} (ht : ∀ x ∈ T, x.frm < x.to) (hs : T.Pairwise fun a b => meetB b a = false) : Seq (isort ltB T) := by
 have hp := zd6 (lt := ltB) T;have h1 := zjw weakB T;have h2 : (isort ltB T).Pairwise fun a b => meetB b a = false := (hp.pairwise_iff (fun {a b} h => by rw [zfo]; exact h)).2 hs
 unfold Seq;refine (List.Pairwise.and (R := fun a b : Bk => ltB b a = false) h1 h2).imp_of_mem fun {a b} ha hb hab => ?_
 obtain ⟨k1, k2⟩ := hab;have k1 := zqv.1 k1;have m1 := ht a (hp.mem_iff.1 ha);have m2 := ht b (hp.mem_iff.1 hb)
 have k2 : ¬ (b.frm < a.to ∧ a.frm < b.to) := by
  rw [← zjt, k2]; simp
 omega
section
variable {t : List Tb} {l : List Bk} {A : List Int}
theorem zou (hP : AsgP t l A) (n : Nat) : (ownB l A n l.length).Pairwise fun a b => meetB b a = false :=
 zlh (fun i k h h2 e1 e2 => hP.sep i k h (by omega) (by omega) (by rw [e1, e2])) _ (Nat.le_refl _)
end
open Go Go.Den Go.Sort Go.Shelf Go.RowKit
abbrev BkI := {x : Bk // BkIn x}
instance : Inhabited BkI := ⟨⟨⟨ByteArray.empty, ByteArray.empty, 0, 1⟩, by constructor <;> decide⟩⟩
abbrev encI (x : BkI) : List Value := bk x.1
theorem zjY (x y : BkI) (W : World) : Calls Tryz.prog 94 #[.agg (encI x).toArray, .agg (encI y).toArray] W fun e w' => e = .returned (.int .i64 (x.1.frm - y.1.frm)) ∧ ∃ q os', w' = grow (W.drewN q) os' := by
 obtain ⟨⟨xn, xk, xf, xt⟩, hx⟩ := x;obtain ⟨⟨yn, yk, yf, yt⟩, hy⟩ := y;have hwr : IntKind.i64.wrap (xf - yf) = xf - yf := wrap_i64 (by have := hx.f0; have := hx.f1; have := hy.f0; have := hy.f1; simp only at *; omega);show Calls Tryz.prog 94 #[.agg #[.string xn, .string xk, .int .i64 xf, .int .i64 xt], .agg #[.string yn, .string yk, .int .i64 yf, .int .i64 yt]] W fun e w' => e = .returned (.int .i64 (xf - yf)) ∧ ∃ q os', w' = grow (W.drewN q) os'
 clear hx hy
 go_enter Tryz.func94, Tryz.ntmps94
 go_wp2
 go_ret
 exact ⟨rfl, 0, _, by rw [alloc_eq_grow, alloc_eq_grow, grow_grow]; rfl⟩
theorem zqt {a b : Bk} (ha : BkIn a) (hb : BkIn b) (h : meetB b a = false) : a.frm ≠ b.frm := fun e => by
 have h1 := ha.lt;have h2 := hb.lt
 have k2 : ¬ (b.frm < a.to ∧ a.frm < b.to) := by
  rw [← zjt, h]; simp
 omega
theorem zql {t : List Tb} {l : List Bk} {A : List Int} {n : Nat} (hP : AsgP t l A) (hin : ∀ x ∈ ownB l A n l.length, BkIn x) : (ownB l A n l.length).Pairwise fun a b => a.frm ≠ b.frm :=
 List.Pairwise.imp_of_mem (fun {a b} ha hb h => zqt (hin a ha) (hin b hb) h) (zou hP n)
theorem zrN {t : List Tb} {l : List Bk} {A : List Int} (h : casE t l A = 0) : AsgP t l A := by
 obtain ⟨_, hAl, hk⟩ := zhl h;have hz : ∀ j (h : j < l.length) (hA : j < A.length), chkI t l A j = 0 := fun j _ hA => za4 hk _ (List.mem_map.2 ⟨j, List.mem_range.2 hA, rfl⟩)
 have key : ∀ m m' (h : m < l.length) (h' : m' < l.length), m' < m → A[m]? = A[m']? → meetB l[m] l[m'] = false := fun m m' h h' hlt e => by
  have hA : m < A.length := by omega
  have hc := hz m h hA;rw [zhj h hA] at hc;split at hc
  ·simp at hc
  ·split at hc
   ·simp at hc
   ·split at hc
    ·simp at hc
    ·rename_i h3
     cases hm : meetB l[m'] l[m] with
     | false => rw [zfo]; exact hm
     | true =>
      refine absurd ?_ h3;rw [List.any_eq_true];refine ⟨m', List.mem_range.2 hlt, ?_⟩;rw [List.getElem?_eq_getElem h', Option.elim_some, hm, ← e, List.getElem?_eq_getElem hA];simp
 refine ⟨hAl, fun m hm => ?_, fun m m' h h' hne e => ?_⟩
 ·have hA : m < A.length := by omega
  have hc := hz m hm hA;rw [zhj hm hA] at hc;split at hc
  ·simp at hc
  ·rename_i h1;split at hc
   ·simp at hc
   ·rename_i h2;refine ⟨A[m].toNat, by rw [List.getElem?_eq_getElem hA]; congr 1; omega, by omega, ?_⟩;rw [List.getElem?_eq_getElem (show A[m].toNat < t.length by omega)] at h2;simpa using h2
 ·rcases Nat.lt_or_ge m' m with h1 | h1
  ·exact key m m' h h' h1 e
  ·rw [zfo]; exact key m' m h' h (by omega) e.symm
theorem zpS {T S : List Bk} (hp : S.Perm T) (hs : S.Pairwise fun a b => a.frm ≤ b.frm) (hD : T.Pairwise fun a b => a.frm ≠ b.frm) : S = isort ltB T := by
 have h1 := zjw weakB T;have hp1 := zd6 (lt := ltB) T;refine List.Perm.eq_of_pairwise (le := fun a b : Bk => a.frm ≤ b.frm) (fun a b ha hb h2 h3 => ?_) hs (List.Pairwise.imp (fun {a b} h => by have := zqv.1 h; omega) h1) (hp.trans hp1.symm);have e : a.frm = b.frm := by omega
 have ha := hp.mem_iff.1 ha;have hb := hp1.mem_iff.1 hb;obtain ⟨i, hi, rfl⟩ := List.getElem_of_mem ha;obtain ⟨j, hj, rfl⟩ := List.getElem_of_mem hb;have hd := List.pairwise_iff_getElem.1 hD;rcases Nat.lt_trichotomy i j with h4 | h4 | h4
 ·exact absurd e (hd i j hi hj h4)
 ·subst h4; rfl
 ·exact absurd e.symm (hd j i hj hi h4)
theorem zpT {H : AHeap} {T : List Bk} {b z c : Nat} {s : Bool} (hb : own b = true) (hlt : b < H.fresh) (hg : H.get b = some (bkB T z s)) (hn : T.length ≤ 1000000) (hT : ∀ x ∈ T, BkIn x) (hD : T.Pairwise fun a b => a.frm ≠ b.frm) :
  Ret Tryz.prog 93 [.slice (some ⟨b, 0, none⟩) T.length c, .func (.func 94) #[] ⟨[]⟩] H (packA []) (H.put b (bkB (isort ltB T) z s)) := by
 obtain ⟨TI, hTI⟩ : ∃ TI : List BkI, TI.map Subtype.val = T := ⟨T.attachWith _ hT, List.attachWith_map_subtype_val _⟩
 have hfl : ∀ L : List BkI, L.flatMap encI = (L.map Subtype.val).flatMap bk := fun L => by rw [List.flatMap_map]
 have hlen : TI.length = T.length := by rw [← hTI, List.length_map]
 have hg' : H.get b = some (.cells (TI.flatMap encI) z s false) := by rw [hfl, hTI]; exact hg
 have eg : ∀ args w, (callFunc 94 args).run Tryz.prog w = .ok (.enter 94 args) w := enters_of Tryz.func94 rfl rfl
 have hlt : ∀ x y : BkI, ltOf (fun x y : BkI => x.1.frm - y.1.frm) x y = decide (x.1.frm < y.1.frm) := fun x y => by
  show decide (x.1.frm - y.1.frm < 0) = _;exact decide_eq_decide.2 (by omega)
 have hO : SWO (ltOf fun x y : BkI => x.1.frm - y.1.frm) := by
  refine ⟨fun x => by rw [hlt]; simp, fun x y z h1 h2 => ?_, fun x y z h1 h2 => ?_⟩
  ·rw [hlt] at *; simp at *; omega
  ·rw [hlt] at *; simp at *; omega
 have key := znc (enc := encI) (k := 4) (fun _ => rfl) (fun _ => rfl) (by decide) (P := Tryz.prog) (f := 93) (g := 94) (T := TI) (c := c) (R := fun T' => T'.Perm TI ∧ T'.Pairwise fun a b : BkI => a.1.frm ≤ b.1.frm) (enters_of Tryz.func93 rfl rfl) hb hg' (fun T' h => h.1.length_eq) (fun blk cap w hH hblk => by
  have hS := AnyQ.slices_SortFunc Tryz.sortBk 4 Tryz.isAgg73 Tryz.sizeOf73 encI (fun _ => rfl) (fun x v hv => by simp [encI, bk] at hv; rcases hv with rfl | rfl | rfl | rfl <;> rfl) (fun x y => x.1.frm - y.1.frm) hO 94 #[] blk 0 cap TI.toArray w eg (fun _ _ _ _ x y => zjY x y _) hH hblk (by simp; omega);have hS : Calls Tryz.prog 93 #[.slice (some ⟨blk, 0, none⟩) TI.toArray.size cap, .func (.func 94) #[] #[]] w _ := hS;rw [List.size_toArray] at hS;refine hS.mono ?_
  rintro e w' ⟨he, d', n, os, hp, hs, hw⟩
  obtain ⟨hp1, _, hp2⟩ := hp;have hp1 : d'.size = TI.length := by simpa using hp1
  have hx : ∀ (A : Array BkI), A.extract 0 A.size = A := fun A => Array.extract_size
  refine ⟨he, d'.toList, n, os, ⟨?_, ?_⟩, by rw [hw, Array.toArray_toList]⟩
  ·have h1 : d'.extract 0 TI.length = d' := by rw [← hp1]; exact hx d'
   have h2 : TI.toArray.extract 0 TI.length = TI.toArray := by have := hx TI.toArray; rwa [List.size_toArray] at this
   rw [h1, h2] at hp2;exact hp2
  ·rw [List.pairwise_iff_getElem];intro i j hi hj hij;have h1 := hs i j (Nat.zero_le _) hij (by have hj : j < d'.size := hj; rw [hp1] at hj; exact hj);rw [hlt] at h1;have hi' : i < d'.size := hi;have hj' : j < d'.size := hj;rw [getElem!_pos d' j hj', getElem!_pos d' i hi'] at h1;simp only [decide_eq_false_iff_not] at h1;simp only [Array.getElem_toList];omega)
 rw [hlen] at key;refine key.mono ?_
 rintro v h' ⟨rfl, T', ⟨hp, hs⟩, rfl⟩
 refine ⟨rfl, ?_⟩;rw [hfl];have e : T'.map Subtype.val = isort ltB T := zpS (by rw [← hTI]; exact hp.map _) (List.pairwise_map.2 hs) hD;rw [e]
set_option maxHeartbeats 4000000 in
theorem wornG_c {H : AHeap} {T : List Bk} {b z c : Nat} {s : Bool} {lim : Int} (hb : own b = true) (hlt : b < H.fresh) (hg : H.get b = some (bkB T z s)) (hn : T.length ≤ 1000000) (hD : T.Pairwise fun a b => a.frm ≠ b.frm) (hne : T ≠ []) (hT : ∀ x ∈ T, BkIn x) (h1 : 0 ≤ lim) (h9 : lim ≤ 999999999) :
  Ret Tryz.prog 48 [.slice (some ⟨b, 0, none⟩) T.length c, I lim] H (I (wornL (isort ltB T) lim)) (H.put b (bkB (isort ltB T) z s)) := by
 refine zae Tryz.func48 rfl rfl rfl fun hc => ?_
 have cS := zpT (H := ext H H.fresh []) (c := c) hb (by rw [zal]; exact Nat.lt_of_lt_of_le hlt (zbf _)) (zaj hc hg) hn hT hD;obtain ⟨S, hS⟩ : ∃ S, S = isort ltB T := ⟨_, rfl⟩
 have hp : S.Perm T := by rw [hS]; exact zd6 T
 have hSl := hp.length_eq;have hSb : ∀ x ∈ S, BkIn x := fun x hx => hT x (hp.mem_iff.1 hx)
 rw [← hS] at cS ⊢;refine zst ?_;refine zj8 hc hb hlt rfl cS rfl ?_;clear cS;have k1 := (Cg.refl hc hg).put (z := z) (s := s) (ro := false) hb hlt (ziS S);have hc1 := k1.puts.closed;have hg1 := k1.at_;obtain ⟨H1, hH1⟩ : ∃ H1, H1 = H.put b (bkB S z s) := ⟨_, rfl⟩
 rw [← hH1] at k1 hc1 hg1 ⊢;refine zst ?_;apply zar;refine zaA (α := Nat × Int × List (Option ABlk)) (fun a => [(1, I a.2.1), (9, .slice (some ⟨b, 0, none⟩) T.length c), (10, I T.length), (11, I a.1)]) (fun a => ext H1 (min H.fresh b) a.2.2) (fun a => a.1 ≤ T.length ∧ wornL (S.drop a.1) a.2.1 = wornL S lim ∧ (0 ≤ a.2.1 ∧ a.2.1 ≤ 999999999)) (fun a => T.length - a.1) (fun a ha ih => ?_) (0, lim, []) ⟨Nat.zero_le _, rfl, h1, h9⟩ zsb (.refl _);obtain ⟨i, l2, L⟩ := a;obtain ⟨hi, hw, hl⟩ := ha;simp only at hi hw hl ih ⊢;have ih' := fun i' l' L' a1 a2 a3 a4 => ih (i', l', L') a1 ⟨a2, a3, a4⟩
 simp only at ih';clear ih;refine zst ?_;refine zq0 ?_;refine zst ?_;refine zai rfl (fun u => ?_) (fun u => ?_)
 ·have u : i < S.length := by
   have u : decide ((i : Int) < (T.length : Int)) = true := u;have u := of_decide_eq_true u;omega
  have hx := hSb _ (List.getElem_mem u);have x0 := hx.f0;have x1 := hx.f1;have x2 := hx.t0;have x3 := hx.t1;have x4 := hx.lt;have hd : S.drop i = S[i] :: S.drop (i + 1) := List.drop_eq_getElem_cons u;rw [hd] at hw;refine zst ?_;refine zq2 ?_;apply zad; exact zaw rfl (by exact zaj (by assumption) (by assumption)) rfl (by exact zop zlQ (by omega)); exact rfl;refine zst ?_;refine zq16 ?_;refine zst ?_;refine zq20 ?_;refine zst ?_;refine zq20 ?_;refine zq27 ?_;refine zq0 ?_;apply zaf;refine zai rfl (fun w => ?_) (fun w => ?_)
  ·have w : l2 ≤ S[i].to - S[i].frm := of_decide_eq_true w;refine zst ?_;refine zq20 ?_;refine zst ?_;refine zq26 ?_;refine zq27 ?_;refine zst ?_;refine zrC hb hlt ⟨_, _, _, _, rfl, ziS _⟩ k1 rfl rfl ⟨?_, hH1.symm⟩;rw [show wornL (S[i] :: S.drop (i + 1)) l2 = if l2 ≤ lenB S[i] then S[i].frm + l2 - 1 else wornL (S.drop (i + 1)) (l2 - lenB S[i]) from rfl, if_pos (show l2 ≤ lenB S[i] from w)] at hw;rw [← hw]; rfl
  ·have w : ¬ l2 ≤ S[i].to - S[i].frm := of_decide_eq_false w;rw [show wornL (S[i] :: S.drop (i + 1)) l2 = if l2 ≤ lenB S[i] then S[i].frm + l2 - 1 else wornL (S.drop (i + 1)) (l2 - lenB S[i]) from rfl, if_neg (show ¬ l2 ≤ lenB S[i] from w)] at hw;refine zst ?_;refine zq20 ?_;refine zst ?_;refine zq20 ?_;(iterate 2 (refine zq27 ?_));refine zst ?_;refine zq4 ?_;refine zst ?_;have e5 : lenB S[i] = S[i].to - S[i].frm := rfl;rw [e5] at hw;exact zaN zsb (.refl _) (ih' (i + 1) _ _ (by omega) (by omega) hw (by omega))
 ·have u : i = S.length := by
   have u : decide ((i : Int) < (T.length : Int)) = false := u;have u := of_decide_eq_false u;omega
  subst u;rw [List.drop_length] at hw;apply zap;apply zaq; exact rfl;refine zst ?_;refine zrC hb hlt ⟨_, _, _, _, rfl, ziS _⟩ k1 rfl rfl ⟨?_, hH1.symm⟩;rw [← hw]; rfl
set_option maxHeartbeats 16000000 in
theorem WornG_c {H : AHeap} {q r w : Option Addr} {c d e : Nat} {t : List Tb} {l : List Bk} {A : List Int} {lim : Int} (hs : SlAt H 2 tb q t) (hlow : LowS q c t.length) (hn : t.length < 1000000) (hr : SlAt H 4 bk r l) (hlow2 : LowS r d l.length) (hm : l.length < 1000000) (hw : SlAt H 1 i1 w A) (hA : A.length < 1000000) :
  Ret Tryz.prog 10 [.slice q t.length c, .slice r l.length d, .slice w A.length e, I lim] H (.tuple ⟨[lstV H.fresh (wornO t l A lim), I (wornX t l A lim)]⟩) (lstH H 1 i1 (wornO t l A lim)) := by
 refine zae Tryz.func10 rfl rfl rfl fun hc => ?_
 refine zst ?_;apply zac (ht := rfl); exact ze9 (hs.ext (zag hc)) hlow hn (hr.ext (zag hc)) hlow2 hm (hw.ext (zag hc)) hA; exact rfl;refine zst ?_;apply zac (ht := rfl); exact within89; exact rfl;refine zq19 ?_;apply zac (ht := rfl); exact first84 (l := [_, _]) (zaB (zaa rfl)) (by simp); exact rfl;refine zst ?_;refine zq0 ?_;apply zaf;refine zai rfl (fun u => ?_) (fun u => ?_)
 ·have u : wornX t l A lim ≠ 0 := by unfold wornX; simpa using u
  unfold wornO;rw [if_pos u];refine zst ?_;exact zly hc (lst := []) (f := i1) (m := 1) (k0 := 0) .nil rfl (fun _ => rfl) ⟨rfl, rfl⟩
 have u : wornX t l A lim = 0 := by unfold wornX; simpa using u
 have eO : wornO t l A lim = wornV t l A lim := if_neg (by rw [u]; simp);rw [u, eO];have u0 : casE t l A = 0 := za4 u _ (by simp);have u1 : outL lim 1 999999999 = false := zdy (za4 u (whenL (outL lim 1 999999999) 3) (by simp)) (by decide);simp only [outL, decide_eq_false_iff_not] at u1;obtain ⟨hb, hAl, hk⟩ := zhl u0;have hok := (zhm hb).ok;have hAs := zrN u0;clear u u0 eO hk;refine zst ?_;apply zar;refine zaA (α := Nat × Value × Nat × List (Option ABlk)) (fun a => [(1, .slice r l.length d), (2, .slice w A.length e), (3, I lim), (11, a.2.1), (28, I t.length), (29, I a.1)]) (fun a => ext H H.fresh a.2.2.2) (fun a => a.1 ≤ t.length ∧ LstI H a.2.2.2 1 i1 a.2.2.1 a.2.1 ((List.range a.1).map (wornK l A lim))) (fun a => t.length - a.1) (fun a ha ih => ?_) (0, .slice none 0 0, 0, _) ⟨Nat.zero_le _, .nil⟩ zsb (.refl _);obtain ⟨n, v, K, L⟩ := a;obtain ⟨hi, hv⟩ := ha;simp only at hi hv ih ⊢;have ih' := fun i' v' K' L' a1 a2 a3 => ih (i', v', K', L') a1 ⟨a2, a3⟩
 simp only at ih';clear ih;obtain ⟨outs, hou⟩ : ∃ outs, outs = (List.range n).map (wornK l A lim) := ⟨_, rfl⟩
 have houl : outs.length = n := by rw [hou]; simp
 rw [← hou] at hv;refine zst ?_;refine zq0 ?_;refine zst ?_;refine zai rfl (fun g1 => ?_) (fun g1 => ?_)
 ·simp only [decide_eq_true_eq, Int.ofNat_lt] at g1;refine zst ?_;apply zar;refine zaA (α := Nat × Value × Nat × List (Option ABlk)) (fun a => [(1, .slice r l.length d), (2, .slice w A.length e), (3, I lim), (11, v), (12, I n), (13, a.2.1), (28, I t.length), (29, I n), (32, .slice r l.length d), (33, I l.length), (34, I a.1)]) (fun a => ext H H.fresh a.2.2.2) (fun a => a.1 ≤ l.length ∧ LstI H a.2.2.2 4 bk a.2.2.1 a.2.1 (ownB l A n a.1) ∧ LstI H a.2.2.2 1 i1 K v outs ∧ (outs ≠ [] → ownB l A n a.1 ≠ [] → K ≠ a.2.2.1)) (fun a => l.length - a.1) (fun a ha ih2 => ?_) (0, .slice none 0 0, 0, L) ⟨Nat.zero_le _, .nil, hv, fun _ h => absurd rfl h⟩ zsb (.refl _);clear hv L;obtain ⟨j, v2, K2, L⟩ := a;obtain ⟨hj, hv2, hv, hne⟩ := ha;simp only at hj hv2 hv hne ih2 ⊢;have ih2' := fun i' v' K' L' a1 a2 a3 a4 a5 => ih2 (i', v', K', L') a1 ⟨a2, a3, a4, a5⟩
  simp only at ih2';clear ih2;have hol := zli (l := l) (A := A) (n := n) j;refine zst ?_;refine zq0 ?_;refine zst ?_;refine zai rfl (fun g2 => ?_) (fun g2 => ?_)
  ·simp only [decide_eq_true_eq, Int.ofNat_lt] at g2;have hjA : j < A.length := by omega
   have os := zgO (A := A) (n := n) g2;rw [List.getElem?_eq_getElem hjA] at os;obtain ⟨b2, o2, cs2, z2, st2, ro2, rfl, hg2, hw2⟩ := hr.out (by intro e; rw [e] at g2; simp at g2);obtain ⟨b5, o5, cs5, z5, st5, ro5, rfl, hg5, hw5⟩ := hw.out (by intro e; rw [e] at hjA; simp at hjA);refine zst ?_;refine zq2 ?_;refine zq15 ?_;refine zst ?_;refine zq16 ?_;refine zst ?_;refine zq2 ?_;refine zq3 ?_;refine zst ?_;refine zq0 ?_;apply zaf;rw [set_mid rfl];refine ct_JXE (α := Value × Nat × List (Option ABlk)) (ds := []) (fun a => [(1, .slice (some ⟨b2, o2, none⟩) l.length d), (2, .slice (some ⟨b5, o5, none⟩) A.length e), (3, I lim), (11, v), (12, I n), (13, a.1), (28, I t.length), (29, I n), (32, .slice (some ⟨b2, o2, none⟩) l.length d), (33, I l.length), (34, I j)]) (fun a => ext H H.fresh a.2.2) (fun a => LstI H a.2.2 4 bk a.2.1 a.1 (ownB l A n (j + 1)) ∧ LstI H a.2.2 1 i1 K v outs ∧ (outs ≠ [] → ownB l A n (j + 1) ≠ [] → K ≠ a.2.1)) ?_ (fun a ha => ?_)
   ·refine zai rfl (fun y => ?_) (fun y => ?_)
    ·have y : (A[j] == (n : Int)) = true := y;rw [if_pos (by rw [show A[j] = (n : Int) by simpa using y])] at os;refine zst ?_;apply zad; exact zaw rfl (by exact zaa List.getElem?_concat_length) rfl (by exact rfl); exact rfl;refine zq19 ?_;refine zeA (xs := [l[j]]) hc ((hv2.keeps (.app _)).keeps (.app _)) (fun _ => rfl) (fun _ => rfl) rfl rfl rfl rfl rfl rfl (zaa List.getElem?_concat_length) rfl (by simp) ?_ (Nat.ne_of_beq_eq_false rfl) (Nat.ne_of_beq_eq_false rfl) rfl (fun v' L3 hv' hst3 hlen3 => ?_)
     ·exact Nat.le_trans (Nat.mul_le_mul_right _ (by simp only [List.length_cons, List.length_nil]; omega : _ ≤ 3000000000)) (Nat.le_of_ble_eq_true rfl)
     have hv3 : LstI H L3 1 i1 K v outs := ((hv.keeps (.app _)).keeps (.app _)).keep fun hn => hst3 K (by have := hv.lt hn; simp; omega) fun h => hne hn h
     rw [← os] at hv';obtain ⟨J, hJ, hv'⟩ : ∃ J, J = L.length + 2 ∧ LstI H L3 4 bk J v' (ownB l A n (j + 1)) := ⟨_, by simp, hv'⟩
     refine zst ?_;exact ziz (v', J, L3) ⟨hv', hv3, fun hn _ => by show K ≠ J; have := hv.lt hn; omega⟩ zsb rfl
    ·have y : (A[j] == (n : Int)) = false := y;rw [if_neg (by intro e; rw [Option.some.inj e] at y; simp at y)] at os;apply zbb;refine ziz (v2, K2, _) ⟨?_, hv.keeps (.app _), ?_⟩ zsb rfl
     ·rw [os]; exact hv2.keeps (.app _)
     ·rw [os]; exact hne
   obtain ⟨v3, K3, L3⟩ := a;obtain ⟨a1, a2, a3⟩ := ha;simp only at a1 a2 a3 ⊢;apply zc8;refine zq4 ?_;(iterate 2 (refine zs1 ?_));exact zbn zsb (ih2' (j + 1) v3 K3 L3 (by omega) (by omega) a1 a2 a3)
  have g2 : j = l.length := by simp at g2; omega
  subst g2;clear ih2' hj;have hol12 : (ownB l A n l.length).length ≤ 1000000 := by omega
  have hin : ∀ x ∈ ownB l A n l.length, BkIn x := fun x hx => zpC (hok x (zeM _ x hx))
  have key : ∃ L', (∃ h', Ret Tryz.prog 48 [v2, I lim] (ext H H.fresh L) (I (wornK l A lim n)) h' ∧ HQ h' (ext H H.fresh L')) ∧ LstI H L' 1 i1 K v outs := by
   unfold wornK;rcases hv2.out with ⟨e1, rfl⟩ | ⟨e1, rfl, hL⟩
   ·rw [e1];exact ⟨L, ⟨_, worn0_c, .refl _⟩, hv⟩
   ·have hlt := (List.getElem?_eq_some_iff.1 hL).1;refine ⟨_, ⟨_, wornG_c (zat K2) (by rw [zal]; simp only [nb]; omega) (zaa hL) hol12 (zql hAs hin) e1 hin (by omega) (by omega), zem hc hlt _⟩, hv.keep fun hn => ?_⟩;rw [List.getElem?_set_ne (fun e => hne hn e1 e.symm)]
  obtain ⟨L', ⟨h', cW, hq'⟩, hv'⟩ := key;clear hv hv2 hne;apply zap;apply zaq; exact rfl;refine zst ?_;refine zn0 rfl cW hq' rfl ?_;refine zq19 ?_;refine zeA (xs := [wornK l A lim n]) hc (hv'.keeps (.app _)) (fun _ => rfl) (fun _ => rfl) rfl rfl rfl rfl rfl rfl (zaa List.getElem?_concat_length) rfl (by simp) ?_ (Nat.ne_of_beq_eq_false rfl) (Nat.ne_of_beq_eq_false rfl) rfl (fun v'' L3 hv'' hst3 hlen3 => ?_)
  ·exact Nat.le_trans (Nat.mul_le_mul_right _ (by simp only [List.length_cons, List.length_nil]; omega : _ ≤ 3000000000)) (Nat.le_of_ble_eq_true rfl)
  obtain ⟨J, hv''⟩ : ∃ J, LstI H L3 1 i1 J v'' (outs ++ [wornK l A lim n]) := ⟨_, hv''⟩
  refine zst ?_;refine zq4 ?_;refine zst ?_;refine zbn zsb (ih' (n + 1) v'' J L3 (by omega) (by omega) ?_);rw [zmK, ← hou]; exact hv''
 have g1 : n = t.length := by simp at g1; omega
 subst g1;apply zap;apply zaq; exact rfl;refine zst ?_;refine zly hc (hv.lst (Nat.zero_le _)) rfl (fun _ => rfl) ?_;rw [hou]; exact ⟨rfl, rfl⟩
def candW (l : List Bk) (A : List Int) (k : Nat) (last : Int) (i : Nat) (h : i < l.length) : Prop := A[i]? = some (k : Int) ∧ last < l[i].frm
instance (l : List Bk) (A : List Int) (k : Nat) (last : Int) (i : Nat) (h : i < l.length) : Decidable (candW l A k last i h) := by unfold candW; infer_instance
def nextW (l : List Bk) (A : List Int) (k : Nat) (last : Int) : Nat → Option Nat
 | 0 => none
 | i + 1 => if h : i < l.length then (if candW l A k last i h then (match nextW l A k last i with
   | none => some i
   | some m => if l[i].frm < (l[m]?.elim 0 (·.frm)) then some i else some m) else nextW l A k last i) else nextW l A k last i
structure NxW (l : List Bk) (A : List Int) (k : Nat) (last : Int) (i : Nat) : Prop where
 none_ : nextW l A k last i = none → ∀ j (h : j < l.length), j < i → ¬ candW l A k last j h
 some_ : ∀ m, nextW l A k last i = some m → ∃ h : m < l.length, m < i ∧ candW l A k last m h ∧ ∀ j (hj : j < l.length), j < i → candW l A k last j hj → l[m].frm ≤ l[j].frm
theorem nxW (l : List Bk) (A : List Int) (k : Nat) (last : Int) : ∀ i, NxW l A k last i
 | 0 => ⟨fun _ j _ h => by omega, fun m h => by simp [nextW] at h⟩
 | i + 1 => by
  have ih := nxW l A k last i;by_cases h : i < l.length
  ·by_cases hc : candW l A k last i h
   ·cases hn : nextW l A k last i with
    | none =>
     have e : nextW l A k last (i + 1) = some i := by simp only [nextW, dif_pos h, if_pos hc, hn]
     refine ⟨(fun h2 => by rw [e] at h2; cases h2), fun m hm => ?_⟩;rw [e] at hm; cases hm;refine ⟨h, by omega, hc, fun j hj hji hcj => ?_⟩;rcases Nat.lt_succ_iff_lt_or_eq.1 hji with h3 | h3
     ·exact absurd hcj (ih.none_ hn j hj h3)
     ·subst h3; exact Int.le_refl _
    | some m0 =>
     obtain ⟨hm0, k1, k2, k3⟩ := ih.some_ m0 hn;by_cases hl : l[i].frm < l[m0].frm
     ·have e : nextW l A k last (i + 1) = some i := by simp only [nextW, dif_pos h, if_pos hc, hn, List.getElem?_eq_getElem hm0, Option.elim, if_pos hl]
      refine ⟨(fun h2 => by rw [e] at h2; cases h2), fun m hm => ?_⟩;rw [e] at hm; cases hm;refine ⟨h, by omega, hc, fun j hj hji hcj => ?_⟩;rcases Nat.lt_succ_iff_lt_or_eq.1 hji with h3 | h3
      ·have := k3 j hj h3 hcj; omega
      ·subst h3; exact Int.le_refl _
     ·have e : nextW l A k last (i + 1) = some m0 := by simp only [nextW, dif_pos h, if_pos hc, hn, List.getElem?_eq_getElem hm0, Option.elim, if_neg hl]
      refine ⟨(fun h2 => by rw [e] at h2; cases h2), fun m hm => ?_⟩;rw [e] at hm; cases hm;refine ⟨hm0, by omega, k2, fun j hj hji hcj => ?_⟩;rcases Nat.lt_succ_iff_lt_or_eq.1 hji with h3 | h3
      ·exact k3 j hj h3 hcj
      ·subst h3; omega
   ·have e : nextW l A k last (i + 1) = nextW l A k last i := by simp only [nextW, dif_pos h, if_neg hc]
    refine ⟨fun h2 j hj hji => ?_, fun m hm => ?_⟩
    ·rw [e] at h2;rcases Nat.lt_succ_iff_lt_or_eq.1 hji with h3 | h3
     ·exact ih.none_ h2 j hj h3
     ·subst h3; exact hc
    ·rw [e] at hm;obtain ⟨k0, k1, k2, k3⟩ := ih.some_ m hm;refine ⟨k0, by omega, k2, fun j hj hji hcj => ?_⟩;rcases Nat.lt_succ_iff_lt_or_eq.1 hji with h3 | h3
     ·exact k3 j hj h3 hcj
     ·subst h3; exact absurd hcj hc
  ·have e : nextW l A k last (i + 1) = nextW l A k last i := by simp only [nextW, dif_neg h]
   refine ⟨fun h2 j hj hji => ih.none_ (by rw [← e]; exact h2) j hj (by omega), fun m hm => ?_⟩;rw [e] at hm;obtain ⟨k0, k1, k2, k3⟩ := ih.some_ m hm;exact ⟨k0, by omega, k2, fun j hj hji hcj => k3 j hj (by omega) hcj⟩
structure OwnS (l : List Bk) (A : List Int) (k : Nat) (S : List Bk) : Prop where
 mem : ∀ x, x ∈ S ↔ ∃ j, ∃ h : j < l.length, A[j]? = some (k : Int) ∧ l[j] = x
 asc : S.Pairwise fun a b => a.frm < b.frm
 pos : ∀ x ∈ S, 0 ≤ x.frm
theorem ownS_of {t : List Tb} {l : List Bk} {A : List Int} (hok : ∀ x ∈ l, BkOk x) (hP : AsgP t l A) (k : Nat) : OwnS l A k (isort ltB (ownB l A k l.length)) := by
 have hin : ∀ x ∈ ownB l A k l.length, BkIn x := fun x hx => zpC (hok x (zeM _ x hx))
 have hs := zpR (T := ownB l A k l.length) (fun x hx => (hin x hx).lt) (zou hP k);have hp := zd6 (lt := ltB) (ownB l A k l.length);refine ⟨fun x => ?_, ?_, fun x hx => (hin x (hp.mem_iff.1 hx)).f0⟩
 ·rw [hp.mem_iff, zir _ (Nat.le_refl _)];constructor
  ·rintro ⟨j, h, _, h1, h2⟩; exact ⟨j, h, h1, h2⟩
  ·rintro ⟨j, h, h1, h2⟩; exact ⟨j, h, h, h1, h2⟩
 ·refine List.Pairwise.imp_of_mem (fun {a b} ha _ hab => ?_) hs;have := (hin a (hp.mem_iff.1 ha)).lt;omega
def lastW (S : List Bk) : Nat → Int
 | 0 => -1
 | j + 1 => S[j]?.elim 0 (·.frm)
section
variable {l : List Bk} {A : List Int} {k : Nat} {S : List Bk}
theorem OwnS.later (h : OwnS l A k S) {j : Nat} (hj : j ≤ S.length) {i : Nat} (hi : i < S.length) : lastW S j < S[i].frm ↔ j ≤ i := by
 cases j with
 | zero => have := h.pos _ (List.getElem_mem hi); simp [lastW]; omega
 | succ j =>
  have hj' : j < S.length := by omega
  simp only [lastW, List.getElem?_eq_getElem hj', Option.elim];have hp := List.pairwise_iff_getElem.1 h.asc;constructor
  ·intro h1;rcases Nat.lt_or_ge i (j + 1) with h2 | h2
   ·rcases Nat.lt_or_ge i j with h3 | h3
    ·have := hp i j hi hj' h3; omega
    ·have : i = j := by omega
     subst this; omega
   ·exact h2
  ·intro h1; exact hp j i hj' hi (by omega)
theorem OwnS.next (h : OwnS l A k S) {j : Nat} (hj : j < S.length) : ∃ m, ∃ hm : m < l.length, nextW l A k (lastW S j) l.length = some m ∧ l[m] = S[j] := by
 have hN := nxW l A k (lastW S j) l.length;obtain ⟨i, hi, h1, h2⟩ := (h.mem S[j]).1 (List.getElem_mem hj);have hc : candW l A k (lastW S j) i hi := ⟨h1, by rw [h2]; exact (h.later (by omega) hj).2 (Nat.le_refl _)⟩
 cases hn : nextW l A k (lastW S j) l.length with
 | none => exact absurd hc (hN.none_ hn i hi hi)
 | some m =>
  obtain ⟨hm, _, k2, k3⟩ := hN.some_ m hn;refine ⟨m, hm, rfl, ?_⟩;obtain ⟨q, hq, e⟩ := List.getElem_of_mem ((h.mem l[m]).2 ⟨m, hm, k2.1, rfl⟩);have h3 := k3 i hi hi hc;rw [h2, ← e] at h3;have h4 := (h.later (j := j) (Nat.le_of_lt hj) hq).1 (by rw [e]; exact k2.2);have hp := List.pairwise_iff_getElem.1 h.asc;rcases Nat.lt_or_ge j q with h5 | h5
  ·have := hp j q hj hq h5; omega
  ·have : q = j := by omega
   subst this; exact e.symm
theorem OwnS.done (h : OwnS l A k S) : nextW l A k (lastW S S.length) l.length = none := by
 have hN := nxW l A k (lastW S S.length) l.length
 cases hn : nextW l A k (lastW S S.length) l.length with
 | none => rfl
 | some m =>
  obtain ⟨hm, _, k2, _⟩ := hN.some_ m hn;obtain ⟨q, hq, e⟩ := List.getElem_of_mem ((h.mem l[m]).2 ⟨m, hm, k2.1, rfl⟩);have h4 := (h.later (Nat.le_refl _) hq).1 (by rw [e]; exact k2.2);omega
theorem zqB (h : OwnS l A k S) (hb : ∀ x ∈ l, x.frm ≤ 99999) {j : Nat} (hj : j ≤ S.length) : -1 ≤ lastW S j ∧ lastW S j ≤ 99999 := by
 cases j with
 | zero => simp [lastW]
 | succ j =>
  have hj' : j < S.length := by omega
  simp only [lastW, List.getElem?_eq_getElem hj', Option.elim];have h0 := h.pos _ (List.getElem_mem hj');obtain ⟨i, hi, _, e⟩ := (h.mem S[j]).1 (List.getElem_mem hj');have := hb _ (List.getElem_mem hi);rw [e] at this; omega
end
end Go.Proofs.YtlejimjgagfalaaGreatDoor
