import Derived.Test.YtlejimjgagfalaaGreatDoorAsF
import Derived.Test.YtlejimjgagfalaaGreatDoorStA
import Derived.Test.YtlejimjgagfalaaGreatDoorWpL
noncomputable section
namespace Go.Proofs.YtlejimjgagfalaaGreatDoor
open Go Go.Den
set_option maxRecDepth 100000
def chkRef (t : List Tb) (l : List Bk) (A : List Int) : Int := if A.length = l.length then chkA t l A else 2
theorem cas_ref {t : List Tb} {l : List Bk} {A : List Int} (h : bothE t l = 0) : casE t l A = chkRef t l A := by
 unfold casE chkRef;rw [h];by_cases e : A.length = l.length
 ·rw [if_pos e, e];have : whenL ((l.length : Int) != l.length) 2 = 0 := by simp [whenL]
  rw [this];unfold firstL;by_cases k : chkA t l A = 0 <;> simp [k]
 ·rw [if_neg e]
  have : whenL ((A.length : Int) != l.length) 2 = 2 := by
   have e2 : ((A.length : Int) != l.length) = true := by simp; omega
   rw [e2]; rfl
  rw [this];simp [firstL]
set_option maxHeartbeats 16000000 in
theorem zfU {H : AHeap} {q r w : Option Addr} {c d e : Nat} {t : List Tb} {l : List Bk} {A : List Int} (hs : SlAt H 2 tb q t) (hn : t.length < 1000000) (hr : SlAt H 4 bk r l) (hm : l.length < 1000000) (hw : SlAt H 1 i1 w A) (hA : A.length < 1000000) :
  Ret Tryz.prog 8 [.slice q t.length c, .slice r l.length d, .slice w A.length e] H (I (chkRef t l A)) H := by
 refine zae Tryz.func8 rfl rfl rfl fun hc => ?_
 refine zst ?_;refine zq0 ?_;apply zaf;refine zai rfl (fun h1 => ?_) (fun h1 => ?_)
 ·have e1 : chkRef t l A = 2 := if_neg (by simp at h1; omega);rw [e1];refine zst ?_;exact zab hc rfl rfl ⟨rfl, rfl⟩
 have hAl : A.length = l.length := by simp at h1; omega
 have e1 : chkRef t l A = chkA t l A := if_pos hAl;rw [e1];clear e1 h1;refine zst ?_;apply zar;refine zaA (α := Nat × List (Option ABlk)) (fun a => [(0, .slice q t.length c), (1, .slice r l.length d), (2, .slice w A.length e), (7, I a.1)]) (fun a => ext H H.fresh a.2) (fun a => a.1 ≤ A.length ∧ ∀ j, j < a.1 → chkI t l A j = 0) (fun a => A.length - a.1) (fun a ha ih => ?_) (0, _) ⟨Nat.zero_le _, fun j h => absurd h (Nat.not_lt_zero _)⟩ zsb (.refl _);obtain ⟨i, L⟩ := a;obtain ⟨hi, hJ⟩ := ha;simp only at hi hJ ih ⊢;have ih' := fun i' L' a1 a2 a3 => ih (i', L') a1 ⟨a2, a3⟩
 simp only at ih';clear ih;refine zst ?_;refine zq0 ?_;apply zaf;refine zai rfl (fun h1 => ?_) (fun h1 => ?_)
 ·simp only [decide_eq_true_eq, Int.ofNat_lt] at h1;have hil : i < l.length := by omega
  obtain ⟨b2, o2, cs2, z2, st2, ro2, rfl, hg2, hw2⟩ := hr.out (by intro e; rw [e] at hil; simp at hil);obtain ⟨b3, o3, cs3, z3, st3, ro3, rfl, hg3, hw3⟩ := hw.out (by intro e; rw [e] at h1; simp at h1);have hci := zhj (t := t) hil h1;have bad : chkI t l A i ≠ 0 → chkA t l A = chkI t l A i := zpA h1 hJ;obtain ⟨n, hnn⟩ : ∃ n, n = A[i] := ⟨_, rfl⟩
  rw [← hnn] at hci;refine zst ?_;refine zq2 ?_;refine zq3 ?_;refine zst ?_;refine zq27 ?_;apply zac (ht := rfl); exact outside24; exact rfl;apply zaf;rw [← hnn]
  skip;refine zai rfl (fun u => ?_) (fun u => ?_)
  ·have u : outL n 0 ((t.length : Int) - 1) = true := u;unfold outL at u;have u := of_decide_eq_true u;rw [if_pos (by omega)] at hci;rw [bad (by rw [hci]; decide), hci];refine zst ?_;exact zab hc rfl rfl ⟨rfl, rfl⟩
  have u : outL n 0 ((t.length : Int) - 1) = false := u;unfold outL at u;have u := of_decide_eq_false u;rw [if_neg (by omega)] at hci;obtain ⟨k, rfl⟩ : ∃ k : Nat, n = k := ⟨n.toNat, by omega⟩
  have hkt : k < t.length := by omega
  obtain ⟨b4, o4, cs4, z4, st4, ro4, rfl, hg4, hw4⟩ := hs.out (by intro e; rw [e] at hkt; simp at hkt);rw [Int.toNat_natCast, List.getElem?_eq_getElem hkt, Option.elim_some] at hci;clear u;refine zst ?_;apply zax (by assumption); decide +kernel;(iterate 3 (refine zq5 ?_));refine zq6 ?_;refine zq7 ?_;refine zq47 ?_;refine zq12 ?_;refine zq24 ?_;(iterate 2 (refine zq5 ?_));refine zq6 ?_;refine zq12 ?_;refine zq24 ?_;apply zau (hfree := rfl); intro _; exact zbV rfl rfl rfl; exact rfl;apply zaz;simp only [← hnn]
  skip;refine zai rfl (fun u => ?_) (fun u => ?_)
  ·have u : (!byteL t[k].kind.data.toList l[i].kind.data.toList) = true := u;rw [zba] at u;rw [if_pos (by simpa using u)] at hci;rw [bad (by rw [hci]; decide), hci];refine zst ?_;exact zab hc rfl rfl ⟨rfl, rfl⟩
  have u : (!byteL t[k].kind.data.toList l[i].kind.data.toList) = false := u;rw [zba] at u;rw [if_neg (by simpa using u)] at hci;clear u;refine zst ?_;apply zar;refine zaA (α := Nat × List (Option ABlk)) (fun a => [(0, .slice (some ⟨b4, o4, none⟩) t.length c), (1, .slice (some ⟨b2, o2, none⟩) l.length d), (2, .slice (some ⟨b3, o3, none⟩) A.length e), (7, I i), (8, I a.1)]) (fun a => ext H H.fresh a.2) (fun a => a.1 ≤ i ∧ ∀ m (h : m < A.length) (h' : m < l.length), m < a.1 → ¬ (A[m] = (k : Int) ∧ meetB l[m] l[i] = true)) (fun a => i - a.1) (fun a ha ih2 => ?_) (0, _) ⟨Nat.zero_le _, fun _ _ _ h => absurd h (Nat.not_lt_zero _)⟩ zsb (.refl _);clear L;obtain ⟨m, L⟩ := a;obtain ⟨hmi, hM⟩ := ha;simp only at hmi hM ih2 ⊢;have ih2' := fun m' L' a1 a2 a3 => ih2 (m', L') a1 ⟨a2, a3⟩
  simp only at ih2';clear ih2;refine zst ?_;refine zq0 ?_;apply zaf;refine zai rfl (fun h3 => ?_) (fun h3 => ?_)
  ·simp only [decide_eq_true_eq, Int.ofNat_lt] at h3;have hml : m < l.length := by omega
   have hmA : m < A.length := by omega
   obtain ⟨Y, hY⟩ : ∃ Y, Y = (decide (A[m] = (k : Int)) && meetB l[m] l[i]) := ⟨_, rfl⟩
   refine zst ?_;apply zax (by assumption); decide +kernel;(iterate 2 (refine zq5 ?_));refine zq6 ?_;refine zq7 ?_;(iterate 2 (refine zq5 ?_));refine zq6 ?_;refine zq7 ?_;refine zq8 ?_;refine zq5 ?_;rw [← hnn]
   skip;refine sd_J [(0, .slice (some ⟨b4, o4, none⟩) t.length c), (1, .slice (some ⟨b2, o2, none⟩) l.length d), (2, .slice (some ⟨b3, o3, none⟩) A.length e), (7, I i), (8, I m), (66, .bool Y)] (h := ext H H.fresh L) ?_ ?_
   ·refine zdC rfl rfl (fun u => ?_) (fun u => ?_)
    ·have u : (A[m] == (k : Int)) = true := u;have e2 : Y = meetB l[m] l[i] := by rw [hY, decide_eq_true (by simpa using u)]; rfl
     rw [e2];(iterate 2 (refine zq39 ?_));refine zq40 ?_;apply zbv (hfree := rfl) (hg := rfl) (hl := rfl); exact zaw rfl (by exact zaj (by assumption) (by assumption)) rfl (by exact zon (by assumption) (by omega)); exact rfl;(iterate 2 (refine zq39 ?_));refine zq40 ?_;apply zbv (hfree := rfl) (hg := rfl) (hl := rfl); exact zaw rfl (by exact zaj (by assumption) (by assumption)) rfl (by exact zon (by assumption) (by omega)); exact rfl;apply zf6 (hg := rfl) (hl := rfl) (ht := rfl); exact zow; exact rfl;refine zq38 ?_;apply zaz;simp only [List.map_nil, List.append_nil];exact zaP zsb
    ·have u : (A[m] == (k : Int)) = false := u;have e2 : Y = false := by rw [hY, decide_eq_false (by simpa using u)]; rfl
     rw [e2];(iterate 9 (apply zbu (hg := rfl) (hl := rfl) (hb := rfl); exact rfl));refine zq41 ?_;apply zaz;simp only [List.map_nil, List.append_nil];exact zaP zsb
   refine zai rfl (fun u => ?_) (fun u => ?_)
   ·have u : Y = true := u;rw [hY, Bool.and_eq_true, decide_eq_true_eq] at u;rw [if_pos (List.any_eq_true.2 ⟨m, List.mem_range.2 h3, by rw [List.getElem?_eq_getElem hmA, List.getElem?_eq_getElem hml, u.1]; simp [u.2]⟩)] at hci;rw [bad (by rw [hci]; decide), hci];refine zst ?_;exact zab hc rfl rfl ⟨rfl, rfl⟩
   ·have u : Y = false := u;refine zst ?_;refine zq4 ?_;refine zst ?_;refine zaN zsb (.refl _) (ih2' (m + 1) _ (by omega) (by omega) fun m' h h' hlt => ?_);rcases Nat.lt_or_ge m' m with e3 | e3
    ·exact hM m' h h' e3
    ·obtain rfl : m' = m := by omega
     rintro ⟨a1, a2⟩
     rw [hY, a1, a2] at u; simp at u
  have h3 : m = i := by simp at h3; omega
  rw [h3] at hM
  rw [if_neg (fun hx => by
   obtain ⟨k', hk', e'⟩ := List.any_eq_true.1 hx;have hk' := List.mem_range.1 hk';rw [List.getElem?_eq_getElem (by omega : k' < A.length), List.getElem?_eq_getElem (by omega : k' < l.length)] at e';simp only [Bool.and_eq_true, decide_eq_true_eq, Option.some.injEq, Option.elim_some] at e';exact hM k' (by omega) (by omega) hk' e')] at hci
  apply zap;apply zaq; exact rfl;refine zst ?_;refine zq4 ?_;refine zst ?_;refine zaN zsb (.refl _) (ih' (i + 1) L (by omega) (by omega) fun j hj => ?_);rcases Nat.lt_or_ge j i with e3 | e3
  ·exact hJ j e3
  ·obtain rfl : j = i := by omega
   exact hci
 have h1 : i = A.length := by simp at h1; omega
 subst h1;rw [zjV hJ];apply zap;apply zaq; exact rfl;refine zst ?_;exact zab hc rfl rfl ⟨rfl, rfl⟩
set_option maxHeartbeats 16000000 in
theorem zob {H : AHeap} {q r w : Option Addr} {c d e : Nat} {t : List Tb} {l : List Bk} {A : List Int} (hn : t.length < 1000000) (hr : SlAt H 4 bk r l) (hm : l.length < 1000000) (hw : SlAt H 1 i1 w A) (hA : A.length < 1000000) (u : casE t l A = 0) :
  Ret Tryz.prog 15 [.slice q t.length c, .slice r l.length d, .slice w A.length e] H (.slice (some ⟨H.fresh, 0, none⟩) t.length t.length) (H.add (.cells ((usedV t l A).map I) 1 false false)) := by
 refine zae Tryz.func15 rfl rfl rfl fun hc => ?_
 obtain ⟨hb, hAl, hk⟩ := zhl u;have hlb := zoS hb;have hok := (zhm hb).ok;clear u;refine zst ?_;apply zbO; exact zcO rfl rfl rfl rfl rfl rfl (Nat.le_refl _) (by omega) (Nat.le_trans (Nat.mul_le_mul_left _ (Nat.le_of_lt hn)) (Nat.le_of_ble_eq_true rfl)); exact rfl;refine zcy (l' := [(0, .slice q t.length c), (1, .slice r l.length d), (2, .slice w A.length e), (11, .slice (some ⟨nb H 0, 0, none⟩) t.length t.length)]) (h' := ext H H.fresh ([] ++ [some (.cells (repl [I 0] t.length) 1 false false)])) zsb (.refl _) (by simp) ?_;have w0 : repl [I 0] t.length = (useI t.length l A 0).map I := by rw [zeD]; rfl
 rw [w0];refine zst ?_;apply zar;refine zaA (α := Nat × List (Option ABlk)) (fun a => [(1, .slice r l.length d), (2, .slice w A.length e), (7, .slice (some ⟨nb H 0, 0, none⟩) t.length t.length), (8, I a.1)]) (fun a => ext H H.fresh a.2) (fun a => a.1 ≤ l.length ∧ a.2[0]? = some (some (.cells ((useI t.length l A a.1).map I) 1 false false))) (fun a => l.length - a.1) (fun a ha ih => ?_) (0, [some (.cells ((useI t.length l A 0).map I) 1 false false)]) ⟨Nat.zero_le _, rfl⟩ zsb (.refl _);obtain ⟨i, L⟩ := a;obtain ⟨hi, hL⟩ := ha;simp only at hi hL ih ⊢;have ih' := fun i' L' a1 a2 a3 => ih (i', L') a1 ⟨a2, a3⟩
 simp only at ih';clear ih;refine zst ?_;refine zq0 ?_;apply zaf;refine zai rfl (fun v => ?_) (fun v => ?_)
 ·simp only [decide_eq_true_eq, Int.ofNat_lt] at v;have hiA : i < A.length := by omega
  obtain ⟨b2, o2, cs2, z2, st2, ro2, rfl, hg2, hw2⟩ := hr.out (by intro e; rw [e] at v; simp at v);obtain ⟨b5, o5, cs5, z5, st5, ro5, rfl, hg5, hw5⟩ := hw.out (by intro e; rw [e] at hiA; simp at hiA);have hk1 := zpz hk v hiA;have hx := hok _ (List.getElem_mem v);have x0 := hx.f0;have x1 := hx.f1;have x2 := hx.t0;have x3 := hx.t1;have x4 := hx.lt;have us := ziX (n := t.length) v hiA;have ul := zdc (n := t.length) (l := l) (A := A) (i := i);have ub := zj2 (A := A) (n := t.length) hlb i;obtain ⟨U, hU⟩ : ∃ U, U = useI t.length l A i := ⟨_, rfl⟩
  rw [← hU] at hL us ul ub;clear hU;have hkt : A[i].toNat < U.length := by omega
  have ub1 := ub _ (List.getElem_mem hkt);have us2 : U.set A[i].toNat (U[A[i].toNat] + (l[i].to - l[i].frm)) = useI t.length l A (i + 1) := by rw [us]; unfold useS lenB; rw [List.getElem?_eq_getElem hkt, Option.getD_some]
  have hlt0 : 0 < L.length := (List.getElem?_eq_some_iff.1 hL).1;clear us hr hw hlb ub hok hk;rw [← ul];refine zst ?_;apply zax (by assumption); decide +kernel;(iterate 3 (refine zq5 ?_));refine zq6 ?_;refine zq7 ?_;refine zq47 ?_;apply zaS (hfree := rfl); exact zaw rfl (by exact zaa (getApp (by assumption))) rfl (by exact zdH (by omega)); exact rfl;(iterate 2 (refine zq5 ?_));refine zq6 ?_;refine zq12 ?_;refine zq24 ?_;(iterate 2 (refine zq5 ?_));refine zq6 ?_;refine zq12 ?_;refine zq24 ?_;refine zq30 ?_;refine zq31 ?_;refine zq47 ?_;refine zdg (k := 0) rfl (by decide +kernel) hc (by simpa using hlt0) (zav rfl rfl (zaa (by simpa using hL)) rfl (zbj (by omega) rfl rfl) (zat _)) (fun L3 l3 o3 k3 => ?_);apply zaz;refine zst ?_;refine zq4 ?_;refine zst ?_;simp only [List.map_nil, List.append_nil];rw [ul];exact zaN zsb (.refl _) (ih' (i + 1) L3 (by omega) (by omega) (by rw [← us2]; exact k3))
 have v : i = l.length := by simp at v; omega
 subst v;apply zap;apply zaq; exact rfl;refine zst ?_;exact zci (k := 0) hc rfl hL (zg0 _) (by simp [packA, renV, renL, zbw ⟨zao.1 (zat 0), zbf 0⟩]) ⟨rfl, rfl⟩
def nxI : Option Nat → Int
 | none => -1
 | some m => (m : Int)
def wO (l : List Bk) (A : List Int) (lim : Int) (n k : Nat) : List Int := (List.range n).map fun i => if i < k then wornK l A lim i else 0
theorem wO_len {l : List Bk} {A : List Int} {lim : Int} {n k : Nat} : (wO l A lim n k).length = n := by simp [wO]
theorem wO_zero {l : List Bk} {A : List Int} {lim : Int} {n : Nat} : wO l A lim n 0 = List.replicate n 0 := by
 refine List.ext_getElem (by simp [wO]) fun i h1 h2 => ?_
 simp [wO]
theorem wO_all {l : List Bk} {A : List Int} {lim : Int} {n : Nat} : wO l A lim n n = (List.range n).map (wornK l A lim) := by
 refine List.ext_getElem (by simp [wO]) fun i h1 h2 => ?_
 have : i < n := by simpa [wO] using h1
 simp [wO, this]
theorem wO_set {l : List Bk} {A : List Int} {lim : Int} {n k : Nat} (_h : k < n) : (wO l A lim n k).set k (wornK l A lim k) = wO l A lim n (k + 1) := by
 refine List.ext_getElem (by simp [wO]) fun i h1 h2 => ?_
 have hi : i < n := by simpa [wO] using h2
 rw [List.getElem_set];simp only [wO, List.getElem_map, List.getElem_range];by_cases e : k = i
 ·subst e; rw [if_pos rfl, if_pos (by omega)]
 ·rw [if_neg e];by_cases e2 : i < k
  ·rw [if_pos e2, if_pos (by omega)]
  ·rw [if_neg e2, if_neg (by omega)]
section
variable {l : List Bk} {A : List Int} {k i : Nat} {last : Int}
theorem zlk (h : i < l.length) (hA : i < A.length) (h1 : ¬ (A[i] = (k : Int) ∧ last < l[i].frm)) : nextW l A k last (i + 1) = nextW l A k last i := by
 simp only [nextW, dif_pos h];rw [if_neg]
 rintro ⟨a, b⟩
 rw [List.getElem?_eq_getElem hA] at a;exact h1 ⟨Option.some.inj a, b⟩
theorem zkl (h : i < l.length) (hA : i < A.length) (h1 : A[i] = (k : Int)) (h2 : last < l[i].frm) (hn : nextW l A k last i = none) : nextW l A k last (i + 1) = some i := by
 simp only [nextW, dif_pos h];rw [if_pos ⟨by rw [List.getElem?_eq_getElem hA, h1], h2⟩, hn]
theorem zmT (h : i < l.length) (hA : i < A.length) (h1 : A[i] = (k : Int)) (h2 : last < l[i].frm) {m : Nat} (hm : m < l.length) (hn : nextW l A k last i = some m) (h3 : l[i].frm < l[m].frm) : nextW l A k last (i + 1) = some i := by
 simp only [nextW, dif_pos h];rw [if_pos ⟨by rw [List.getElem?_eq_getElem hA, h1], h2⟩, hn];simp only [List.getElem?_eq_getElem hm, Option.elim, if_pos h3]
theorem zmS (h : i < l.length) (hA : i < A.length) (h1 : A[i] = (k : Int)) (h2 : last < l[i].frm) {m : Nat} (hm : m < l.length) (hn : nextW l A k last i = some m) (h3 : ¬ l[i].frm < l[m].frm) : nextW l A k last (i + 1) = some m := by
 simp only [nextW, dif_pos h];rw [if_pos ⟨by rw [List.getElem?_eq_getElem hA, h1], h2⟩, hn];simp only [List.getElem?_eq_getElem hm, Option.elim, if_neg h3]
end
set_option maxHeartbeats 16000000 in
theorem zoa {H : AHeap} {q r w : Option Addr} {c d e : Nat} {t : List Tb} {l : List Bk} {A : List Int} {lim : Int} (hn : t.length < 1000000) (hr : SlAt H 4 bk r l) (hm : l.length < 1000000) (hw : SlAt H 1 i1 w A) (hA : A.length < 1000000) (hok : ∀ x ∈ l, BkOk x) (hP : AsgP t l A) (l1 : 1 ≤ lim) (l9 : lim ≤ 999999999) :
  Ret Tryz.prog 16 [.slice q t.length c, .slice r l.length d, .slice w A.length e, I lim] H (.slice (some ⟨H.fresh, 0, none⟩) t.length t.length) (H.add (.cells ((wornV t l A lim).map I) 1 false false)) := by
 refine zae Tryz.func16 rfl rfl rfl fun hc => ?_
 have hAl := hP.len;refine zst ?_;apply zbO; exact zcO rfl rfl rfl rfl rfl rfl (Nat.le_refl _) (by omega) (Nat.le_trans (Nat.mul_le_mul_left _ (Nat.le_of_lt hn)) (Nat.le_of_ble_eq_true rfl)); exact rfl;refine zcy (l' := [(0, .slice q t.length c), (1, .slice r l.length d), (2, .slice w A.length e), (3, I lim), (18, .slice (some ⟨nb H 0, 0, none⟩) t.length t.length)]) (h' := ext H H.fresh ([] ++ [some (.cells (repl [I 0] t.length) 1 false false)])) zsb (.refl _) (by simp) ?_;have w0 : repl [I 0] t.length = (wO l A lim t.length 0).map I := by rw [zeD, wO_zero]
 rw [w0];refine zst ?_;apply zar;refine zaA (α := Nat × List (Option ABlk)) (fun a => [(0, .slice q t.length c), (1, .slice r l.length d), (2, .slice w A.length e), (3, I lim), (9, .slice (some ⟨nb H 0, 0, none⟩) t.length t.length), (10, I a.1)]) (fun a => ext H H.fresh a.2) (fun a => a.1 ≤ t.length ∧ a.2[0]? = some (some (.cells ((wO l A lim t.length a.1).map I) 1 false false))) (fun a => t.length - a.1) (fun a ha ih => ?_) (0, [some (.cells ((wO l A lim t.length 0).map I) 1 false false)]) ⟨Nat.zero_le _, rfl⟩ zsb (.refl _);clear w0;obtain ⟨k, L⟩ := a;obtain ⟨hk, hL⟩ := ha;simp only at hk hL ih ⊢;have ih' := fun i' L' a1 a2 a3 => ih (i', L') a1 ⟨a2, a3⟩
 simp only at ih';clear ih;refine zst ?_;refine zq0 ?_;apply zaf;refine zai rfl (fun v => ?_) (fun v => ?_)
 ·simp only [decide_eq_true_eq, Int.ofNat_lt] at v;have hS := ownS_of hok hP k;have hwk : wornK l A lim k = wornL (isort ltB (ownB l A k l.length)) lim := rfl;have hset := wO_set (l := l) (A := A) (lim := lim) v;obtain ⟨S, eS⟩ : ∃ S, S = isort ltB (ownB l A k l.length) := ⟨_, rfl⟩
  rw [← eS] at hS hwk;have hfr : ∀ x ∈ l, x.frm ≤ 99999 := fun x hx => (hok x hx).f1
  obtain ⟨wk, ewk⟩ : ∃ wk, wk = wornK l A lim k := ⟨_, rfl⟩
  rw [← ewk] at hset hwk;have hol := wO_len (l := l) (A := A) (lim := lim) (n := t.length) (k := k);obtain ⟨O, eO⟩ : ∃ O, O = wO l A lim t.length k := ⟨_, rfl⟩
  rw [← eO] at hL hset hol;clear eO ewk eS;have hlt0 : 0 < L.length := (List.getElem?_eq_some_iff.1 hL).1;refine zst ?_;apply zar;refine zaA (α := Nat × Int) (fun a => [(0, .slice q t.length c), (1, .slice r l.length d), (2, .slice w A.length e), (3, I lim), (9, .slice (some ⟨nb H 0, 0, none⟩) t.length t.length), (10, I k), (11, I a.2), (12, I (lastW S a.1))]) (fun _ => ext H H.fresh L) (fun a => a.1 ≤ S.length ∧ wornL (S.drop a.1) a.2 = wk ∧ 1 ≤ a.2 ∧ a.2 ≤ 999999999) (fun a => S.length - a.1) (fun a ha ih2 => ?_) (0, lim) ⟨Nat.zero_le _, hwk.symm, l1, l9⟩ zsb (.refl _);obtain ⟨j, lf⟩ := a;obtain ⟨hj, hwl, f1, f9⟩ := ha;simp only at hj hwl f1 f9 ih2 ⊢;have ih2' := fun j' lf' a1 a2 a3 a4 a5 => ih2 (j', lf') a1 ⟨a2, a3, a4, a5⟩
  simp only at ih2';clear ih2 hwk;have hla := zqB hS hfr hj;refine zst ?_;refine zq0 ?_;apply zaf;refine zam rfl (decide_eq_true (by omega)) ?_;refine zst ?_;apply zar;refine zcG (fun i => [(0, .slice q t.length c), (1, .slice r l.length d), (2, .slice w A.length e), (3, I lim), (9, .slice (some ⟨nb H 0, 0, none⟩) t.length t.length), (10, I k), (11, I lf), (12, I (lastW S j)), (13, I (nxI (nextW l A k (lastW S j) i))), (14, I i)]) (fun _ => True) l.length (fun i hi _ ih3 => ?_) 0 (Nat.zero_le _) trivial zsb;have ih3' := fun i' a1 a2 => ih3 i' a1 a2 trivial
  clear ih3;have hNx := nxW l A k (lastW S j) i;refine zst ?_;refine zq0 ?_;apply zaf;refine zai rfl (fun y => ?_) (fun y => ?_)
  ·simp only [decide_eq_true_eq, Int.ofNat_lt] at y;have hiA : i < A.length := by omega
   obtain ⟨b2, o2, cs2, z2, st2, ro2, rfl, hg2, hw2⟩ := hr.out (by intro e; rw [e] at y; simp at y);obtain ⟨b5, o5, cs5, z5, st5, ro5, rfl, hg5, hw5⟩ := hw.out (by intro e; rw [e] at hiA; simp at hiA);have x1 := (hok _ (List.getElem_mem y)).f0;have ih4 := ih3' (i + 1) (by omega) (by omega);clear ih3' ih2' ih' hset hwl hfr;refine zst ?_;apply zax (by assumption); decide +kernel;(iterate 2 (refine zq5 ?_));refine zq6 ?_;refine zq7 ?_;refine zq5 ?_;refine zq8 ?_;refine zq5 ?_;refine zid (t := 40) rfl (fun y1 => ?_) (fun y1 => ?_)
   ·have y1 : A[i] = (k : Int) := by simpa using y1
    (iterate 2 (refine zq39 ?_));refine zq40 ?_;apply za1 (hfree := rfl) (hg := rfl) (hl := rfl); intro _; exact zbh rfl rfl; exact rfl;apply zbv (hfree := rfl) (hg := rfl) (hl := rfl); exact zaw rfl (by exact zaj (by assumption) (by assumption)) rfl (by exact zhE (by assumption) (by omega) (Nat.le_of_ble_eq_true rfl) rfl); exact rfl;refine zq39 ?_;apply za1 (hfree := rfl) (hg := rfl) (hl := rfl); intro _; exact za5 rfl rfl rfl trivial; exact rfl;refine zq38 ?_;refine zq5 ?_;refine zid (t := 49) rfl (fun y2 => ?_) (fun y2 => ?_)
    ·have y2 : lastW S j < l[i].frm := of_decide_eq_true y2
     cases hnx : nextW l A k (lastW S j) i with
     | none =>
      have hx := zkl y hiA y1 y2 hnx;simp only [nxI];refine zq39 ?_;apply za1 (hfree := rfl) (hg := rfl) (hl := rfl); intro _; exact za5 rfl rfl rfl trivial; exact rfl;refine zq39 ?_;(iterate 11 (apply zbu (hg := rfl) (hl := rfl) (hb := rfl); exact rfl));apply za1 (hfree := rfl) (hg := rfl) (hl := rfl); intro _; exact zeZ rfl rfl; exact rfl;refine zq38 ?_;apply zaz;refine zam rfl rfl ?_;refine zst ?_;refine zq4 ?_;refine zst ?_;simp only [List.map_nil, List.append_nil];rw [hx] at ih4
      exact zaN zsb (.refl _) ih4
     | some m =>
      obtain ⟨hm, _, _, _⟩ := hNx.some_ m hnx;have x2 := (hok _ (List.getElem_mem hm)).f0;have e3 : decide ((m : Int) < 0) = false := decide_eq_false (by omega);simp only [nxI];refine zq39 ?_;apply za1 (hfree := rfl) (hg := rfl) (hl := rfl); intro _; exact za5 rfl rfl rfl trivial; exact rfl;(iterate 3 (refine zq39 ?_));refine zq40 ?_;apply za1 (hfree := rfl) (hg := rfl) (hl := rfl); intro _; exact zbh rfl rfl; exact rfl;apply zbv (hfree := rfl) (hg := rfl) (hl := rfl); exact zaw rfl (by exact zaj (by assumption) (by assumption)) rfl (by exact zhE (by assumption) (by omega) (Nat.le_of_ble_eq_true rfl) rfl); exact rfl;(iterate 2 (refine zq39 ?_));refine zq40 ?_;apply za1 (hfree := rfl) (hg := rfl) (hl := rfl); intro _; exact zbh rfl rfl; exact rfl;apply zbv (hfree := rfl) (hg := rfl) (hl := rfl); exact zaw rfl (by exact zaj (by assumption) (by assumption)) rfl (by exact zhE (by assumption) (by omega) (Nat.le_of_ble_eq_true rfl) rfl); exact rfl;apply za1 (hfree := rfl) (hg := rfl) (hl := rfl); intro _; exact za5 rfl rfl rfl trivial; exact rfl;apply za1 (hfree := rfl) (hg := rfl) (hl := rfl); intro _; exact ze0 rfl rfl; exact rfl;refine zq38 ?_;apply zaz;rw [e3]
      skip;refine zai rfl (fun y3 => ?_) (fun y3 => ?_)
      ·have y3 : l[i].frm < l[m].frm := of_decide_eq_true y3;have hx := zmT y hiA y1 y2 hm hnx y3;refine zst ?_;refine zq4 ?_;refine zst ?_;simp only [List.map_nil, List.append_nil];rw [hx] at ih4;exact zaN zsb (.refl _) ih4
      ·have y3 : ¬ l[i].frm < l[m].frm := of_decide_eq_false y3;have hx := zmS y hiA y1 y2 hm hnx y3;refine zst ?_;refine zq4 ?_;refine zst ?_;simp only [List.map_nil, List.append_nil];rw [hx] at ih4;exact zaN zsb (.refl _) ih4
    ·have y2 : ¬ lastW S j < l[i].frm := of_decide_eq_false y2;have hx := zlk (k := k) (last := lastW S j) y hiA (fun h => y2 h.2);(iterate 3 (apply zbu (hg := rfl) (hl := rfl) (hb := rfl); exact rfl));(iterate 11 (apply zhB (hg := rfl) (hl := rfl); exact rfl));apply zbu (hg := rfl) (hl := rfl) (hb := rfl); exact rfl;refine zq41 ?_;apply zaz;refine zah rfl rfl ?_;refine zst ?_;refine zq4 ?_;refine zst ?_;simp only [List.map_nil, List.append_nil];rw [hx] at ih4;exact zaN zsb (.refl _) ih4
   ·have y1 : ¬ A[i] = (k : Int) := by simpa using y1
    have hx := zlk (k := k) (last := lastW S j) y hiA (fun h => y1 h.1);(iterate 7 (apply zbu (hg := rfl) (hl := rfl) (hb := rfl); exact rfl));refine zq41 ?_;refine zq5 ?_;(iterate 3 (apply zbu (hg := rfl) (hl := rfl) (hb := rfl); exact rfl));(iterate 11 (apply zhB (hg := rfl) (hl := rfl); exact rfl));apply zbu (hg := rfl) (hl := rfl) (hb := rfl); exact rfl;refine zq41 ?_;apply zaz;refine zah rfl rfl ?_;refine zst ?_;refine zq4 ?_;refine zst ?_;simp only [List.map_nil, List.append_nil];rw [hx] at ih4;exact zaN zsb (.refl _) ih4
  ·have y : i = l.length := by simp at y; omega
   subst y;clear ih3' hNx;rcases Nat.lt_or_ge j S.length with hjs | hjs
   ·obtain ⟨m, hmm, en, el⟩ := hS.next hjs;have hx := hok _ (List.getElem_mem hmm);have x0 := hx.f0;have x1 := hx.f1;have x2 := hx.t0;have x3 := hx.t1;have x4 := hx.lt;obtain ⟨b2, o2, cs2, z2, st2, ro2, rfl, hg2, hw2⟩ := hr.out (by intro e; rw [e] at hmm; simp at hmm);have hd : S.drop j = S[j] :: S.drop (j + 1) := List.drop_eq_getElem_cons hjs;have hla2 : lastW S (j + 1) = l[m].frm := by rw [el]; simp only [lastW, List.getElem?_eq_getElem hjs, Option.elim]
    rw [hd, ← el] at hwl;have hwl : (if lf ≤ l[m].to - l[m].frm then l[m].frm + lf - 1 else wornL (S.drop (j + 1)) (lf - (l[m].to - l[m].frm))) = wk := hwl;rw [en];simp only [nxI];clear hS hd hfr hP hok;apply zap;apply zaq; exact rfl;refine zst ?_;refine zq0 ?_;apply zaf;refine zah rfl (decide_eq_false (by omega)) ?_;refine zst ?_;refine zq2 ?_;refine zst ?_;refine zq21 ?_;refine zst ?_;apply zax (by assumption); decide +kernel;(iterate 2 (refine zq5 ?_));refine zq6 ?_;refine zq12 ?_;refine zq24 ?_;(iterate 2 (refine zq5 ?_));refine zq6 ?_;refine zq12 ?_;refine zq24 ?_;refine zq30 ?_;refine zq14 ?_;apply zaz;refine zst ?_;refine zq0 ?_;apply zaf;simp only [List.map_nil, List.append_nil];refine zai rfl (fun y => ?_) (fun y => ?_)
    ·have y : l[m].to - l[m].frm < lf := of_decide_eq_true y;rw [if_neg (by omega)] at hwl;refine zst ?_;refine zq27 ?_;refine zst ?_;apply zap;apply zaq; exact rfl;have ih5 := ih2' (j + 1) (lf - (l[m].to - l[m].frm)) (by omega) (by omega) hwl (by omega) (by omega);rw [hla2] at ih5;exact zaN zsb (.refl _) ih5
    ·have y : ¬ l[m].to - l[m].frm < lf := of_decide_eq_false y;rw [if_pos (by omega)] at hwl;refine zst ?_;refine zq26 ?_;refine zq27 ?_;refine zq2 ?_;refine zkY (k := 0) hc hlt0 (zav rfl rfl (zaa hL) rfl (zbj (by omega) rfl rfl) (zat _)) (fun L3 l3 o3 k3 => ?_);rw [hwl, hset] at k3;refine zst ?_;apply zdK;refine zst ?_;refine zq0 ?_;apply zaf;refine zah rfl rfl ?_;apply zap;apply zaq; exact rfl;refine zst ?_;refine zq0 ?_;apply zaf;refine zah rfl rfl ?_;refine zst ?_;refine zq4 ?_;refine zst ?_;exact zaN zsb (.refl _) (ih' (k + 1) L3 (by omega) (by omega) k3)
   ·have e : j = S.length := by omega
    subst e;rw [List.drop_length] at hwl;have hwl : wk = -1 := hwl.symm;rw [hS.done];simp only [nxI];clear hS hfr hP hok ih2';apply zap;apply zaq; exact rfl;refine zst ?_;refine zq0 ?_;apply zaf;refine zam rfl rfl ?_;apply zap;apply exit_ne; exact rfl;apply zaq; exact rfl;refine zst ?_;refine zq0 ?_;apply zaf;refine zam rfl (decide_eq_true (by omega)) ?_;refine zst ?_;refine zq2 ?_;refine za7 (k := 0) hc hlt0 (zav rfl rfl (zaa hL) rfl (zbj (by omega) rfl rfl) (zat _)) (fun L3 l3 o3 k3 => ?_);rw [← hwl, hset] at k3;refine zst ?_;refine zq4 ?_;refine zst ?_;exact zaN zsb (.refl _) (ih' (k + 1) L3 (by omega) (by omega) k3)
 ·have v : k = t.length := by simp at v; omega
  subst v;rw [wO_all] at hL;apply zap;apply zaq; exact rfl;refine zst ?_;exact zci (k := 0) hc rfl hL (zg0 _) (by simp [packA, renV, renL, zbw ⟨zao.1 (zat 0), zbf 0⟩]) ⟨rfl, rfl⟩
end Go.Proofs.YtlejimjgagfalaaGreatDoor
