import Derived.Test.YtlejimjgagfalaaGreatDoorHaC
import Derived.Test.YtlejimjgagfalaaGreatDoorStA
import Derived.Test.YtlejimjgagfalaaGreatDoorStC
import Derived.Test.YtlejimjgagfalaaGreatDoorShC
import Derived.Test.YtlejimjgagfalaaGreatDoorOpA
noncomputable section
namespace Go.Proofs.YtlejimjgagfalaaGreatDoor
open Go Go.Den
set_option maxRecDepth 100000
structure Bk where
 name : ByteArray
 kind : ByteArray
 frm : Int
 to : Int
def bk (x : Bk) : List Value := [.string x.name, .string x.kind, I x.frm, I x.to]
theorem zlQ (x : Bk) : (bk x).length = 4 := rfl
structure Tb where
 name : ByteArray
 kind : ByteArray
def tb (x : Tb) : List Value := [.string x.name, .string x.kind]
theorem znL (x : Tb) : (tb x).length = 2 := rfl
structure Rq where
 name : ByteArray
 kind : ByteArray
 len : Int
 arr : Int
def rq (x : Rq) : List Value := [.string x.name, .string x.kind, I x.len, I x.arr]
theorem zqF {H : AHeap} {q : Option Addr} {c g : Nat} {caps : List Value} {l : List ByteArray} {p : ByteArray → Bool} (hs : SlAt H 1 s1 q l) (hn : l.length < 1000000000000)
  (hp : ∀ x ∈ l, ∀ H', Ext H H' → Ret Tryz.prog g (.string x :: caps) H' (.bool (p x)) H') :
  Ret Tryz.prog 144 [.slice q l.length c, .func (.func g) #[] ⟨caps⟩] H (I (idxOf p l 0)) H := by
 refine zae Tryz.func144 rfl rfl rfl fun hc => ?_
 refine zst ?_;apply zar;refine zcG (fun i => [(0, .slice q l.length c), (1, .func (.func g) #[] ⟨caps⟩), (7, I l.length), (8, I i)]) (fun i => ∀ j (hj : j < l.length), j < i → p l[j] = false) l.length (fun i hi hJ ih => ?_) 0 (by omega) (by intros; omega) zsb;refine zst ?_;refine zq0 ?_;refine zst ?_;refine zai rfl (fun hb => ?_) (fun hb => ?_)
 ·simp only [decide_eq_true_eq, Int.ofNat_lt] at hb;obtain ⟨b, o, cs, z, s, ro, rfl, hg, hw⟩ := hs.out (by intro e; rw [e] at hb; simp at hb);refine zst ?_;refine zq2 ?_;refine zq3 ?_;apply zac (ht := rfl); exact hp _ (List.getElem_mem hb) _ (zag hc); exact rfl;apply zaf;refine zai rfl (fun h2 => ?_) (fun h2 => ?_)
  ·refine zst ?_;refine zab hc rfl rfl ⟨?_, rfl⟩;rw [zeS hb 0 hJ h2]; simp [packA]
  ·refine zst ?_;refine zq4 ?_;refine zst ?_;refine zbn ?_ (ih (i + 1) (by omega) (by omega) fun j hj hji => ?_)
   ·(repeat (first | exact zbi | apply za0 rfl))
   ·rcases Nat.lt_or_ge j i with h | h
    ·exact hJ j hj h
    ·have : j = i := by omega
     subst this; exact h2
 ·simp only [decide_eq_false_iff_not, Int.ofNat_lt] at hb;apply zap;apply zaq; exact rfl;refine zst ?_;refine zab hc rfl rfl ⟨?_, rfl⟩;rw [zc5 0 fun j hj => hJ j hj (by omega)]; rfl
theorem zkH {H : AHeap} {q : Option Addr} {c g : Nat} {caps : List Value} {l : List ByteArray} {p : ByteArray → Bool} (hs : SlAt H 1 s1 q l) (hn : l.length < 1000000000000)
  (hp : ∀ x ∈ l, ∀ H', Ext H H' → Ret Tryz.prog g (.string x :: caps) H' (.bool (p x)) H') :
  Ret Tryz.prog 104 [.slice q l.length c, .func (.func g) #[] ⟨caps⟩] H (.bool (l.any p)) H := by
 refine zae Tryz.func104 rfl rfl rfl fun hc => ?_
 refine zst ?_;apply zac (ht := rfl); exact zqF (l := l) (p := p) (hs.ext (zag hc)) hn fun x hx H' h' => hp x hx H' ((zag hc).trans h'); exact rfl
 refine zq0 ?_;refine zst ?_;refine zab hc rfl rfl ⟨?_, rfl⟩;rw [← zdL l 0]; rfl
def nameE (l : List ByteArray) : Int := whenL (l.any fun s => !nameB s) 8
theorem zqs {H : AHeap} {s : ByteArray} : Ret Tryz.prog 105 [.string s] H (.bool (!nameB s)) H := by
 refine zae Tryz.func105 rfl rfl rfl fun hc => ?_
 refine zst ?_;apply zac (ht := rfl); exact zqE; exact rfl;refine zq10 ?_;refine zst ?_;exact zab hc rfl rfl ⟨rfl, rfl⟩
theorem zoG {H : AHeap} {q : Option Addr} {c : Nat} {l : List ByteArray} (hs : SlAt H 1 s1 q l) (hn : l.length < 1000000000000) :
  Ret Tryz.prog 60 [.slice q l.length c] H (I (nameE l)) H := by
 refine zae Tryz.func60 rfl rfl rfl fun hc => ?_
 refine zst ?_;apply zac (ht := rfl); exact zkH (p := fun s => !nameB s) (hs.ext (zag hc)) hn fun x _ H' _ => zqs; exact rfl
 apply zac (ht := rfl); exact when85; exact rfl;refine zst ?_;exact zab hc rfl rfl ⟨rfl, rfl⟩
def bookE (x : Bk) : Int := firstL [nameE [x.name, x.kind], whenL (outL x.frm 0 99999) 3, whenL (outL x.to 0 99999) 3, whenL (decide (x.to ≤ x.frm)) 11]
theorem book_c {H : AHeap} {x : Bk} {v : Value} : Ret Tryz.prog 70 [.agg ⟨bk x⟩, v] H (I (bookE x)) H := by
 refine zae Tryz.func70 rfl rfl rfl fun hc => ?_
 refine zst ?_;apply zax (by assumption); decide +kernel;refine zq12 ?_;refine zq13 ?_;refine zq12 ?_;refine zq13 ?_;apply zcf (hfree := rfl); exact zaM rfl rfl rfl rfl rfl rfl rfl; exact rfl;apply zbc (ht := rfl) (hw := rfl); decide +kernel; exact zoG (l := [_, _]) (zaB (zaa rfl)) (by simp); exact rfl;refine zq12 ?_;refine zq13 ?_;apply zaC (ht := rfl); exact day_c; exact rfl;refine zq12 ?_;refine zq13 ?_;apply zaC (ht := rfl); exact day_c; exact rfl;refine zq12 ?_;refine zq13 ?_;refine zq12 ?_;refine zq13 ?_;refine zq8 ?_;apply zaC (ht := rfl); exact when85; exact rfl;apply zcf (hfree := rfl); exact zaM rfl rfl rfl rfl rfl rfl rfl; exact rfl;apply zbc (ht := rfl) (hw := rfl); decide +kernel; exact first84 (l := [_, _, _, _]) (zaB (zaa rfl)) (by simp); exact rfl;refine zq14 ?_;apply zaz;apply zaV;exact zab hc rfl rfl ⟨rfl, rfl⟩
theorem zqL {H : AHeap} {q : Option Addr} {c g : Nat} {caps : List Value} {l : List Bk} {most : Nat} {err : List Bk → Bk → Int} (hs : SlAt H 4 bk q l) (hlow : LowS q c l.length) (hn : l.length < 1000000000000)
  (hp : ∀ i (hi : i < l.length), ∀ H', Ext H H' → Ret Tryz.prog g (.agg ⟨bk l[i]⟩ :: .slice q i c :: caps) H' (I (err (l.take i) l[i])) H') :
  Ret Tryz.prog 103 [.slice q l.length c, I most, .func (.func g) #[] ⟨caps⟩] H (I (if l.length > most then 5 else restG err l)) H := by
 refine zae Tryz.func103 rfl rfl rfl fun hc => ?_
 refine zst ?_;refine zq0 ?_;apply zaf;refine zai rfl (fun h0 => ?_) (fun h0 => ?_)
 ·have h0 : l.length > most := by simp at h0; omega
  refine zst ?_;refine zab hc rfl rfl ⟨?_, rfl⟩;rw [if_pos h0]; rfl
 have h0 : ¬ l.length > most := by simp at h0; omega
 rw [if_neg h0];refine zst ?_;apply zar;refine zaA (α := Nat × List (Option ABlk)) (fun a => [(0, .slice q l.length c), (2, .func (.func g) #[] ⟨caps⟩), (14, .slice q l.length c), (15, I l.length), (16, I a.1)]) (fun a => ext H H.fresh a.2) (fun a => a.1 ≤ l.length ∧ ∀ j, j < a.1 → errG err l j = 0) (fun a => l.length - a.1) (fun a ha ih => ?_) (0, []) ⟨by simp, fun j hj => by simp at hj⟩ zsb (.refl _);obtain ⟨i, L⟩ := a;obtain ⟨hi, hJ⟩ := ha;simp only at hi hJ ih ⊢;have ih' := fun i' L' a1 a2 a3 => ih (i', L') a1 ⟨a2, a3⟩
 simp only at ih';clear ih;refine zst ?_;refine zq0 ?_;refine zst ?_;refine zai rfl (fun h1 => ?_) (fun h1 => ?_)
 ·simp only [decide_eq_true_eq, Int.ofNat_lt] at h1;obtain ⟨b, o, cs, z, s, ro, rfl, hg, hw⟩ := hs.out (by intro e; rw [e] at h1; simp at h1);have hcap := hlow.cap;refine zst ?_;refine zq2 ?_;refine zq15 ?_;refine zst ?_;refine zq16 ?_;apply zcj;apply zax (by assumption); decide +kernel;refine zq5 ?_;apply zaS (hfree := rfl); exact zaw rfl (by exact zaa (getApp getSetLast)) rfl (by exact rfl); exact rfl;(iterate 2 (refine zq5 ?_));apply zaS (hfree := rfl); exact zb9 rfl rfl rfl (by intro e; cases e) (by rintro _ ⟨⟩; rfl) (by omega); exact rfl
  skip;apply zaC (ht := rfl); exact hp i h1 _ (zag hc); exact rfl;refine zq14 ?_;apply zaz;refine zst ?_;refine zq0 ?_;apply zaf;refine zai rfl (fun h2 => ?_) (fun h2 => ?_)
  ·have h2 : err (l.take i) l[i] ≠ 0 := by simpa using h2
   refine zst ?_;refine zab hc rfl rfl ⟨?_, rfl⟩;rw [zeC h1 hJ (by rw [zbU h1]; exact h2), zbU h1]; rfl
  ·have h2 : err (l.take i) l[i] = 0 := by simpa using h2
   refine zst ?_;refine zq4 ?_;refine zst ?_;refine zaN zsb (.refl _) (ih' (i + 1) _ (by omega) (by omega) fun j hj => ?_);rcases Nat.lt_or_ge j i with h | h
   ·exact hJ j h
   ·obtain rfl : j = i := by omega
    rw [zbU h1]; exact h2
 ·have h1 : i = l.length := by simp at h1; omega
  subst h1;apply zap;apply zaq; exact rfl;refine zst ?_;refine zab hc rfl rfl ⟨?_, rfl⟩;rw [zcq hJ]; rfl
def booksE (l : List Bk) : Int := if l.length > 256 then 5 else restG (fun _ x => bookE x) l
theorem zhk {H : AHeap} {q : Option Addr} {c : Nat} {l : List Bk} (hs : SlAt H 4 bk q l) (hlow : LowS q c l.length) (hn : l.length < 1000000000000) :
  Ret Tryz.prog 59 [.slice q l.length c] H (I (booksE l)) H := by
 refine zae Tryz.func59 rfl rfl rfl fun hc => ?_
 refine zst ?_;apply zac (ht := rfl); exact zqL (most := 256) (err := fun _ x => bookE x) (hs.ext (zag hc)) hlow hn fun i hi H' hE => book_c; exact rfl
 refine zst ?_;exact zab hc rfl rfl ⟨rfl, rfl⟩
theorem zqK {H : AHeap} {q : Option Addr} {c g : Nat} {caps : List Value} {l : List Tb} {most : Nat} {err : List Tb → Tb → Int} (hs : SlAt H 2 tb q l) (hlow : LowS q c l.length) (hn : l.length < 1000000000000)
  (hp : ∀ i (hi : i < l.length), ∀ H', Ext H H' → Ret Tryz.prog g (.agg ⟨tb l[i]⟩ :: .slice q i c :: caps) H' (I (err (l.take i) l[i])) H') :
  Ret Tryz.prog 147 [.slice q l.length c, I most, .func (.func g) #[] ⟨caps⟩] H (I (if l.length > most then 5 else restG err l)) H := by
 refine zae Tryz.func147 rfl rfl rfl fun hc => ?_
 refine zst ?_;refine zq0 ?_;apply zaf;refine zai rfl (fun h0 => ?_) (fun h0 => ?_)
 ·have h0 : l.length > most := by simp at h0; omega
  refine zst ?_;refine zab hc rfl rfl ⟨?_, rfl⟩;rw [if_pos h0]; rfl
 have h0 : ¬ l.length > most := by simp at h0; omega
 rw [if_neg h0];refine zst ?_;apply zar;refine zaA (α := Nat × List (Option ABlk)) (fun a => [(0, .slice q l.length c), (2, .func (.func g) #[] ⟨caps⟩), (14, .slice q l.length c), (15, I l.length), (16, I a.1)]) (fun a => ext H H.fresh a.2) (fun a => a.1 ≤ l.length ∧ ∀ j, j < a.1 → errG err l j = 0) (fun a => l.length - a.1) (fun a ha ih => ?_) (0, []) ⟨by simp, fun j hj => by simp at hj⟩ zsb (.refl _);obtain ⟨i, L⟩ := a;obtain ⟨hi, hJ⟩ := ha;simp only at hi hJ ih ⊢;have ih' := fun i' L' a1 a2 a3 => ih (i', L') a1 ⟨a2, a3⟩
 simp only at ih';clear ih;refine zst ?_;refine zq0 ?_;refine zst ?_;refine zai rfl (fun h1 => ?_) (fun h1 => ?_)
 ·simp only [decide_eq_true_eq, Int.ofNat_lt] at h1;obtain ⟨b, o, cs, z, s, ro, rfl, hg, hw⟩ := hs.out (by intro e; rw [e] at h1; simp at h1);have hcap := hlow.cap;refine zst ?_;refine zq2 ?_;refine zq15 ?_;refine zst ?_;refine zq16 ?_;apply zcj;apply zax (by assumption); decide +kernel;refine zq5 ?_;apply zaS (hfree := rfl); exact zaw rfl (by exact zaa (getApp getSetLast)) rfl (by exact rfl); exact rfl;(iterate 2 (refine zq5 ?_));apply zaS (hfree := rfl); exact zb9 rfl rfl rfl (by intro e; cases e) (by rintro _ ⟨⟩; rfl) (by omega); exact rfl
  skip;apply zaC (ht := rfl); exact hp i h1 _ (zag hc); exact rfl;refine zq14 ?_;apply zaz;refine zst ?_;refine zq0 ?_;apply zaf;refine zai rfl (fun h2 => ?_) (fun h2 => ?_)
  ·have h2 : err (l.take i) l[i] ≠ 0 := by simpa using h2
   refine zst ?_;refine zab hc rfl rfl ⟨?_, rfl⟩;rw [zeC h1 hJ (by rw [zbU h1]; exact h2), zbU h1]; rfl
  ·have h2 : err (l.take i) l[i] = 0 := by simpa using h2
   refine zst ?_;refine zq4 ?_;refine zst ?_;refine zaN zsb (.refl _) (ih' (i + 1) _ (by omega) (by omega) fun j hj => ?_);rcases Nat.lt_or_ge j i with h | h
   ·exact hJ j h
   ·obtain rfl : j = i := by omega
    rw [zbU h1]; exact h2
 ·have h1 : i = l.length := by simp at h1; omega
  subst h1;apply zap;apply zaq; exact rfl;refine zst ?_;refine zab hc rfl rfl ⟨?_, rfl⟩;rw [zcq hJ]; rfl
theorem zoX {H : AHeap} {q : Option Addr} {c g : Nat} {caps : List Value} {l : List Tb} {p : Tb → Bool} (hs : SlAt H 2 tb q l) (hn : l.length < 1000000000000)
  (hp : ∀ x ∈ l, ∀ H', Ext H H' → Ret Tryz.prog g (.agg ⟨tb x⟩ :: caps) H' (.bool (p x)) H') :
  Ret Tryz.prog 194 [.slice q l.length c, .func (.func g) #[] ⟨caps⟩] H (I (idxOf p l 0)) H := by
 refine zae Tryz.func194 rfl rfl rfl fun hc => ?_
 refine zst ?_;apply zar;refine zcG (fun i => [(0, .slice q l.length c), (1, .func (.func g) #[] ⟨caps⟩), (7, I l.length), (8, I i)]) (fun i => ∀ j (hj : j < l.length), j < i → p l[j] = false) l.length (fun i hi hJ ih => ?_) 0 (by omega) (by intros; omega) zsb;refine zst ?_;refine zq0 ?_;refine zst ?_;refine zai rfl (fun hb => ?_) (fun hb => ?_)
 ·simp only [decide_eq_true_eq, Int.ofNat_lt] at hb;obtain ⟨b, o, cs, z, s, ro, rfl, hg, hw⟩ := hs.out (by intro e; rw [e] at hb; simp at hb);refine zst ?_;refine zq2 ?_;refine zq15 ?_;apply zac (ht := rfl); exact hp _ (List.getElem_mem hb) _ (zag hc); exact rfl;apply zaf;refine zai rfl (fun h2 => ?_) (fun h2 => ?_)
  ·refine zst ?_;refine zab hc rfl rfl ⟨?_, rfl⟩;rw [zeS hb 0 hJ h2]; simp [packA]
  ·refine zst ?_;refine zq4 ?_;refine zst ?_;refine zbn ?_ (ih (i + 1) (by omega) (by omega) fun j hj hji => ?_)
   ·(repeat (first | exact zbi | apply za0 rfl))
   ·rcases Nat.lt_or_ge j i with h | h
    ·exact hJ j hj h
    ·have : j = i := by omega
     subst this; exact h2
 ·simp only [decide_eq_false_iff_not, Int.ofNat_lt] at hb;apply zap;apply zaq; exact rfl;refine zst ?_;refine zab hc rfl rfl ⟨?_, rfl⟩;rw [zc5 0 fun j hj => hJ j hj (by omega)]; rfl
theorem zjL {H : AHeap} {q : Option Addr} {c g : Nat} {caps : List Value} {l : List Tb} {p : Tb → Bool} (hs : SlAt H 2 tb q l) (hn : l.length < 1000000000000)
  (hp : ∀ x ∈ l, ∀ H', Ext H H' → Ret Tryz.prog g (.agg ⟨tb x⟩ :: caps) H' (.bool (p x)) H') :
  Ret Tryz.prog 149 [.slice q l.length c, .func (.func g) #[] ⟨caps⟩] H (.bool (l.any p)) H := by
 refine zae Tryz.func149 rfl rfl rfl fun hc => ?_
 refine zst ?_;apply zac (ht := rfl); exact zoX (l := l) (p := p) (hs.ext (zag hc)) hn fun x hx H' h' => hp x hx H' ((zag hc).trans h'); exact rfl
 refine zq0 ?_;refine zst ?_;refine zab hc rfl rfl ⟨?_, rfl⟩;rw [← zdL l 0]; rfl
def tabE (pre : List Tb) (x : Tb) : Int := firstL [nameE [x.name, x.kind], whenL (pre.any fun y => decide (y.name = x.name)) 9]
theorem znN {H : AHeap} {x y : Tb} {b z : Nat} {s ro : Bool} (hg : H.get b = some (.cells (tb x) z s ro)) : Ret Tryz.prog 150 [.agg ⟨tb y⟩, .pointer (some ⟨b, 0, none⟩)] H (.bool (decide (y.name = x.name))) H := by
 refine zae Tryz.func150 rfl rfl rfl fun hc => ?_
 refine zst ?_;refine zq17 ?_;refine zst ?_;refine zq18 ?_;apply zad; exact zbV rfl rfl rfl; exact rfl;refine zst ?_;refine zab hc rfl rfl ⟨?_, rfl⟩;rw [← zba]; rfl
theorem zpQ {H : AHeap} {q : Option Addr} {c : Nat} {pre : List Tb} {x : Tb} (hs : SlAt H 2 tb q pre) (hn : pre.length < 1000000000000) :
  Ret Tryz.prog 148 [.agg ⟨tb x⟩, .slice q pre.length c] H (I (tabE pre x)) H := by
 refine zae Tryz.func148 rfl rfl rfl fun hc => ?_
 refine zst ?_;apply zad; exact zdq rfl rfl; exact rfl;apply zac (ht := rfl); exact zjL (p := fun y => decide (y.name = x.name)) (hs.ext (zag hc)) hn fun y _ H' hE => znN (hE _ _ (zaa rfl)); exact rfl
 refine zst ?_;refine zq17 ?_;refine zst ?_;refine zq17 ?_;refine zq19 ?_;apply zac (ht := rfl); exact zoG (l := [_, _]) (zaB (zaa rfl)) (by simp); exact rfl;refine zst ?_;apply zac (ht := rfl); exact when85; exact rfl;refine zq19 ?_;apply zac (ht := rfl); exact first84 (l := [_, _]) (zaB (zaa rfl)) (by simp); exact rfl;refine zst ?_;exact zab hc rfl rfl ⟨rfl, rfl⟩
def tabsE (l : List Tb) : Int := if l.length > 64 then 5 else restG tabE l
theorem ziQ {H : AHeap} {q : Option Addr} {c : Nat} {l : List Tb} (hs : SlAt H 2 tb q l) (hlow : LowS q c l.length) (hn : l.length < 1000000000000) :
  Ret Tryz.prog 110 [.slice q l.length c] H (I (tabsE l)) H := by
 refine zae Tryz.func110 rfl rfl rfl fun hc => ?_
 have hp : ∀ i (hi : i < l.length), ∀ H', Ext (ext H H.fresh []) H' → Ret Tryz.prog 148 (.agg ⟨tb l[i]⟩ :: .slice q i c :: []) H' (I (tabE (l.take i) l[i])) H' := fun i hi H' hE => by
  have := zpQ (c := c) (x := l[i]) ((hs.ext ((zag hc).trans hE)).take i) (by rw [List.length_take]; omega)
  rwa [List.length_take, Nat.min_eq_left (by omega)] at this
 refine zst ?_;apply zac (ht := rfl); exact zqK (most := 64) (err := tabE) (hs.ext (zag hc)) hlow hn hp; exact rfl;refine zst ?_;exact zab hc rfl rfl ⟨rfl, rfl⟩
def cntK (t : List Tb) (k : ByteArray) : Nat := t.countP fun x => decide (x.kind = k)
theorem cntK_le (t : List Tb) (k : ByteArray) : cntK t k ≤ t.length := List.countP_le_length
theorem zjT {t : List Tb} {k : ByteArray} {i : Nat} (h : i < t.length) : cntK (t.take (i + 1)) k = cntK (t.take i) k + if t[i].kind = k then 1 else 0 := by
 rw [zgr h];unfold cntK;rw [List.countP_append, List.countP_singleton];simp only [decide_eq_true_eq]
theorem zjS {t : List Tb} {k : ByteArray} {i : Nat} : cntK (t.take i) k ≤ i := Nat.le_trans (cntK_le _ _) (by rw [List.length_take]; omega)
theorem count_c {H : AHeap} {q : Option Addr} {c : Nat} {l : List Tb} {k : ByteArray} (hs : SlAt H 2 tb q l) (hn : l.length < 1000000000000) :
  Ret Tryz.prog 71 [.slice q l.length c, .string k] H (I (cntK l k)) H := by
 refine zae Tryz.func71 rfl rfl rfl fun hc => ?_
 refine zst ?_;apply zar;refine zaA (α := Nat × List (Option ABlk)) (fun a => [(1, .string k), (5, I (cntK (l.take a.1) k)), (8, .slice q l.length c), (9, I l.length), (10, I a.1)]) (fun a => ext H H.fresh a.2) (fun a => a.1 ≤ l.length) (fun a => l.length - a.1) (fun a ha ih => ?_) (0, []) (by simp) zsb (.refl _);obtain ⟨i, L⟩ := a;simp only at ha ih ⊢;have ih' := fun i' L' a1 a2 => ih (i', L') a1 a2
 simp only at ih';clear ih;refine zst ?_;refine zq0 ?_;refine zst ?_;refine zai rfl (fun h1 => ?_) (fun h1 => ?_)
 ·simp only [decide_eq_true_eq, Int.ofNat_lt] at h1;obtain ⟨b, o, cs, z, s, ro, rfl, hg, hw⟩ := hs.out (by intro e; rw [e] at h1; simp at h1);have se := zjT (k := k) h1;have sl := zjS (t := l) (k := k) (i := i);refine zst ?_;refine zq2 ?_;refine zq15 ?_;refine zst ?_;refine zq16 ?_;refine zst ?_;refine zq20 ?_;refine zst ?_;apply zad; exact zbV rfl rfl rfl; exact rfl;apply zaf;rw [set_mid rfl];refine ct_JE [(1, .string k), (5, I (cntK (l.take (i + 1)) k)), (8, .slice (some ⟨b, o, none⟩) l.length c), (9, I l.length), (10, I i)] (ds := []) (h := ext H H.fresh (L ++ [some (.cells (tb l[i]) 0 false false)])) ?_ ?_
  ·refine zai rfl (fun h2 => ?_) (fun h2 => ?_)
   ·have h2 : byteL l[i].kind.data.toList k.data.toList = true := h2;rw [zba] at h2;have h2 := of_decide_eq_true h2;rw [se, if_pos h2];refine zst ?_;refine zq4 ?_;refine zst ?_;exact zaP zsb
   ·have h2 : byteL l[i].kind.data.toList k.data.toList = false := h2;rw [zba] at h2;have h2 := of_decide_eq_false h2;rw [se, if_neg h2];apply zbb;exact zaP zsb
  apply zc8;refine zq4 ?_;refine zst ?_;exact zaN zsb (.refl _) (ih' (i + 1) _ (by omega) (by omega))
 ·have h1 : i = l.length := by simp at h1; omega
  subst h1;rw [List.take_length];apply zap;apply zaq; exact rfl;refine zst ?_;exact zab hc rfl rfl ⟨rfl, rfl⟩
theorem zoZ {H : AHeap} {q : Option Addr} {c g : Nat} {caps : List Value} {l : List Bk} {p : Bk → Bool} (hs : SlAt H 4 bk q l) (hn : l.length < 1000000000000)
  (hp : ∀ x ∈ l, ∀ H', Ext H H' → Ret Tryz.prog g (.agg ⟨bk x⟩ :: caps) H' (.bool (p x)) H') :
  Ret Tryz.prog 146 [.slice q l.length c, .func (.func g) #[] ⟨caps⟩] H (I (idxOf p l 0)) H := by
 refine zae Tryz.func146 rfl rfl rfl fun hc => ?_
 refine zst ?_;apply zar;refine zcG (fun i => [(0, .slice q l.length c), (1, .func (.func g) #[] ⟨caps⟩), (7, I l.length), (8, I i)]) (fun i => ∀ j (hj : j < l.length), j < i → p l[j] = false) l.length (fun i hi hJ ih => ?_) 0 (by omega) (by intros; omega) zsb;refine zst ?_;refine zq0 ?_;refine zst ?_;refine zai rfl (fun hb => ?_) (fun hb => ?_)
 ·simp only [decide_eq_true_eq, Int.ofNat_lt] at hb;obtain ⟨b, o, cs, z, s, ro, rfl, hg, hw⟩ := hs.out (by intro e; rw [e] at hb; simp at hb);refine zst ?_;refine zq2 ?_;refine zq15 ?_;apply zac (ht := rfl); exact hp _ (List.getElem_mem hb) _ (zag hc); exact rfl;apply zaf;refine zai rfl (fun h2 => ?_) (fun h2 => ?_)
  ·refine zst ?_;refine zab hc rfl rfl ⟨?_, rfl⟩;rw [zeS hb 0 hJ h2]; simp [packA]
  ·refine zst ?_;refine zq4 ?_;refine zst ?_;refine zbn ?_ (ih (i + 1) (by omega) (by omega) fun j hj hji => ?_)
   ·(repeat (first | exact zbi | apply za0 rfl))
   ·rcases Nat.lt_or_ge j i with h | h
    ·exact hJ j hj h
    ·have : j = i := by omega
     subst this; exact h2
 ·simp only [decide_eq_false_iff_not, Int.ofNat_lt] at hb;apply zap;apply zaq; exact rfl;refine zst ?_;refine zab hc rfl rfl ⟨?_, rfl⟩;rw [zc5 0 fun j hj => hJ j hj (by omega)]; rfl
theorem zjM {H : AHeap} {q : Option Addr} {c g : Nat} {caps : List Value} {l : List Bk} {p : Bk → Bool} (hs : SlAt H 4 bk q l) (hn : l.length < 1000000000000)
  (hp : ∀ x ∈ l, ∀ H', Ext H H' → Ret Tryz.prog g (.agg ⟨bk x⟩ :: caps) H' (.bool (p x)) H') :
  Ret Tryz.prog 108 [.slice q l.length c, .func (.func g) #[] ⟨caps⟩] H (.bool (l.any p)) H := by
 refine zae Tryz.func108 rfl rfl rfl fun hc => ?_
 refine zst ?_;apply zac (ht := rfl); exact zoZ (l := l) (p := p) (hs.ext (zag hc)) hn fun x hx H' h' => hp x hx H' ((zag hc).trans h'); exact rfl
 refine zq0 ?_;refine zst ?_;refine zab hc rfl rfl ⟨?_, rfl⟩;rw [← zdL l 0]; rfl
theorem both1_c {H : AHeap} {q : Option Addr} {c : Nat} {t : List Tb} {x : Bk} {b z : Nat} {s ro : Bool} (hs : SlAt H 2 tb q t) (hn : t.length < 1000000000000) (hg : H.get b = some (.cells [.slice q t.length c] z s ro)) :
  Ret Tryz.prog 109 [.agg ⟨bk x⟩, .pointer (some ⟨b, 0, none⟩)] H (.bool ((cntK t x.kind : Int) == 0)) H := by
 refine zae Tryz.func109 rfl rfl rfl fun hc => ?_
 refine zst ?_;refine zq18 ?_;refine zst ?_;refine zq17 ?_;apply zac (ht := rfl); exact count_c (hs.ext (zag hc)) hn; exact rfl;refine zq0 ?_;refine zst ?_;exact zab hc rfl rfl ⟨rfl, rfl⟩
def unkB (t : List Tb) (l : List Bk) : Bool := l.any fun x => (cntK t x.kind : Int) == 0
def bothE (t : List Tb) (l : List Bk) : Int := firstL [tabsE t, booksE l, whenL (unkB t l) 10]
theorem zkK {H : AHeap} {q r : Option Addr} {c d : Nat} {t : List Tb} {l : List Bk} (hs : SlAt H 2 tb q t) (hlow : LowS q c t.length) (hn : t.length < 1000000000000) (hr : SlAt H 4 bk r l) (hlow2 : LowS r d l.length) (hm : l.length < 1000000000000) :
  Ret Tryz.prog 62 [.slice q t.length c, .slice r l.length d] H (I (bothE t l)) H := by
 refine zae Tryz.func62 rfl rfl rfl fun hc => ?_
 refine zst ?_;apply zad; exact zdq rfl rfl; exact rfl;apply zac (ht := rfl); exact zjM (p := fun x => (cntK t x.kind : Int) == 0) (hr.ext (zag hc)) hm fun x _ H' hE => both1_c (hs.ext ((zag hc).trans hE)) hn (hE _ _ (zaa rfl)); exact rfl
 refine zst ?_;refine zq17 ?_;apply zac (ht := rfl); exact ziQ (hs.ext (zag hc)) hlow hn; exact rfl;refine zst ?_;apply zac (ht := rfl); exact zhk (hr.ext (zag hc)) hlow2 hm; exact rfl;refine zst ?_;apply zac (ht := rfl); exact when85; exact rfl;refine zq19 ?_;apply zac (ht := rfl); exact first84 (l := [_, _, _]) (zaB (zaa rfl)) (by simp); exact rfl;refine zst ?_;exact zab hc rfl rfl ⟨rfl, rfl⟩
def isAt (k : ByteArray) (q : Int) (x : Bk) : Bool := decide (x.kind = k) && (decide (x.frm ≤ q) && decide (q < x.to))
def cntD (l : List Bk) (k : ByteArray) (q : Int) : Nat := l.countP (isAt k q)
end Go.Proofs.YtlejimjgagfalaaGreatDoor
