import Derived.Test.YtlejimjgagfalaaGreatDoorHaC
import Derived.Test.YtlejimjgagfalaaGreatDoorShC
import Derived.Test.YtlejimjgagfalaaGreatDoorHkA
import Derived.Test.YtlejimjgagfalaaGreatDoorOpA
import Derived.Test.YtlejimjgagfalaaGreatDoorStA
import Derived.Test.YtlejimjgagfalaaGreatDoorStC
noncomputable section
namespace Go.Proofs.YtlejimjgagfalaaGreatDoor
open Go Go.Den
set_option maxRecDepth 100000
abbrev bx (vs : List Value) : ABlk := .cells vs 0 false false
end Go.Proofs.YtlejimjgagfalaaGreatDoor
noncomputable section
namespace Go.Den
def OldS (H : AHeap) (q : Option Addr) : Prop := ∀ x, q = some x → (x.block % 2 = 1 ∨ x.block < H.fresh) ∧ x.spot = none
theorem OldS.ext {H : AHeap} {q : Option Addr} (h : OldS H q) {lo : Nat} {L : List (Option ABlk)} : OldS (ext H lo L) q := fun x hx => by
 obtain ⟨h1, h2⟩ := h x hx;refine ⟨h1.imp id fun h => ?_, h2⟩;rw [zal];have := zbf (H := H) L.length;omega
theorem OldS.new {H : AHeap} {lo k o : Nat} {L : List (Option ABlk)} (h : k < L.length) : OldS (Go.Den.ext H lo L) (some ⟨Go.Den.nb H k, o, none⟩) := fun x hx => by
 cases hx;refine ⟨.inr ?_, rfl⟩;rw [zal]; simp only [Go.Den.nb]; omega
theorem OldS.ren {H : AHeap} {q : Option Addr} (h : OldS H q) {lb : List Nat} {n c d : Nat} : renV (renOf H lb) (d + 1) (.slice q n c) = some (.slice q n c) := by
 cases q with
 | none => rfl
 | some x =>
  obtain ⟨h1, h2⟩ := h x rfl;obtain ⟨b, o, s⟩ := x;simp only at h1 h2;subst h2;simp [renV, zn9 h1]
end Go.Den
namespace Go.Proofs.YtlejimjgagfalaaGreatDoor
open Go Go.Den
set_option maxRecDepth 100000
theorem zdI (a b : ByteArray) : nameE [a, b] = whenL (!nameB a || !nameB b) 8 := by simp [nameE]
theorem bookE_8 {x : Bk} (h : (!nameB x.name || !nameB x.kind) = true) : bookE x = 8 := by unfold bookE; rw [zdI, h]; simp [firstL, whenL]
theorem bookE_3 {x : Bk} (h : (!nameB x.name || !nameB x.kind) = false) (h2 : (outL x.frm 0 99999 || outL x.to 0 99999) = true) : bookE x = 3 := by
 unfold bookE;rw [zdI, h];cases e : outL x.frm 0 99999
 ·rw [e] at h2;have h3 : outL x.to 0 99999 = true := by simpa using h2
  rw [h3]; simp [firstL, whenL]
 ·simp [firstL, whenL]
theorem zrg {x : Bk} (h : (!nameB x.name || !nameB x.kind) = false) (h2 : (outL x.frm 0 99999 || outL x.to 0 99999) = false) : bookE x = whenL (decide (x.to ≤ x.frm)) 11 := by
 rw [Bool.or_eq_false_iff] at h2;unfold bookE;rw [zdI, h, h2.1, h2.2];cases decide (x.to ≤ x.frm) <;> simp [firstL, whenL]
set_option maxHeartbeats 4000000 in
theorem zij {H : AHeap} {q : Option Addr} {c : Nat} {l : List Bk} (hs : SlAt H 4 bk q l) (hn : l.length < 1000000000) :
  Ret Tryz.prog 42 [.slice q l.length c] H (I (booksE l)) H := by
 refine zae Tryz.func42 rfl rfl rfl fun hc => ?_
 refine zst ?_;refine zq0 ?_;apply zaf;refine zai rfl (fun h0 => ?_) (fun h0 => ?_)
 ·have h0 : l.length > 256 := by simp at h0; omega
  refine zst ?_;refine zab hc rfl rfl ⟨?_, rfl⟩;unfold booksE;rw [if_pos h0]; rfl
 have h0 : ¬ l.length > 256 := by simp at h0; omega
 refine zst ?_;apply zar;refine zcG (fun i => [(0, .slice q l.length c), (3, I i)]) (fun i => ∀ j, j < i → errG (fun _ x => bookE x) l j = 0) l.length (fun i hi hJ ih => ?_) 0 (by omega) (by intros; omega) zsb;refine zst ?_;refine zq0 ?_;apply zaf;refine zai rfl (fun h1 => ?_) (fun h1 => ?_)
 ·simp only [decide_eq_true_eq, Int.ofNat_lt] at h1;obtain ⟨b, o, cs, z, s, ro, rfl, hg, hw⟩ := hs.out (by intro e; rw [e] at h1; simp at h1);have ee := zbU (err := fun _ x => bookE x) h1
  have bad : bookE l[i] ≠ 0 → booksE l = bookE l[i] := fun hne => by
   unfold booksE;rw [if_neg h0, zeC h1 hJ (by rw [ee]; exact hne), ee]
  obtain ⟨Z, hZ⟩ : ∃ Z : Bool, Z = (!nameB l[i].name || !nameB l[i].kind) := ⟨_, rfl⟩
  obtain ⟨Y, hY⟩ : ∃ Y : Bool, Y = (outL l[i].frm 0 99999 || outL l[i].to 0 99999) := ⟨_, rfl⟩
  refine zst ?_;refine zq2 ?_;refine zst ?_;refine zq21 ?_;apply zac (ht := rfl); exact zdi; exact rfl;refine zq10 ?_;refine zs1 ?_;refine zdf [(0, .slice (some ⟨b, o, none⟩) l.length c), (3, I i), (28, .bool Z)] (ds := []) (h := ext H H.fresh []) ?_ ?_
  ·refine zan rfl rfl (fun u => ?_) (fun u => ?_)
   ·have u : (!nameB l[i].name) = true := u;have e : Z = true := by rw [hZ, u]; rfl
    rw [e];refine zst ?_;exact zaP zsb
   ·have u : (!nameB l[i].name) = false := u;have e : Z = !nameB l[i].kind := by rw [hZ, u]; rfl
    rw [e];refine zst ?_;refine zq22 ?_;refine zst ?_;refine zq23 ?_;apply zaW (hg := rfl) (hl := rfl) (ht := rfl); exact zdi; exact rfl;refine zq11 ?_;refine zst ?_;exact zaP zsb
  refine zai rfl (fun h2 => ?_) (fun h2 => ?_)
  ·have er : bookE l[i] = 8 := bookE_8 (by rw [← hZ]; exact h2);refine zst ?_;refine zab hc rfl rfl ⟨?_, rfl⟩;rw [bad (by rw [er]; decide), er]; rfl
  rw [h2] at hZ;refine zst ?_;refine zq2 ?_;refine zst ?_;refine zq21 ?_;apply zac (ht := rfl); exact outside24; exact rfl;refine zs1 ?_;refine zdf [(0, .slice (some ⟨b, o, none⟩) l.length c), (3, I i), (42, .bool Y)] (ds := []) (h := ext H H.fresh []) ?_ ?_
  ·refine zan rfl rfl (fun u => ?_) (fun u => ?_)
   ·have u : outL l[i].frm 0 99999 = true := u;have e : Y = true := by rw [hY, u]; rfl
    rw [e];refine zst ?_;exact zaP zsb
   ·have u : outL l[i].frm 0 99999 = false := u;have e : Y = outL l[i].to 0 99999 := by rw [hY, u]; rfl
    rw [e];refine zst ?_;refine zq22 ?_;refine zst ?_;refine zq23 ?_;apply zaW (hg := rfl) (hl := rfl) (ht := rfl); exact outside24; exact rfl;refine zst ?_;exact zaP zsb
  refine zai rfl (fun h3 => ?_) (fun h3 => ?_)
  ·have er : bookE l[i] = 3 := bookE_3 hZ.symm (by rw [← hY]; exact h3);refine zst ?_;refine zab hc rfl rfl ⟨?_, rfl⟩;rw [bad (by rw [er]; decide), er]; rfl
  rw [h3] at hY;have er := zrg hZ.symm hY.symm;refine zst ?_;apply zax (by assumption); decide +kernel;(iterate 2 (refine zq5 ?_));refine zq6 ?_;refine zq12 ?_;refine zq24 ?_;(iterate 2 (refine zq5 ?_));refine zq6 ?_;refine zq12 ?_;refine zq24 ?_;refine zq8 ?_;apply zaz;refine zai rfl (fun h4 => ?_) (fun h4 => ?_)
  ·have h4 : decide (l[i].to ≤ l[i].frm) = true := h4;rw [h4] at er;have er : bookE l[i] = 11 := er;refine zst ?_;refine zab hc rfl rfl ⟨?_, rfl⟩;rw [bad (by rw [er]; decide), er]; rfl
  have h4 : decide (l[i].to ≤ l[i].frm) = false := h4;rw [h4] at er;have er : bookE l[i] = 0 := er;refine zst ?_;refine zq4 ?_;refine zst ?_;refine zaN zsb (by simp only [List.map_nil, List.append_nil]; exact .refl _) (ih (i + 1) (by omega) (by omega) fun j hj => ?_);rcases Nat.lt_or_ge j i with h | h
  ·exact hJ j h
  ·obtain rfl : j = i := by omega
   rw [ee]; exact er
 have h1 : i = l.length := by simp at h1; omega
 subst h1;apply zap;apply zaq; exact rfl;refine zst ?_;refine zab hc rfl rfl ⟨?_, rfl⟩;unfold booksE;rw [if_neg h0, zcq hJ]; rfl
theorem tabE_8 {p : List Tb} {x : Tb} (h : (!nameB x.name || !nameB x.kind) = true) : tabE p x = 8 := by unfold tabE; rw [zdI, h]; simp [firstL, whenL]
theorem tabE_9 {p : List Tb} {x : Tb} (h : (!nameB x.name || !nameB x.kind) = false) : tabE p x = whenL (p.any fun y => decide (y.name = x.name)) 9 := by
 unfold tabE;rw [zdI, h];cases p.any fun y => decide (y.name = x.name) <;> simp [firstL, whenL]
set_option maxHeartbeats 4000000 in
theorem zkh {H : AHeap} {q : Option Addr} {c : Nat} {l : List Tb} (hs : SlAt H 2 tb q l) (hn : l.length < 1000000000) :
  Ret Tryz.prog 41 [.slice q l.length c] H (I (tabsE l)) H := by
 refine zae Tryz.func41 rfl rfl rfl fun hc => ?_
 refine zst ?_;refine zq0 ?_;apply zaf;refine zai rfl (fun h0 => ?_) (fun h0 => ?_)
 ·have h0 : l.length > 64 := by simp at h0; omega
  refine zst ?_;refine zab hc rfl rfl ⟨?_, rfl⟩;unfold tabsE;rw [if_pos h0]; rfl
 have h0 : ¬ l.length > 64 := by simp at h0; omega
 refine zst ?_;apply zar;refine zcG (fun i => [(0, .slice q l.length c), (3, I i)]) (fun i => ∀ j, j < i → errG tabE l j = 0) l.length (fun i hi hJ ih => ?_) 0 (by omega) (by intros; omega) zsb;refine zst ?_;refine zq0 ?_;apply zaf;refine zai rfl (fun h1 => ?_) (fun h1 => ?_)
 ·simp only [decide_eq_true_eq, Int.ofNat_lt] at h1;obtain ⟨b, o, cs, z, s, ro, rfl, hg, hw⟩ := hs.out (by intro e; rw [e] at h1; simp at h1);have ee := zbU (err := tabE) h1
  have bad : tabE (l.take i) l[i] ≠ 0 → tabsE l = tabE (l.take i) l[i] := fun hne => by
   unfold tabsE;rw [if_neg h0, zeC h1 hJ (by rw [ee]; exact hne), ee]
  obtain ⟨Z, hZ⟩ : ∃ Z : Bool, Z = (!nameB l[i].name || !nameB l[i].kind) := ⟨_, rfl⟩
  refine zst ?_;refine zq2 ?_;refine zst ?_;refine zq21 ?_;apply zac (ht := rfl); exact zdi; exact rfl;refine zq10 ?_;refine zs1 ?_;refine zdf [(0, .slice (some ⟨b, o, none⟩) l.length c), (3, I i), (29, .bool Z)] (ds := []) (h := ext H H.fresh []) ?_ ?_
  ·refine zan rfl rfl (fun u => ?_) (fun u => ?_)
   ·have u : (!nameB l[i].name) = true := u;have e : Z = true := by rw [hZ, u]; rfl
    rw [e];refine zst ?_;exact zaP zsb
   ·have u : (!nameB l[i].name) = false := u;have e : Z = !nameB l[i].kind := by rw [hZ, u]; rfl
    rw [e];refine zst ?_;refine zq22 ?_;refine zst ?_;refine zq23 ?_;apply zaW (hg := rfl) (hl := rfl) (ht := rfl); exact zdi; exact rfl;refine zq11 ?_;refine zst ?_;exact zaP zsb
  refine zai rfl (fun h2 => ?_) (fun h2 => ?_)
  ·have er : tabE (l.take i) l[i] = 8 := tabE_8 (by rw [← hZ]; exact h2);refine zst ?_;refine zab hc rfl rfl ⟨?_, rfl⟩;rw [bad (by rw [er]; decide), er]; rfl
  rw [h2] at hZ;have er := tabE_9 (p := l.take i) hZ.symm;refine zst ?_;apply zar;refine zcG (fun k => [(0, .slice (some ⟨b, o, none⟩) l.length c), (3, I i), (4, I k)]) (fun k => ∀ j (h : j < l.length), j < k → l[j].name ≠ l[i].name) i (fun k hk hJ2 ih2 => ?_) 0 (by omega) (by intros; omega) zsb;refine zst ?_;refine zq0 ?_;apply zaf;refine zai rfl (fun h3 => ?_) (fun h3 => ?_)
  ·simp only [decide_eq_true_eq, Int.ofNat_lt] at h3;refine zst ?_;apply zax (by assumption); decide +kernel;(iterate 2 (refine zq5 ?_));refine zq6 ?_;refine zq12 ?_;refine zq24 ?_;(iterate 2 (refine zq5 ?_));refine zq6 ?_;refine zq12 ?_;refine zq24 ?_;apply zau (hfree := rfl); intro _; exact zbV rfl rfl rfl; exact rfl;apply zaz;refine zai rfl (fun h4 => ?_) (fun h4 => ?_)
   ·have h4 : byteL l[k].name.data.toList l[i].name.data.toList = true := h4;rw [zba] at h4;have h4 := of_decide_eq_true h4
    have er : tabE (l.take i) l[i] = 9 := by
     rw [er];have : ((l.take i).any fun y => decide (y.name = l[i].name)) = true := List.any_eq_true.2 ⟨l[k], List.mem_take_iff_getElem.2 ⟨k, by omega, rfl⟩, decide_eq_true h4⟩;rw [this]; rfl
    refine zst ?_;refine zab hc rfl rfl ⟨?_, rfl⟩;rw [bad (by rw [er]; decide), er]; rfl
   ·have h4 : byteL l[k].name.data.toList l[i].name.data.toList = false := h4;rw [zba] at h4;have h4 := of_decide_eq_false h4;refine zst ?_;refine zq4 ?_;refine zst ?_;refine zaN zsb (by simp only [List.map_nil, List.append_nil]; exact .refl _) (ih2 (k + 1) (by omega) (by omega) fun j hj hjk => ?_);by_cases e : j = k
    ·subst e; exact h4
    ·exact hJ2 j hj (by omega)
  have h3 : k = i := by simp only [decide_eq_false_iff_not] at h3; omega
  subst h3
  have er : tabE (l.take k) l[k] = 0 := by
   rw [er]
   have : ((l.take k).any fun y => decide (y.name = l[k].name)) = false := by
    rw [List.any_eq_false];intro y hy;obtain ⟨j, hj, rfl⟩ := List.mem_take_iff_getElem.1 hy;simpa using hJ2 j (by omega) (by omega)
   rw [this]; rfl
  apply zap;apply zaq; exact rfl;refine zst ?_;refine zq4 ?_;refine zst ?_;refine zaN zsb (.refl _) (ih (k + 1) (by omega) (by omega) fun j hj => ?_);rcases Nat.lt_or_ge j k with h | h
  ·exact hJ j h
  ·obtain rfl : j = k := by omega
   rw [ee]; exact er
 have h1 : i = l.length := by simp at h1; omega
 subst h1;apply zap;apply zaq; exact rfl;refine zst ?_;refine zab hc rfl rfl ⟨?_, rfl⟩;unfold tabsE;rw [if_neg h0, zcq hJ]; rfl
theorem zjf {H : AHeap} {q : Option Addr} {c : Nat} {l : List Tb} {k : ByteArray} (hs : SlAt H 2 tb q l) (hn : l.length < 1000000000) :
  Ret Tryz.prog 43 [.slice q l.length c, .string k] H (I (cntK l k)) H := by
 refine zae Tryz.func43 rfl rfl rfl fun hc => ?_
 refine zst ?_;apply zar;refine zcG (fun i => [(0, .slice q l.length c), (1, .string k), (5, I (cntK (l.take i) k)), (6, I i)]) (fun _ => True) l.length (fun i hi _ ih => ?_) 0 (by omega) trivial zsb;refine zst ?_;refine zq0 ?_;apply zaf;refine zai rfl (fun h1 => ?_) (fun h1 => ?_)
 ·simp only [decide_eq_true_eq, Int.ofNat_lt] at h1;obtain ⟨b, o, cs, z, s, ro, rfl, hg, hw⟩ := hs.out (by intro e; rw [e] at h1; simp at h1);have se := zjT (k := k) h1;have sl := zjS (t := l) (k := k) (i := i);refine zst ?_;refine zq2 ?_;refine zst ?_;refine zq21 ?_;refine zst ?_;apply zad; exact zbV rfl rfl rfl; exact rfl;apply zaf;refine ct_JE [(0, .slice (some ⟨b, o, none⟩) l.length c), (1, .string k), (5, I (cntK (l.take (i + 1)) k)), (6, I i)] (ds := []) (h := ext H H.fresh []) ?_ ?_
  ·refine zai rfl (fun h2 => ?_) (fun h2 => ?_)
   ·have h2 : byteL l[i].kind.data.toList k.data.toList = true := h2;rw [zba] at h2;have h2 := of_decide_eq_true h2;rw [se, if_pos h2];refine zst ?_;refine zq4 ?_;refine zst ?_;exact zaP zsb
   ·have h2 : byteL l[i].kind.data.toList k.data.toList = false := h2;rw [zba] at h2;have h2 := of_decide_eq_false h2;rw [se, if_neg h2];apply zbb;exact zaP zsb
  refine zst ?_;refine zq4 ?_;refine zst ?_;exact zaN zsb (.refl _) (ih (i + 1) (by omega) (by omega) trivial)
 ·have h1 : i = l.length := by simp at h1; omega
  subst h1;rw [List.take_length];apply zap;apply zaq; exact rfl;refine zst ?_;exact zab hc rfl rfl ⟨rfl, rfl⟩
theorem bothE_0 {t : List Tb} {l : List Bk} (h : tabsE t = 0) (h2 : booksE l = 0) : bothE t l = whenL (unkB t l) 10 := by
 unfold bothE;rw [h, h2];cases unkB t l <;> simp [firstL, whenL]
theorem zhD {H : AHeap} {q r : Option Addr} {c d : Nat} {t : List Tb} {l : List Bk} (hs : SlAt H 2 tb q t) (hn : t.length < 1000000000) (hr : SlAt H 4 bk r l) (hm : l.length < 1000000000) :
  Ret Tryz.prog 7 [.slice q t.length c, .slice r l.length d] H (I (bothE t l)) H := by
 refine zae Tryz.func7 rfl rfl rfl fun hc => ?_
 refine zst ?_;apply zac (ht := rfl); exact zkh (hs.ext (zag hc)) hn; exact rfl;refine zst ?_;refine zq0 ?_;apply zaf;refine zai rfl (fun h0 => ?_) (fun h0 => ?_)
 ·have h0 : tabsE t ≠ 0 := by simpa using h0
  refine zst ?_;refine zab hc rfl rfl ⟨?_, rfl⟩;unfold bothE;simp [firstL, h0, packA]
 have h0 : tabsE t = 0 := by simpa using h0
 refine zst ?_;apply zac (ht := rfl); exact zij (hr.ext (zag hc)) hm; exact rfl;refine zst ?_;refine zq0 ?_;apply zaf;refine zai rfl (fun h1 => ?_) (fun h1 => ?_)
 ·have h1 : booksE l ≠ 0 := by simpa using h1
  refine zst ?_;refine zab hc rfl rfl ⟨?_, rfl⟩;unfold bothE;simp [firstL, h0, h1, packA]
 have h1 : booksE l = 0 := by simpa using h1
 have hE := bothE_0 h0 h1;refine zst ?_;apply zar;refine zcG (fun i => [(0, .slice q t.length c), (1, .slice r l.length d), (7, I i)]) (fun i => ∀ j (h : j < l.length), j < i → ((cntK t l[j].kind : Int) == 0) = false) l.length (fun i hi hJ ih => ?_) 0 (by omega) (by intros; omega) zsb;refine zst ?_;refine zq0 ?_;apply zaf;refine zai rfl (fun h2 => ?_) (fun h2 => ?_)
 ·simp only [decide_eq_true_eq, Int.ofNat_lt] at h2;obtain ⟨b, o, cs, z, s, ro, rfl, hg, hw⟩ := hr.out (by intro e; rw [e] at h2; simp at h2);refine zst ?_;refine zq2 ?_;refine zst ?_;refine zq21 ?_;apply zac (ht := rfl); exact zjf (hs.ext (zag hc)) hn; exact rfl;refine zq0 ?_;apply zaf;refine zai rfl (fun h3 => ?_) (fun h3 => ?_)
  ·have h3 : ((cntK t l[i].kind : Int) == 0) = true := h3;have hu : unkB t l = true := List.any_eq_true.2 ⟨l[i], List.getElem_mem h2, h3⟩;refine zst ?_;refine zab hc rfl rfl ⟨?_, rfl⟩;rw [hE, hu]; rfl
  ·have h3 : ((cntK t l[i].kind : Int) == 0) = false := h3;refine zst ?_;refine zq4 ?_;refine zst ?_;refine zbn zsb (ih (i + 1) (by omega) (by omega) fun j hj hji => ?_);by_cases e : j = i
   ·subst e; exact h3
   ·exact hJ j hj (by omega)
 ·have h2 : i = l.length := by simp at h2; omega
  subst h2
  have hu : unkB t l = false := by
   unfold unkB;rw [List.any_eq_false];intro y hy;obtain ⟨j, hj, rfl⟩ := List.getElem_of_mem hy;simpa using hJ j hj hj
  apply zap;apply zaq; exact rfl;refine zst ?_;refine zab hc rfl rfl ⟨?_, rfl⟩;rw [hE, hu]; rfl
structure BkOk (x : Bk) : Prop where
 nm : x.kind ≠ strB []
 f0 : 0 ≤ x.frm
 f1 : x.frm ≤ 99999
 t0 : 0 ≤ x.to
 t1 : x.to ≤ 99999
 lt : x.frm < x.to
theorem zoH : nameB (strB []) = false := by decide +kernel
theorem zrf {x : Bk} (h : bookE x = 0) : BkOk x := by
 unfold bookE at h;have ha := za4 h;have h1 : nameE [x.name, x.kind] = 0 := ha _ (by simp);have h2 := zdy (ha (whenL (outL x.frm 0 99999) 3) (by simp)) (by decide);have h3 := zdy (ha (whenL (outL x.to 0 99999) 3) (by simp)) (by decide);have h4 := zdy (ha (whenL (decide (x.to ≤ x.frm)) 11) (by simp)) (by decide);have h1 := zdy h1 (by decide);simp only [outL, decide_eq_false_iff_not] at h2 h3 h4;refine ⟨fun e => ?_, by omega, by omega, by omega, by omega, by omega⟩;rw [e, List.any_cons, List.any_cons, zoH] at h1;simp at h1
theorem zre {l : List Bk} (h : booksE l = 0) : l.length ≤ 256 ∧ ∀ x ∈ l, BkOk x := by
 unfold booksE at h;by_cases hl : l.length > 256
 ·rw [if_pos hl] at h; exact absurd h (by decide)
 ·rw [if_neg hl] at h;refine ⟨by omega, fun x hx => ?_⟩;obtain ⟨i, hi, rfl⟩ := List.getElem_of_mem hx;exact zrf (zmE (err := fun _ x => bookE x) h hi)
structure BothOk (t : List Tb) (l : List Bk) : Prop where
 unk : unkB t l = false
 ok : ∀ x ∈ l, BkOk x
 len : l.length ≤ 256
 tlen : t.length ≤ 64
theorem zhm {t : List Tb} {l : List Bk} (h : bothE t l = 0) : BothOk t l := by
 unfold bothE at h;have ha := za4 h;have h1 : tabsE t = 0 := ha _ (by simp);have h2 : booksE l = 0 := ha _ (by simp);have h3 := zdy (ha (whenL (unkB t l) 10) (by simp)) (by decide);obtain ⟨h4, h5⟩ := zre h2;refine ⟨h3, h5, h4, ?_⟩;unfold tabsE at h1;by_cases hl : t.length > 64
 ·rw [if_pos hl] at h1; exact absurd h1 (by decide)
 ·omega
section
variable {t : List Tb} {l : List Bk}
end
def meetB (a b : Bk) : Bool := decide (a.frm < b.to) && decide (b.frm < a.to)
theorem zfo (a b : Bk) : meetB a b = meetB b a := Bool.and_comm ..
theorem zjt {a b : Bk} : meetB a b = true ↔ a.frm < b.to ∧ b.frm < a.to := by
 unfold meetB; simp
section
variable {l : List Bk}
end
def freeK (t : List Tb) (l : List Bk) (a : List Int) (b : Bk) (k : Nat) : Bool := (t[k]?.elim false fun x => decide (x.kind = b.kind)) && (List.range l.length).all fun m => !(decide (a[m]? = some (k : Int)) && l[m]?.elim false fun o => meetB b o)
def freeV (t : List Tb) (l : List Bk) (a : List Int) (b : Bk) : Int := ((List.range t.length).find? (freeK t l a b)).elim (-1) fun k => (k : Int)
section
variable {t : List Tb} {l : List Bk} {n : Nat} {a : List Int}
structure AsgP (t : List Tb) (l : List Bk) (a : List Int) : Prop where
 len : a.length = l.length
 kd : ∀ m (h : m < l.length), ∃ k : Nat, a[m]? = some (k : Int) ∧ ∃ hk : k < t.length, t[k].kind = l[m].kind
 sep : ∀ m m' (h : m < l.length) (h' : m' < l.length), m ≠ m' → a[m]? = a[m']? → meetB l[m] l[m'] = false
end
section
variable {t : List Tb} {l : List Bk}
end
abbrev Spn := Int × Int
section
variable {f : Int → Bool} {a b : Int} {o : List Spn}
end
def opF (t : List Tb) (l : List Bk) (k : ByteArray) (q : Int) : Bool := decide ((cntD l k q : Int) < (cntK t k : Int))
def endF (l : List Bk) (k : ByteArray) : List Int := (l.filter fun x => decide (x.kind = k)).flatMap fun x => [x.frm, x.to]
def endL (l : List Bk) (k : ByteArray) : List Int := Lib.compact (srtI ([0, 99999] ++ endF l k))
end Go.Proofs.YtlejimjgagfalaaGreatDoor
noncomputable section
namespace Go.Den
section
variable {P : Program} {l : EL} {h : AHeap}
theorem zhV {args : Array Operand} {tys : Array TypeId} {st : TypeId} {r : List TypeId} {b o n c m by' z sl b0 : Nat} {ag k ro ro0 : Bool} {e : TypeId} {zs cs new old : List Value} (ha : evs l args.toList = some [.slice (some ⟨b0, 0, none⟩) sl sl, .slice (some ⟨b, o, none⟩) n c]) (hty : tys.toList = st :: st :: r)
  (hs : selOf P st = some (m, ag)) (he : (tyOf P st).map (·.und) = some (.slice e)) (hz : zerOf P e = some zs) (hby : (tyOf P e).map (·.bytes) = some by')
  (hb : h.get b = some (.cells cs z k ro)) (hn : sliceIn cs o (n * m) = some new) (h0 : h.get b0 = some (.cells old m false ro0)) (hl : old.length = sl * m) (h1 : (2 * (sl + n) + 1000) * by' ≤ 2 ^ 48) (h2 : by' ≠ 0) (h3 : m ≠ 0) (h4 : 0 < n) :
  Does P l (.call ⟨.builtin .append, args, tys⟩) h (.slice (some ⟨h.fresh, 0, none⟩) (sl + n) (sl + n)) (h.add (.cells (old ++ new) m true false)) := by
 refine zca ha ?_;rw [hty];obtain ⟨ei, e1, e2⟩ := zfE (r := r) (c := c) hs he hz hby hb hn (s := .slice (some ⟨b0, 0, none⟩) sl sl) rfl h1 h2 h3;simp only [biA, e2, pushA];rw [if_neg (by omega)];have hold : sliceIn old 0 (sl * m) = some old := by rw [← hl]; exact zgt
 have hx : exactCap h b0 0 sl = true := by simp [exactCap, h0]
 simp [h0, e1, hold, hx]
end
structure LstX {α : Type} (H : AHeap) (L : List (Option ABlk)) (m : Nat) (f : α → List Value) (K : Nat) (l : List α) : Prop where
 out : ∃ s, L[K]? = some (some (.cells (l.flatMap f) m s false))
section
variable {α : Type} {H : AHeap} {lo K m : Nat} {L L' : List (Option ABlk)} {f : α → List Value} {l : List α}
theorem LstX.lt (h : LstX H L m f K l) : K < L.length := by
 obtain ⟨s, hs⟩ := h.out;exact (List.getElem?_eq_some_iff.1 hs).1
end
section
variable {P : Program} {rd : Option Nat} {nt : Nat} {ops : Array Oper} {l : EL} {ds : List Nat} {K : St → Prop} {i : Nat} {r : List Oper} {o : Oper} {ty : TypeId} {pos : String} {af : Array Edge} {H : AHeap} {lo : Nat} {L : List (Option ABlk)} {α : Type} {f : α → List Value}
theorem zgz [PC P] {lst xs : List α} {m k0 d : Nat} {args : Array Operand} {tys : Array TypeId} {st : TypeId} {tr : List TypeId} {b o' c by' z : Nat} {ag k ro : Bool} {e : TypeId} {zs cs : List Value}
  (hc : Closed H) (hv : LstX H L m f k0 lst) (hf : ∀ x, (f x).length = m) (hone : ∀ x, (f x).all oneCell = true)
  (ha : evs l args.toList = some [.slice (some ⟨nb H k0, 0, none⟩) lst.length lst.length, .slice (some ⟨b, o', none⟩) xs.length c]) (hty : tys.toList = st :: st :: tr)
  (hs : selOf P st = some (m, ag)) (he : (tyOf P st).map (·.und) = some (.slice e)) (hz : zerOf P e = some zs) (hby : (tyOf P e).map (·.bytes) = some by')
  (hb : (ext H lo L).get b = some (.cells cs z k ro)) (hn : sliceIn cs o' (xs.length * m) = some (xs.flatMap f)) (hxs : xs ≠ []) (h1 : (2 * (lst.length + xs.length) + 1000) * by' ≤ 2 ^ 48) (h2 : by' ≠ 0) (h3 : m ≠ 0) (hd : Nat.blt d nt = true)
  (hk : ∀ L', LstX H L' m f L.length (lst ++ xs) → (∀ j, j < L.length → j ≠ k0 → L'[j]? = L[j]?) → L'.length = L.length + 1 → SeqL P rd nt ops (o :: r) (i + 1) ⟨ofA ((d, .slice (some ⟨nb H L.length, 0, none⟩) (lst ++ xs).length (lst ++ xs).length) :: l), ds, ext H lo L'⟩ K) :
  SeqL P rd nt ops (⟨some d, .call ⟨.builtin .append, args, tys⟩, ty, pos, af, none⟩ :: o :: r) i ⟨ofA l, ds, ext H lo L⟩ K := by
 have hx0 : 0 < xs.length := by cases xs with | nil => exact absurd rfl hxs | cons _ _ => simp
 have hall : (xs.flatMap f).all oneCell = true := by
  rw [List.all_eq_true];intro x hx;obtain ⟨y, _, hy⟩ := List.mem_flatMap.1 hx;exact List.all_eq_true.1 (hone y) x hy
 obtain ⟨s, hL⟩ := hv.out;have hlt := hv.lt;simp only [List.length_append] at hk
 cases s with
 | false =>
  refine zbO (zhV ha hty hs he hz hby hb hn (zaa hL) (zbR hf lst) h1 h2 h3 hx0) hd (hk _ ⟨true, by rw [List.flatMap_append]; exact List.getElem?_concat_length⟩ (fun j hj _ => List.getElem?_append_left hj) (by simp))
 | true =>
  refine zf4 hc hlt (zc7 ha hty hs he hz hby hb hn (zaa hL) (zbR hf lst) (zat _) hall h1 h2 h3 hx0) hd (hk _ ⟨true, ?_⟩ ?_ (by simp))
  ·have e2 : (L.set k0 none).length = L.length := List.length_set;rw [← e2, List.flatMap_append];exact List.getElem?_concat_length
  ·intro j hj hjk;rw [List.getElem?_append_left (by rw [List.length_set]; exact hj), List.getElem?_set_ne (fun e => hjk e.symm)]
end
end Go.Den
namespace Go.Proofs.YtlejimjgagfalaaGreatDoor
open Go Go.Den
set_option maxRecDepth 100000
set_option maxHeartbeats 4000000 in
theorem own_c {H : AHeap} {q r : Option Addr} {c d : Nat} {t : List Tb} {l : List Bk} (hs : SlAt H 2 tb q t) (hn : t.length < 1000000000) (ht : SlAt H 4 bk r l) (hm : l.length < 1000000000) :
  Ret Tryz.prog 4 [.slice q t.length c, .slice r l.length d] H (.tuple ⟨[lstV H.fresh t, lstV (lstH H 2 tb t).fresh l]⟩) (lstH (lstH H 2 tb t) 4 bk l) := by
 refine zae Tryz.func4 rfl rfl rfl fun hc => ?_
 refine zst ?_;apply zar;refine zaA (α := Nat × Value × Nat × List (Option ABlk)) (fun a => [(0, .slice q t.length c), (1, .slice r l.length d), (6, a.2.1), (7, .slice none 0 0), (8, I a.1)]) (fun a => ext H H.fresh a.2.2.2) (fun a => a.1 ≤ t.length ∧ LstI H a.2.2.2 2 tb a.2.2.1 a.2.1 (t.take a.1)) (fun a => t.length - a.1) (fun a ha ih => ?_) (0, .slice none 0 0, 0, []) ⟨by simp, .nil⟩ zsb (.refl _);obtain ⟨i, v, K, L⟩ := a;obtain ⟨hi, hv⟩ := ha;simp only at hi hv ih ⊢;have ih' := fun i' v' K' L' a1 a2 a3 => ih (i', v', K', L') a1 ⟨a2, a3⟩
 simp only at ih';clear ih;refine zst ?_;refine zq0 ?_;apply zaf;refine zai rfl (fun h1 => ?_) (fun h1 => ?_)
 ·simp only [decide_eq_true_eq, Int.ofNat_lt] at h1;obtain ⟨b, o, cs, z, s, ro, rfl, hg, hw⟩ := hs.out (by intro e; rw [e] at h1; simp at h1);refine zst ?_;refine zq2 ?_;refine zq15 ?_;refine zq19 ?_;refine zeA (xs := [t[i]]) hc (hv.keeps (.app _)) (fun _ => rfl) (fun _ => rfl) rfl rfl rfl rfl rfl rfl (zaa List.getElem?_concat_length) rfl (by simp) ?_ (Nat.ne_of_beq_eq_false rfl) (Nat.ne_of_beq_eq_false rfl) rfl (fun v' L3 hv' hst3 hlen3 => ?_)
  ·exact Nat.le_trans (Nat.mul_le_mul_right _ (by simp only [List.length_cons, List.length_nil, List.length_take]; omega : _ ≤ 3000000000)) (Nat.le_of_ble_eq_true rfl)
  obtain ⟨J, hJ, hv'⟩ : ∃ J, J = L.length + 1 ∧ LstI H L3 2 tb J v' (t.take i ++ [t[i]]) := ⟨_, by simp, hv'⟩
  refine zst ?_;refine zq4 ?_;refine zst ?_;refine zbn zsb (ih' (i + 1) v' J L3 (by omega) (by omega) ?_);rw [zgr h1]; exact hv'
 have h1 : i = t.length := by simp at h1; omega
 subst h1;rw [List.take_length] at hv;clear ih';apply zap;apply zaq; exact rfl;refine zst ?_;apply zar;refine zaA (α := Nat × Value × Nat × List (Option ABlk)) (fun a => [(1, .slice r l.length d), (6, v), (7, a.2.1), (9, I a.1)]) (fun a => ext H H.fresh a.2.2.2) (fun a => a.1 ≤ l.length ∧ LstI H a.2.2.2 2 tb K v t ∧ LstI H a.2.2.2 4 bk a.2.2.1 a.2.1 (l.take a.1) ∧ (t ≠ [] → l.take a.1 ≠ [] → K ≠ a.2.2.1)) (fun a => l.length - a.1) (fun a ha ih => ?_) (0, .slice none 0 0, 0, L) ⟨by simp, hv, .nil, fun _ h => absurd rfl h⟩ zsb (.refl _);clear hv hi L;obtain ⟨i, w, K2, L⟩ := a;obtain ⟨hi, hv, hw, hne⟩ := ha;simp only at hi hv hw hne ih ⊢;have ih' := fun i' v' K' L' a1 a2 a3 a4 a5 => ih (i', v', K', L') a1 ⟨a2, a3, a4, a5⟩
 simp only at ih';clear ih;refine zst ?_;refine zq0 ?_;apply zaf;refine zai rfl (fun h1 => ?_) (fun h1 => ?_)
 ·simp only [decide_eq_true_eq, Int.ofNat_lt] at h1;obtain ⟨b, o, cs, z, s, ro, rfl, hg, hw'⟩ := ht.out (by intro e; rw [e] at h1; simp at h1);refine zst ?_;refine zq2 ?_;refine zq15 ?_;refine zq19 ?_;refine zeA (xs := [l[i]]) hc (hw.keeps (.app _)) (fun _ => rfl) (fun _ => rfl) rfl rfl rfl rfl rfl rfl (zaa List.getElem?_concat_length) rfl (by simp) ?_ (Nat.ne_of_beq_eq_false rfl) (Nat.ne_of_beq_eq_false rfl) rfl (fun v' L3 hv' hst3 hlen3 => ?_)
  ·exact Nat.le_trans (Nat.mul_le_mul_right _ (by simp only [List.length_cons, List.length_nil, List.length_take]; omega : _ ≤ 3000000000)) (Nat.le_of_ble_eq_true rfl)
  have hv3 : LstI H L3 2 tb K v t := (hv.keeps (.app _)).keep fun hn => hst3 K (by have := hv.lt hn; simp; omega) fun h => hne hn h
  obtain ⟨J, hJ, hv'⟩ : ∃ J, J = L.length + 1 ∧ LstI H L3 4 bk J v' (l.take i ++ [l[i]]) := ⟨_, by simp, hv'⟩
  refine zst ?_;refine zq4 ?_;refine zst ?_;refine zbn zsb (ih' (i + 1) v' J L3 (by omega) (by omega) hv3 ?_ fun hn _ => ?_)
  ·rw [zgr h1]; exact hv'
  ·have := hv.lt hn;omega
 have h1 : i = l.length := by simp at h1; omega
 subst h1;rw [List.take_length] at hw hne;apply zap;apply zaq; exact rfl;refine zst ?_;exact zo6 hc hv hw hne rfl (fun _ => rfl) (fun _ => rfl) ⟨rfl, rfl⟩
structure Po where
 debit : ByteArray
 credit : ByteArray
 amt : Int
def acc : Nat → ByteArray
 | 0 => ⟨#[99, 97, 115, 104]⟩
 | 1 => ⟨#[100, 101, 112, 111, 115, 105, 116, 115]⟩
 | 2 => ⟨#[115, 97, 108, 101, 115]⟩
 | _ => ⟨#[102, 111, 114, 102, 101, 105, 116, 115]⟩
def poB (x y : Po) : Bool := byteL x.debit.data.toList y.debit.data.toList && (byteL x.credit.data.toList y.credit.data.toList && (x.amt == y.amt))
theorem poB_eq {x y : Po} : poB x y = true ↔ x = y := by
 unfold poB;rw [zba, zba];cases x; cases y;simp
instance : DecidableEq Po := fun x y => decidable_of_iff (poB x y = true) poB_eq
def truthB (h : Bool) (e bad : Int) (want : Bool) : Bool := if bad ≠ 0 then (!h) && (e == bad) else (e == 0) && (h == want)
end Go.Proofs.YtlejimjgagfalaaGreatDoor
noncomputable section
namespace Go.Den
structure BlkS (H : AHeap) (p : Option Addr) : Prop where
 out : ∀ x, p = some x → x.spot = none ∧ ∃ cs z s ro, H.get x.block = some (.cells cs z s ro)
theorem BlkS.at_ {H : AHeap} {b o : Nat} {cs : List Value} {z : Nat} {s ro : Bool} (h : H.get b = some (.cells cs z s ro)) : BlkS H (some ⟨b, o, none⟩) := ⟨fun x hx => by
 cases hx; exact ⟨rfl, cs, z, s, ro, h⟩⟩
section
variable {P : Program} {l : EL} {h : AHeap}
end
end Go.Den
namespace Go.Proofs.YtlejimjgagfalaaGreatDoor
open Go Go.Den
set_option maxRecDepth 100000
abbrev U (n : Int) : Value := .int .u64 n
theorem wrap_u64 {n : Int} (h : 0 ≤ n ∧ n < 18446744073709551616) : IntKind.u64.wrap n = n := by
 show (if (false && decide (n % 18446744073709551616 ≥ 9223372036854775808)) = true then n % 18446744073709551616 - 18446744073709551616 else n % 18446744073709551616) = _;simp only [Bool.false_and, Bool.false_eq_true, if_false];omega
section
variable {P : Program} {l : EL} {h : AHeap}
end
theorem meet_c {H : AHeap} {x y : Bk} : Ret Tryz.prog 92 [.agg ⟨bk x⟩, .agg ⟨bk y⟩] H (.bool (meetB x y)) H := by
 refine zae Tryz.func92 rfl rfl rfl fun hc => ?_
 refine zst ?_;refine zq17 ?_;refine zst ?_;refine zq17 ?_;refine zq0 ?_;refine zst ?_;refine zan rfl rfl (fun u => ?_) (fun u => ?_)
 ·have u : decide (x.frm < y.to) = true := u;refine zst ?_;refine zq25 ?_;refine zst ?_;refine zq25 ?_;refine zq1 ?_;refine zst ?_;refine zab hc rfl rfl ⟨?_, rfl⟩;unfold meetB;rw [u]; rfl
 ·have u : decide (x.frm < y.to) = false := u;refine zst ?_;refine zab hc rfl rfl ⟨?_, rfl⟩;unfold meetB;rw [u]; rfl
theorem zow {H : AHeap} {x y : Bk} : Ret Tryz.prog 44 [.agg ⟨bk x⟩, .agg ⟨bk y⟩] H (.bool (meetB x y)) H := by
 refine zae Tryz.func44 rfl rfl rfl fun hc => ?_
 refine zst ?_;refine zq17 ?_;refine zst ?_;refine zq17 ?_;refine zq0 ?_;refine zst ?_;refine zan rfl rfl (fun u => ?_) (fun u => ?_)
 ·have u : decide (x.frm < y.to) = true := u;refine zst ?_;refine zq25 ?_;refine zst ?_;refine zq25 ?_;refine zq1 ?_;refine zst ?_;refine zab hc rfl rfl ⟨?_, rfl⟩;unfold meetB;rw [u]; rfl
 ·have u : decide (x.frm < y.to) = false := u;refine zst ?_;refine zab hc rfl rfl ⟨?_, rfl⟩;unfold meetB;rw [u]; rfl
def StR (lt : Int → Int → Bool) (a b : Int) : Prop := lt b a = false ∧ (lt a b = false → a < b)
theorem zcN {P : Program} {l : EL} {h : AHeap} {x : Operand} {t t' : TypeId} {i : Nat} (hx : ev l x = some (.int .i64 ((i + 1 : Nat) : Int))) (hr : i < 9223372036854775807) : Does P l (.binOp .sub t x (.const (.int .i64 1)) t') h (.int .i64 (i : Int)) h := by
 have := zjI (P := P) (l := l) (h := h) (t := t) (t' := t') (y := .const (.int .i64 1)) hx rfl (by omega);have e : ((i + 1 : Nat) : Int) - 1 = (i : Int) := by omega
 rw [e] at this;exact this
abbrev bkB (T : List Bk) (z : Nat) (s : Bool) : ABlk := .cells (T.flatMap bk) z s false
theorem ziS (T : List Bk) : (T.flatMap bk).all (flatD 8) = true := zdm (fun _ => rfl) T
def mBl (n : Nat) : Memo := ⟨116, [.int .u64 n], [], I (if n = 0 then 0 else n.log2 + 1), []⟩
def runBl (n : Nat) : Bool := memoIs Tryz.prog (ctxOf Tryz.prog) [] [] 100000 (mBl n)
theorem zn5 {n : Nat} (h : n ≤ 12) : runBl n = true := by
 have h2 : (List.range 13).all runBl = true := by kernel_rfl
 exact List.all_eq_true.1 h2 n (List.mem_range.2 (by omega))
theorem zln {H : AHeap} : Lies H [] [] := ⟨rfl, fun i hi => by simp at hi, by simp, fun k y hy => by simp at hy⟩
theorem zpD {H : AHeap} {n : Nat} (h : n ≤ 12) : Ret Tryz.prog 116 [.int .u64 n] H (I (if n = 0 then 0 else n.log2 + 1)) H := by
 have hr := zaJ (P := Tryz.prog) zlP zaI (zn5 h);refine zkd (τ := tauS []) (v0 := (mBl n).v) (zs := []) hr (zg8 (zh5 zlP) gloO zln) ?_ rfl rfl fun c d hd => ?_
 ·simp [mBl, renL, renV]
 ·unfold tauN;unfold tauS at hd;split
  ·rename_i h1; unfold tauS; exact hd
  ·rename_i h1; rw [if_neg h1] at hd; simp at hd
theorem zpU {H : AHeap} {g : Nat} {caps : List Value} :
  Ret Tryz.prog 93 [.slice none 0 0, .func (.func g) #[] ⟨caps⟩] H (packA []) H := by
 have c3 : ∀ H, Ret Tryz.prog 173 [.slice none 0 0, I 0, I 0, .func (.func g) #[] ⟨caps⟩] H (packA []) H := fun H => by
  refine zae Tryz.func173 rfl rfl rfl fun hc => ?_
  refine zst ?_;refine zq26 ?_;refine zst ?_;apply zar;apply zdK;refine zst ?_;refine zq0 ?_;apply zaf;refine zah rfl rfl ?_;apply zap;apply zaq; exact rfl;exact zab hc rfl rfl ⟨rfl, rfl⟩
 have c2 : ∀ H lm, Ret Tryz.prog 131 [.slice none 0 0, I 0, I 0, I lm, .func (.func g) #[] ⟨caps⟩] H (packA []) H := fun H lm => by
  refine zae Tryz.func131 rfl rfl rfl fun hc => ?_
  refine zst ?_;apply zar;apply zdK;refine zst ?_;refine zq27 ?_;refine zst ?_;refine zq0 ?_;apply zaf;refine zam rfl rfl ?_;refine zst ?_;apply zac (ht := rfl); exact c3 _; exact rfl;refine zst ?_;exact zab hc rfl rfl ⟨rfl, rfl⟩
 refine zae Tryz.func93 rfl rfl rfl fun hc => ?_
 refine zst ?_;apply zad; exact zd8 rfl rfl rfl; exact rfl;apply zac (ht := rfl); exact zpD (n := 0) (by omega); exact rfl;refine zst ?_;apply zac (ht := rfl); exact c2 _ _; exact rfl;apply zaf;exact zab hc rfl rfl ⟨rfl, rfl⟩
def trimAt (l : List Int) : Nat → Nat
 | 0 => 0
 | k + 1 => if l[k]? = some 0 then trimAt l k else k + 1
def trimN (l : List Int) : Nat := trimAt l l.length
theorem zgp {H : AHeap} {q : Option Addr} {c : Nat} {l : List Int} (hs : SlAt H 1 i1 q l) (hq : OldS H q) (hlow : LowS q c l.length) (hn : l.length < 1000000000000) :
  Ret Tryz.prog 188 [.slice q l.length c] H (.slice q (trimN l) c) H := by
 refine zae Tryz.func188 rfl rfl rfl fun hc => ?_
 have hcap := hlow.cap;refine zst ?_;apply zar;refine zaA (α := Nat) (fun k => [(0, .slice q k c)]) (fun _ => ext H H.fresh []) (fun k => k ≤ l.length ∧ trimAt l k = trimN l) (fun k => k) (fun k ha ih => ?_) l.length ⟨Nat.le_refl _, rfl⟩ zsb (.refl _);obtain ⟨hk, ht⟩ := ha;rcases k with _ | k
 ·refine zst ?_;refine zq0 ?_;refine zst ?_;refine zah rfl rfl ?_;apply zap;apply zaq; exact rfl;refine zst ?_;refine ziD hc rfl (by exact hq.ren) ?_;rw [← ht]; exact ⟨rfl, rfl⟩
 ·have e1 : decide (((k + 1 : Nat) : Int) > 0) = true := decide_eq_true (by omega);obtain ⟨b, o, cs, z, s, ro, rfl, hg, hw⟩ := hs.out (by intro e; rw [e] at hk; simp at hk);have hk1 : k < l.length := by omega
  have ih' := ih k (by omega);refine zst ?_;refine zq0 ?_;refine zs1 ?_;rw [e1];refine zst ?_;apply zay (hd := rfl) (hl := rfl); exact zcN rfl (by omega); exact rfl;refine zq22 ?_;apply zay (hd := rfl) (hl := rfl); exact zaw rfl (by exact zaj (by assumption) (by assumption)) rfl (by exact zgK (by assumption) (by omega)); exact rfl;refine zq1 ?_;refine zst ?_;refine zai rfl (fun h2 => ?_) (fun h2 => ?_)
  ·have h2 : l[k] = 0 := by simpa using h2
   have e : trimAt l k = trimN l := by
    rw [← ht];simp only [trimAt];rw [if_pos (by rw [List.getElem?_eq_getElem hk1, h2])]
   refine zst ?_;apply zad; exact zcN rfl (by omega); exact rfl;apply zad; exact zb9 (i := k) rfl rfl rfl (by intro e; cases e) (by rintro _ ⟨⟩; rfl) (by omega); exact rfl;refine zst ?_;exact zaN zsb (.refl _) (ih' ⟨by omega, e⟩)
  ·have h2 : l[k] ≠ 0 := by simpa using h2
   have e : trimN l = k + 1 := by
    rw [← ht];simp only [trimAt];rw [if_neg (by rw [List.getElem?_eq_getElem hk1]; simpa using h2)]
   apply zap;apply zaq; exact rfl;refine zst ?_;refine ziD hc rfl (by exact hq.ren) ?_;rw [e]; exact ⟨rfl, rfl⟩
abbrev intQ (neg : Bool) (q : Option Addr) (n c : Nat) : Value := .agg ⟨[.bool neg, .slice q n c]⟩
theorem zii {H : AHeap} {q : Option Addr} (h : OldS H q) {lb : List Nat} {neg : Bool} {n c : Nat} : renV (renOf H lb) 8 (intQ neg q n c) = some (intQ neg q n c) := by
 have := h.ren (lb := lb) (n := n) (c := c) (d := 6);simp [renV, renL] at this ⊢;rw [this]
theorem zey {H : AHeap} {neg : Bool} {q : Option Addr} {c : Nat} {l : List Int} (hs : SlAt H 1 i1 q l) (hq : OldS H q) (hlow : LowS q c l.length) (hn : l.length < 1000000000000) :
  Ret Tryz.prog 139 [.bool neg, .slice q l.length c] H (intQ (neg && decide (0 < trimN l)) q (trimN l) c) H := by
 refine zae Tryz.func139 rfl rfl rfl fun hc => ?_
 have ct := fun lo L => zgp (H := ext H lo L) (hs.ext (zag hc)) hq.ext hlow hn
 have eg : decide (((trimN l : Nat) : Int) > 0) = decide (0 < trimN l) := by
  rw [Bool.eq_iff_iff, decide_eq_true_iff, decide_eq_true_iff]; omega
 cases neg
 ·refine zst ?_;apply zac (ht := rfl); exact ct _ _; exact rfl;refine zst ?_;refine zq28 ?_;refine zq29 ?_;apply zaV;exact zdN hc (zbG rfl rfl (zaa rfl) rfl rfl) (zii hq) ⟨rfl, rfl⟩
 ·refine zst ?_;apply zac (ht := rfl); exact ct _ _; exact rfl;refine zst ?_;refine zq1 ?_;refine zst ?_;refine zq28 ?_;refine zq29 ?_;apply zaV;rw [eg];exact zdN hc (zbG rfl rfl (zaa rfl) rfl rfl) (zii hq) ⟨rfl, rfl⟩
def mOne : Memo := ⟨100, [I 1], [], intQ false (some ⟨0, 0, none⟩) 1 1, [.cells [I 1] 1 true false]⟩
theorem runOne : memoIs Tryz.prog (ctxOf Tryz.prog) [] [] 100000 mOne = true := by kernel_rfl
theorem zpL {H : AHeap} : Ret Tryz.prog 100 [I 1] H (intQ false (some ⟨H.fresh, 0, none⟩) 1 1) (H.add (.cells [I 1] 1 true false)) := by
 have hr := zaJ (P := Tryz.prog) zlP zaI runOne;refine zkd (τ := tauS []) (v0 := mOne.v) (zs := [.cells [I 1] 1 true false]) hr (zg8 (zh5 zlP) gloO zln) ?_ ?_ ?_ fun c d hd => ?_
 ·simp [mOne, renL, renV]
 ·have e : tauN (tauS []) (smallH (bOf []) mOne.blks) H 0 = some H.fresh := by
   unfold tauN;rw [if_neg (by omega), if_pos (by show 0 ≤ 0; omega)];show some (0 - 0 + H.fresh) = _;simp
  simp [mOne, renV, renL] at e ⊢;rw [e]
 ·rfl
 ·unfold tauN;unfold tauS at hd;split
  ·rename_i h1; unfold tauS; exact hd
  ·rename_i h1; rw [if_neg h1] at hd; simp at hd
end Go.Proofs.YtlejimjgagfalaaGreatDoor
