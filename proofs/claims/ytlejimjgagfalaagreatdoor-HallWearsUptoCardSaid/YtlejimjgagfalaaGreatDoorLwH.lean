import Derived.Test.YtlejimjgagfalaaGreatDoorQmF
import Derived.Test.YtlejimjgagfalaaGreatDoorAsF
import Derived.Test.YtlejimjgagfalaaGreatDoorWpL
import Derived.Test.YtlejimjgagfalaaGreatDoorWqD
import Derived.Test.YtlejimjgagfalaaGreatDoorOpA
import Derived.Test.YtlejimjgagfalaaGreatDoorShC
import Derived.Test.YtlejimjgagfalaaGreatDoorHaC
import Derived.Test.YtlejimjgagfalaaGreatDoorStA
import Derived.Test.YtlejimjgagfalaaGreatDoorStC
import Derived.Test.YtlejimjgagfalaaGreatDoorGwO
import Derived.Lib.SmallJoins
import Derived.Test.YtlejimjgagfalaaGreatDoorRows
import Derived.Test.YtlejimjgagfalaaGreatDoorQaB
import Derived.Test.YtlejimjgagfalaaGreatDoorTie
import Derived.Test.YtlejimjgagfalaaGreatDoorCards
noncomputable section
namespace Go.Proofs.YtlejimjgagfalaaGreatDoor
open Go Go.Den
set_option maxRecDepth 100000
theorem zix {H : AHeap} {p q : Option Addr} {c c' : Nat} {l m : List Int} {e bad : Int} (hs : SlAt H 1 i1 p l) (ht : SlAt H 1 i1 q m) (hn : l.length < 1000000000000) :
  Ret Tryz.prog 14 [.slice p l.length c, I e, I bad, .slice q m.length c'] H (.bool (listB l e bad m)) H := by
 refine zae Tryz.func14 rfl rfl rfl fun hc => ?_
 unfold listB;refine zst ?_;refine zq0 ?_;apply zaf;refine zai rfl (fun h1 => ?_) (fun h1 => ?_)
 ·have h1 : bad ≠ 0 := by simpa using h1
  rw [if_pos h1];refine zst ?_;refine zq0 ?_;refine zst ?_;refine zan rfl rfl (fun u => ?_) (fun u => ?_)
  ·have u : ((l.length : Int) == 0) = true := u;refine zst ?_;refine zq1 ?_;refine zst ?_;refine zab hc rfl rfl ⟨?_, rfl⟩;rw [u]; rfl
  ·have u : ((l.length : Int) == 0) = false := u;refine zst ?_;refine zab hc rfl rfl ⟨?_, rfl⟩;rw [u]; rfl
 ·have h1 : ¬ bad ≠ 0 := by simpa using h1
  rw [if_neg h1];refine zst ?_;refine zq0 ?_;refine zst ?_;refine zan rfl rfl (fun u => ?_) (fun u => ?_)
  ·have u : (e == 0) = true := u;refine zst ?_;apply zaW (hg := rfl) (hl := rfl) (ht := rfl); exact sameInts79 (hs.ext (zag hc)) (ht.ext (zag hc)) hn; exact rfl;refine zst ?_;refine zab hc rfl rfl ⟨?_, rfl⟩;rw [u]; rfl
  ·have u : (e == 0) = false := u;refine zst ?_;refine zab hc rfl rfl ⟨?_, rfl⟩;rw [u]; rfl
noncomputable def wearC12 : Code := sndK (sndK (sndK (sndK (sndK (sndK (sndK (sndK (sndK (Tryz.f3.body.getD .skip)))))))))
theorem ziw {U : List Int} {e : Int} (h : e ≠ 0) (hU : U = []) : listB U e e [] = true := by
 subst hU;simp [listB, h]
theorem zjv {U : List Int} : listB U 0 0 U = true := by simp [listB]
theorem zkP {t : List Tb} {l : List Bk} {A : List Int} {lim : Int} (h : wornX t l A lim = 0) : casE t l A = 0 ∧ 1 ≤ lim ∧ lim ≤ 999999999 := by
 unfold wornX firstL at h;by_cases e : casE t l A = 0
 ·refine ⟨e, ?_⟩;cases u : outL lim 1 999999999
  ·unfold outL at u;simp only [decide_eq_false_iff_not] at u;omega
  ·simp [e, u, whenL] at h
 ·simp [e] at h
theorem zmw {h : AHeap} {lo : Nat} {L : List (Option ABlk)} (t : List Tb) (l : List Bk) (A : List Int) : ∃ (X : List (Option ABlk)) (p : Option Addr) (W : List Int), usedVal (ext h lo L) t l A = .tuple ⟨[.slice p W.length W.length, I (casE t l A)]⟩ ∧ usedH (ext h lo L) t l A = ext h lo (L ++ X) ∧ SlAt (ext h lo (L ++ X)) 1 i1 p W ∧ (casE t l A = 0 → W = usedV t l A) ∧ (casE t l A ≠ 0 → W = []) := by
 by_cases e : casE t l A = 0
 ·have hl : (usedV t l A).length = t.length := zdc;refine ⟨[some (.cells ((usedV t l A).map I) 1 false false)], some ⟨nb h L.length, 0, none⟩, usedV t l A, ?_, ?_, zaB (zaa List.getElem?_concat_length), fun _ => rfl, fun h => absurd e h⟩
  ·unfold usedVal;rw [if_pos e, zal, hl]
  ·unfold usedH;rw [if_pos e, za2]
 ·refine ⟨[], none, [], ?_, ?_, SlAt.nil, fun h => absurd h e, fun _ => rfl⟩
  ·unfold usedVal;rw [if_neg e]; rfl
  ·unfold usedH;rw [if_neg e, List.append_nil]
set_option maxHeartbeats 16000000 in
theorem zpM {H h : AHeap} {lo b0 cm d g : Nat} {qm r w p u pu pw : Option Addr} {t : List Tb} {l : List Bk} {A U W : List Int} {m : List Mk} {lim : Int} {Qn : St → Prop} {Qe : Nat → St → Prop} (hc : Closed H) (hc' : Closed h) (hE : Ext H h) (hG : Glo B0 h) (hb0 : h.get b0 = some (.cells [.slice r l.length d, .slice w A.length g, I lim] 0 false false)) (hm : SlAt h 3 mk qm m) (hlow : LowS qm cm m.length) (hn : m.length ≤ 259)
  (_s2 : SlAt h 2 tb p t) (s1 : SlAt h 4 bk u l) (hwe : SlAt h 1 i1 w A) (m1 : t.length ≤ 67) (m2 : l.length ≤ 259) (mA : A.length ≤ 260) (sU : SlAt h 1 i1 pu U) (sW : SlAt h 1 i1 pw W) (hU : casE t l A = 0 → U = usedV t l A) (hU0 : casE t l A ≠ 0 → U = []) (hW : wornX t l A lim = 0 → W = wornV t l A lim) (hW0 : wornX t l A lim ≠ 0 → W = []) (nU : U.length ≤ 100) (nW : W.length ≤ 100) :
  CT Tryz.prog none wNt wearC12 ⟨ofA [(2, .slice qm m.length cm), (4, .pointer (some ⟨b0, 0, none⟩)), (7, .slice p t.length t.length), (8, .slice u l.length l.length), (9, I (casE t l A)), (10, .slice pu U.length U.length), (11, I (casE t l A)), (12, .slice pw W.length W.length), (13, I (wornX t l A lim)), (14, I (wornX t l A lim))], [], ext h lo []⟩ Qn Qe (Go.Den.Fin Tryz.prog Tryz.f3.results H (fun u k => u = .bool true ∧ k = H)) := by
 have lU := fun lo L => zix (H := ext h lo L) (c := U.length) (c' := 0) (m := []) (e := casE t l A) (bad := casE t l A) (sU.ext (zag hc')) (SlAt.nil (p := none)) (by omega)
 have lW := fun lo L => zix (H := ext h lo L) (c := W.length) (c' := 0) (m := []) (e := wornX t l A lim) (bad := wornX t l A lim) (sW.ext (zag hc')) (SlAt.nil (p := none)) (by omega)
 have gl : ∀ lo L, CT Tryz.prog none wNt wearC16 ⟨ofA [(2, .slice qm m.length cm), (4, .pointer (some ⟨b0, 0, none⟩))], [], ext (ext h lo L) (min lo h.fresh) []⟩ Qn Qe (Go.Den.Fin Tryz.prog Tryz.f3.results H (fun u k => u = .bool true ∧ k = H)) := fun lo L => marks_w hc (zbp hc') (hE.trans (zag hc')) (Glo.ext hG) (zaj hc' hb0) (hm.ext (zag hc')) hlow hn
 by_cases e : casE t l A = 0
 ·have rU : ∀ lo (L : List (Option ABlk)), Ret Tryz.prog 15 [.slice p t.length t.length, .slice u l.length l.length, .slice w A.length g] (ext h lo L) (.slice (some ⟨nb h L.length, 0, none⟩) t.length t.length) (ext h lo (L ++ [some (.cells ((usedV t l A).map I) 1 false false)])) := fun lo L => by
   have := zob (c := t.length) (d := l.length) (e := g) (q := p) (t := t) (by omega) (s1.ext (zag hc' (lo := lo) (L := L))) (by omega) (hwe.ext (zag hc')) (by omega) e;rw [zal, za2] at this;exact this
  have hl : (usedV t l A).length = t.length := zdc;have lG := fun lo (L : List (Option ABlk)) => zix (H := ext h lo (L ++ [some (.cells ((usedV t l A).map I) 1 false false)])) (c := U.length) (c' := t.length) (m := usedV t l A) (e := 0) (bad := 0) (sU.ext (zag hc')) (zaB (zaa List.getElem?_concat_length)) (by omega)
  rw [hl, show listB U 0 0 (usedV t l A) = true by rw [hU e]; exact zjv] at lG;rw [e];refine zst ?_;refine zq0 ?_;refine zst ?_;refine zq1 ?_;refine zst ?_;refine zq49 ?_;apply zaW (hg := rfl) (hl := rfl) (ht := rfl); exact rU _ _; exact rfl
  skip;apply zaW (hg := rfl) (hl := rfl) (ht := rfl); exact lG _ _; exact rfl;refine zq11 ?_;refine zst ?_;refine zah rfl ?_ ?_
  ·exact rfl
  by_cases x : wornX t l A lim = 0
  ·obtain ⟨_, l1, l9⟩ := zkP x;have hlw : (wornV t l A lim).length = t.length := by unfold wornV; simp
   have rW : ∀ lo (L : List (Option ABlk)), Ret Tryz.prog 16 [.slice p t.length t.length, .slice u l.length l.length, .slice w A.length g, I lim] (ext h lo L) (.slice (some ⟨nb h L.length, 0, none⟩) t.length t.length) (ext h lo (L ++ [some (.cells ((wornV t l A lim).map I) 1 false false)])) := fun lo L => by
    have := zoa (c := t.length) (d := l.length) (e := g) (q := p) (t := t) (lim := lim) (by omega) (s1.ext (zag hc' (lo := lo) (L := L))) (by omega) (hwe.ext (zag hc')) (by omega) (zhm (zhl e).1).ok (zrN e) l1 l9;rw [zal, za2] at this;exact this
   have lG2 := fun lo (L : List (Option ABlk)) => zix (H := ext h lo (L ++ [some (.cells ((wornV t l A lim).map I) 1 false false)])) (c := W.length) (c' := t.length) (m := wornV t l A lim) (e := 0) (bad := 0) (sW.ext (zag hc')) (zaB (zaa List.getElem?_concat_length)) (by omega)
   rw [hlw, show listB W 0 0 (wornV t l A lim) = true by rw [hW x]; exact zjv] at lG2;rw [x];refine zst ?_;refine zq0 ?_;refine zst ?_;refine zq1 ?_;refine zst ?_;refine zq49 ?_;refine zst ?_;refine zq49 ?_;apply zaW (hg := rfl) (hl := rfl) (ht := rfl); exact rW _ _; exact rfl
   skip;apply zaW (hg := rfl) (hl := rfl) (ht := rfl); exact lG2 _ _; exact rfl;refine zq11 ?_;refine zst ?_;refine zah rfl ?_ ?_
   ·exact rfl
   apply zbb;refine zcH (l' := [(2, .slice qm m.length cm), (4, .pointer (some ⟨b0, 0, none⟩))]) (h' := ext (ext h lo _) (min lo h.fresh) []) zsb zbT ?_;exact gl _ _
  ·rw [ziw x (hW0 x)] at lW;refine zst ?_;refine zq0 ?_;refine zst ?_;refine zan rfl rfl (fun v => ?_) (fun v => absurd v (by simp [x]));refine zst ?_;apply zaW (hg := rfl) (hl := rfl) (ht := rfl); exact lW _ _; exact rfl;refine zq11 ?_;refine zst ?_;refine zq1 ?_;refine zst ?_;refine zan rfl rfl (fun v => absurd v (by simp [x])) (fun v => ?_);refine zst ?_;refine zah rfl ?_ ?_
   ·exact rfl
   apply zbb;refine zcH (l' := [(2, .slice qm m.length cm), (4, .pointer (some ⟨b0, 0, none⟩))]) (h' := ext (ext h lo _) (min lo h.fresh) []) zsb zbT ?_;exact gl _ _
 ·have x : wornX t l A lim ≠ 0 := fun x => e (zkP x).1
  rw [ziw e (hU0 e)] at lU;rw [ziw x (hW0 x)] at lW;refine zst ?_;refine zq0 ?_;refine zst ?_;refine zan rfl rfl (fun v => ?_) (fun v => absurd v (by simp [e]));refine zst ?_;apply zaW (hg := rfl) (hl := rfl) (ht := rfl); exact lU _ _; exact rfl;refine zq11 ?_;refine zst ?_;refine zq1 ?_;refine zst ?_;refine zan rfl rfl (fun v => absurd v (by simp [e])) (fun v => ?_);refine zst ?_;refine zah rfl ?_ ?_
  ·exact rfl
  refine zst ?_;refine zq0 ?_;refine zst ?_;refine zan rfl rfl (fun v => ?_) (fun v => absurd v (by simp [x]));refine zst ?_;apply zaW (hg := rfl) (hl := rfl) (ht := rfl); exact lW _ _; exact rfl;refine zq11 ?_;refine zst ?_;refine zq1 ?_;refine zst ?_;refine zan rfl rfl (fun v => absurd v (by simp [x])) (fun v => ?_);refine zst ?_;refine zah rfl ?_ ?_
  ·exact rfl
  apply zbb;refine zcH (l' := [(2, .slice qm m.length cm), (4, .pointer (some ⟨b0, 0, none⟩))]) (h' := ext (ext h lo _) (min lo h.fresh) []) zsb zbT ?_;exact gl _ _
theorem zqX {t : List Tb} {l : List Bk} {A : List Int} (h : bothE t l ≠ 0) : casE t l A = bothE t l := by
 unfold casE firstL;simp [h]
theorem zpO {t : List Tb} {l : List Bk} {A U : List Int} (m1 : t.length ≤ 67) (h1 : casE t l A = 0 → U = usedV t l A) (h0 : casE t l A ≠ 0 → U = []) : U.length ≤ 100 := by
 by_cases e : casE t l A = 0
 ·rw [h1 e, show (usedV t l A).length = t.length from zdc]; omega
 ·rw [h0 e]; simp
theorem zpK {t : List Tb} {l : List Bk} {A : List Int} {lim : Int} (m1 : t.length ≤ 67) : (wornO t l A lim).length ≤ 100 := by
 unfold wornO;split
 ·simp
 ·unfold wornV; simp; omega
set_option maxHeartbeats 16000000 in
theorem wears_w {H : AHeap} {q r w qm : Option Addr} {c d g cm : Nat} {t : List Tb} {l : List Bk} {A : List Int} {m : List Mk} {lim : Int} (haw : ∀ h, Ext H h → Ret Tryz.prog 5 [] h (.bool true) h) (hG : Glo B0 H) (hs : SlAt H 2 tb q t) (hlow : LowS q c t.length) (hn : t.length ≤ 1048576) (hr : SlAt H 4 bk r l) (hlow2 : LowS r d l.length) (hm : l.length ≤ 1048576) (hw : SlAt H 1 i1 w A) (hA : A.length ≤ 1048576) (hk : SlAt H 3 mk qm m) (hlow3 : LowS qm cm m.length) (hM : m.length ≤ 1048576) :
  Ret Tryz.prog 3 [.slice q t.length c, .agg ⟨[.slice r l.length d, .slice w A.length g, I lim]⟩, .slice qm m.length cm] H (.bool true) H := by
 refine zae Tryz.func3 rfl rfl rfl fun hc => ?_
 have c1 := fun L => own_c (H := ext H H.fresh L) (c := c) (d := d) (hs.ext (zag hc)) (by omega) (hr.ext (zag hc)) (by omega)
 simp only [zeR, zal] at c1;refine zst ?_;refine zq17 ?_;refine zac rfl (c1 _) rfl ?_;obtain ⟨L0, hL0⟩ : ∃ L0 : List (Option ABlk), L0 = [some (.cells [.slice r l.length d, .slice w A.length g, I lim] 0 false false)] := ⟨_, rfl⟩
 obtain ⟨p, hp⟩ : ∃ p, p = lstP (nb H L0.length) t := ⟨_, rfl⟩
 obtain ⟨u, hu⟩ : ∃ u, u = lstP (nb H (L0 ++ lstL 2 tb t).length) l := ⟨_, rfl⟩
 have s1 : SlAt (ext H H.fresh (L0 ++ lstL 2 tb t ++ lstL 4 bk l)) 4 bk u l := by rw [hu]; exact zgd zlQ
 have s2 : SlAt (ext H H.fresh (L0 ++ lstL 2 tb t ++ lstL 4 bk l)) 2 tb p t := by
  have := zgd (H := H) (lo := H.fresh) (L := L0) (m := 2) (f := tb) (l := t) znL;rw [hp];exact this.ext (zgf hc)
 have hb0 : (ext H H.fresh (L0 ++ lstL 2 tb t ++ lstL 4 bk l)).get (nb H 0) = some (.cells [.slice r l.length d, .slice w A.length g, I lim] 0 false false) := zaa (getApp (getApp (by rw [hL0]; rfl)));refine zcy (l' := [(0, .slice q t.length c), (2, .slice qm m.length cm), (4, .pointer (some ⟨nb H 0, 0, none⟩)), (6, .bool false), (28, .tuple ⟨[.slice p t.length t.length, .slice u l.length l.length]⟩)]) (h' := ext (ext H H.fresh (L0 ++ lstL 2 tb t ++ lstL 4 bk l)) (min H.fresh H.fresh) []) (by rw [hp, hu, hL0]; repeat (first | exact zbi | apply za0 rfl)) (by rw [hL0]; exact zbT) (by simp) ?_;obtain ⟨h, hh⟩ : ∃ h, h = ext H H.fresh (L0 ++ lstL 2 tb t ++ lstL 4 bk l) := ⟨_, rfl⟩
 have hc' : Closed h := by rw [hh]; exact zbp hc
 have hE : Ext H h := by rw [hh]; exact zag hc
 have hG' : Glo B0 h := by rw [hh]; exact Glo.ext hG
 rw [← hh] at s1 s2 hb0 ⊢;clear hh hp hu c1 hL0;have aw := fun lo L => haw _ (hE.trans (zag (lo := lo) (L := L) hc'))
 have sh := fun lo L => short_c (d := l.length) (c := t.length) (e := 0) (s2.ext (zag (lo := lo) (L := L) hc')) (by omega) (s1.ext (zag (lo := lo) (L := L) hc')) (by omega) (SlAt.nil (p := none)) (by simp)
 have rc := fun lo L => zhD (d := l.length) (c := t.length) (s2.ext (zag (lo := lo) (L := L) hc')) (by omega) (s1.ext (zag (lo := lo) (L := L) hc')) (by omega)
 obtain ⟨T, hT⟩ : ∃ T, T = ((!shortH t l [] || decide ((A.length : Int) > 260)) || decide ((m.length : Int) > 259)) := ⟨_, rfl⟩
 refine zst ?_;apply zac (ht := rfl); exact aw _ _; exact rfl;refine zq10 ?_;refine zst ?_;apply zaW (hg := rfl) (hl := rfl) (ht := rfl); exact sh _ _; exact rfl;refine zq11 ?_;(iterate 2 (refine zs1 ?_));refine zdf [(0, .slice q t.length c), (2, .slice qm m.length cm), (4, .pointer (some ⟨nb H 0, 0, none⟩)), (6, .bool false), (7, .slice p t.length t.length), (8, .slice u l.length l.length), (49, .bool T)] (ds := []) (h := ext h (min H.fresh H.fresh) []) ?_ ?_
 ·refine zan rfl rfl (fun u0 => ?_) (fun u0 => ?_)
  ·have u0 : (!shortH t l []) = true := u0;have e : T = true := by rw [hT, u0]; rfl
   rw [e];refine zst ?_;exact zaP zsb
  ·have u0 : (!shortH t l []) = false := u0;have e : T = (decide ((A.length : Int) > 260) || decide ((m.length : Int) > 259)) := by rw [hT, u0]; rfl
   rw [e];refine zst ?_;refine zq49 ?_;refine zst ?_;refine zq1 ?_;refine zst ?_;refine zan rfl rfl (fun u1 => ?_) (fun u1 => ?_)
   ·have u1 : decide ((A.length : Int) > 260) = true := u1;rw [u1];refine zst ?_;exact zaP zsb
   ·have u1 : decide ((A.length : Int) > 260) = false := u1;rw [u1];refine zst ?_;refine zq1 ?_;refine zst ?_;exact zaP zsb
 refine zai rfl (fun u0 => ?_) (fun u0 => ?_)
 ·refine zst ?_;apply zac (ht := rfl); exact aw _ _; exact rfl;refine zst ?_;exact zdO hc hc' hE rfl rfl ⟨rfl, rfl⟩
 have u0 : T = false := u0
 obtain ⟨m1, m2, mA, mM⟩ : t.length ≤ 67 ∧ l.length ≤ 259 ∧ A.length ≤ 260 ∧ m.length ≤ 259 := by
  rw [u0] at hT;have := hT.symm;simp only [Bool.or_eq_false_iff, Bool.not_eq_false', decide_eq_false_iff_not] at this;obtain ⟨m1, m2, _⟩ := zmA this.1.1;exact ⟨m1, m2, by omega, by omega⟩
 clear hT sh aw;have hse := hs.ext hE;have hre := hr.ext hE;have hwe := hw.ext hE;have hke := hk.ext hE;clear rc;obtain ⟨T2, hT2⟩ : ∃ T2, T2 = ((bothE t l == 0) && decide ((l.length : Int) > 16)) := ⟨_, rfl⟩
 refine zst ?_;apply zac (ht := rfl); exact zhD (s2.ext (zag hc')) (by omega) (s1.ext (zag hc')) (by omega); exact rfl;refine zst ?_;refine zq0 ?_;refine zs1 ?_;refine zdf [(0, .slice q t.length c), (2, .slice qm m.length cm), (4, .pointer (some ⟨nb H 0, 0, none⟩)), (6, .bool false), (7, .slice p t.length t.length), (8, .slice u l.length l.length), (9, I (bothE t l)), (61, .bool T2)] (ds := []) (h := ext h (min H.fresh H.fresh) []) ?_ ?_
 ·refine zan rfl rfl (fun v0 => ?_) (fun v0 => ?_)
  ·have v0 : (bothE t l == 0) = true := v0;have e : T2 = decide ((l.length : Int) > 16) := by rw [hT2, v0]; rfl
   rw [e];refine zst ?_;refine zq49 ?_;refine zst ?_;refine zq1 ?_;refine zst ?_;exact zaP zsb
  ·have v0 : (bothE t l == 0) = false := v0;have e : T2 = false := by rw [hT2, v0]; rfl
   rw [e];refine zst ?_;exact zaP zsb
 refine zai rfl (fun v0 => ?_) (fun v0 => ?_)
 ·refine zst ?_;exact zdO hc hc' hE rfl rfl ⟨rfl, rfl⟩
 have v0 : T2 = false := v0
 have m3 : bothE t l = 0 → l.length ≤ 16 := fun e => by
  rw [v0, e] at hT2;have : decide ((l.length : Int) > 16) = false := by simpa using hT2
  simp only [decide_eq_false_iff_not] at this;omega
 clear hT2;refine zst ?_;refine zq0 ?_;apply zaf;refine ct_JE [(0, .slice q t.length c), (2, .slice qm m.length cm), (4, .pointer (some ⟨nb H 0, 0, none⟩)), (6, .bool false), (7, .slice p t.length t.length), (8, .slice u l.length l.length), (9, I (casE t l A))] (ds := []) (h := ext h (min H.fresh H.fresh) []) ?_ ?_
 ·refine zai rfl (fun v1 => ?_) (fun v1 => ?_)
  ·have v1 : bothE t l = 0 := by simpa using v1
   have e2 := cas_ref (A := A) v1;rw [e2];have ck := fun lo L => zfU (c := t.length) (d := l.length) (e := g) (s2.ext (zag hc' (lo := lo) (L := L))) (by omega) (s1.ext (zag hc')) (by omega) (hwe.ext (zag hc')) (by omega)
   refine zst ?_;refine zq18 ?_;apply zac (ht := rfl); exact ck _ _; exact rfl;refine zst ?_;exact zaP zsb
  ·have v1 : bothE t l ≠ 0 := by simpa using v1
   rw [zqX (A := A) v1];apply zbb;exact zaP zsb
 obtain ⟨X1, pu, U, ev1, eh1, sU, ok1, bad1⟩ := zmw (h := h) (lo := min H.fresh H.fresh) (L := []) t l A;have nU : U.length ≤ 100 := zpO m1 ok1 bad1;have cu := Used_c (c := c) (d := d) (e := g) (A := A) (hse.ext (zag hc' (lo := min H.fresh H.fresh) (L := []))) hlow (by omega) (hre.ext (zag hc')) hlow2 (by omega) (hwe.ext (zag hc')) (by omega);rw [ev1, eh1] at cu;clear ev1 eh1;refine zst ?_;refine zq18 ?_;refine zst ?_;refine zq18 ?_;apply zac (ht := rfl); exact cu; exact rfl;refine zst ?_;refine zq18 ?_;refine zst ?_;refine zq18 ?_;refine zst ?_;refine zq18 ?_;obtain ⟨h2, hh2⟩ : ∃ h2, h2 = ext h (min H.fresh H.fresh) (([] : List (Option ABlk)) ++ X1) := ⟨_, rfl⟩
 refine zcy (l' := [(2, .slice qm m.length cm), (4, .pointer (some ⟨nb H 0, 0, none⟩)), (6, .bool false), (7, .slice p t.length t.length), (8, .slice u l.length l.length), (9, I (casE t l A)), (10, .slice pu U.length U.length), (11, I (casE t l A)), (79, .slice q t.length c), (81, .slice r l.length d), (83, .slice w A.length g), (85, I lim)]) (h' := ext h2 (min (min H.fresh H.fresh) h.fresh) []) zsb (by rw [hh2]; exact zbT) (by simp) ?_;have s1 : SlAt h2 4 bk u l := by rw [hh2]; exact s1.ext (zag hc')
 have s2 : SlAt h2 2 tb p t := by rw [hh2]; exact s2.ext (zag hc')
 have hse : SlAt h2 2 tb q t := by rw [hh2]; exact hse.ext (zag hc')
 have hre : SlAt h2 4 bk r l := by rw [hh2]; exact hre.ext (zag hc')
 have hwe : SlAt h2 1 i1 w A := by rw [hh2]; exact hwe.ext (zag hc')
 have hke : SlAt h2 3 mk qm m := by rw [hh2]; exact hke.ext (zag hc')
 have hb0 : h2.get (nb H 0) = some (.cells [.slice r l.length d, .slice w A.length g, I lim] 0 false false) := by rw [hh2]; exact zaj hc' hb0
 have hG' : Glo B0 h2 := by rw [hh2]; exact Glo.ext hG'
 have hE : Ext H h2 := by rw [hh2]; exact hE.trans (zag hc')
 have hc' : Closed h2 := by rw [hh2]; exact zbp hc'
 rw [← hh2] at sU;clear hh2 cu;have cw := fun lo L => WornG_c (c := c) (d := d) (e := g) (lim := lim) (hse.ext (zag hc' (lo := lo) (L := L))) hlow (by omega) (hre.ext (zag hc')) hlow2 (by omega) (hwe.ext (zag hc')) (by omega)
 simp only [zeR, zal] at cw;apply zac (ht := rfl); exact cw _ _; exact rfl;obtain ⟨W, hW⟩ : ∃ W, W = wornO t l A lim := ⟨_, rfl⟩
 have nW : W.length ≤ 100 := by rw [hW]; exact zpK m1
 have w1 : wornX t l A lim = 0 → W = wornV t l A lim := fun e => by rw [hW]; exact if_neg (by rw [e]; simp)
 have w0 : wornX t l A lim ≠ 0 → W = [] := fun e => by rw [hW]; exact if_pos e
 rw [← hW];clear hW cw;obtain ⟨pw, hpw⟩ : ∃ pw, pw = lstP (nb h2 ([] : List (Option ABlk)).length) W := ⟨_, rfl⟩
 have sW : SlAt (ext h2 (min (min H.fresh H.fresh) h.fresh) (([] : List (Option ABlk)) ++ lstL 1 i1 W)) 1 i1 pw W := by rw [hpw]; exact zgd zrz
 rw [show lstV (nb h2 ([] : List (Option ABlk)).length) W = .slice pw W.length W.length by rw [hpw]; rfl];clear hpw;refine zst ?_;refine zq18 ?_;apply zac (ht := rfl); exact outside24; exact rfl;apply zac (ht := rfl); exact zh8; exact rfl;refine zq19 ?_;apply zac (ht := rfl); exact ziC (l := [_, _]) (zaB (zaa List.getElem?_concat_length)) (by simp); exact rfl;(iterate 2 (refine zs1 ?_));refine zcH (l' := [(2, .slice qm m.length cm), (4, .pointer (some ⟨nb H 0, 0, none⟩)), (7, .slice p t.length t.length), (8, .slice u l.length l.length), (9, I (casE t l A)), (10, .slice pu U.length U.length), (11, I (casE t l A)), (12, .slice pw W.length W.length), (13, I (wornX t l A lim)), (14, I (wornX t l A lim))]) (h' := ext (ext h2 (min (min H.fresh H.fresh) h.fresh) _) (min (min (min H.fresh H.fresh) h.fresh) h2.fresh) []) zsb zbT ?_;exact zpM hc (zbp hc') (hE.trans (zag hc')) (Glo.ext hG') (zaj hc' hb0) (hke.ext (zag hc')) hlow3 mM (s2.ext (zag hc')) (s1.ext (zag hc')) (hwe.ext (zag hc')) m1 m2 mA (sU.ext (zag hc')) (sW.ext (zgf hc')) ok1 bad1 w1 w0 nU nW
open Go Go.Den Go.ChangeShapes Go.WideShapes Go.ChangeAt Go.RowKit Go.Deep
set_option maxRecDepth 10000
noncomputable instance : Inhabited Ra := ⟨⟨0, 0, 0⟩⟩
section
variable {H : Type} {enc : TypeId × Value → H} {W : World} {sp : Nat → Bool} {hd : Bool} {fuel : Nat}
end
theorem OpU.low {W : World} {α : Type} {f : α → List Value} {w : Nat} {v : Value} {o : Option BB} {p : Nat → Option Addr} {c : Nat} {l : List α} (h : OpU W f w v o p c l) (k : Nat) : LowS (p k) c l.length := ⟨h.cap, h.nil k, h.spot k⟩
noncomputable instance : Inhabited Ma := ⟨⟨0, 0, 0, 0, ByteArray.empty⟩⟩
theorem undTx : Tryz.prog.underlying 9 = some .string := rfl
theorem cellsTx : Tryz.prog.cellsOf 9 = 1 := by decide +kernel
theorem zdX {H : Type} {d : DataW H} {l : List (DataW H)} (h : d ∈ l) : Rows.uptoBulk d ≤ Rows.uptoBulkAll l := by
 induction l with
 | nil => cases h
 | cons x r ih =>
  simp only [Rows.uptoBulkAll];rcases List.mem_cons.1 h with e | e
  ·subst e; omega
  ·have := ih e; omega
theorem zrb {H : Type} (d : DataW H) : 1 ≤ Rows.uptoBulk d := by
 cases d with
 | lit l => cases l <;> simp [Rows.uptoBulk]
 | nil => simp [Rows.uptoBulk]
 | ptr d => simp [Rows.uptoBulk]
 | slice elems spare => simp [Rows.uptoBulk]
 | agg parts => simp [Rows.uptoBulk]
 | iface t d => simp [Rows.uptoBulk]
 | map entries => simp [Rows.uptoBulk]
 | held h => simp [Rows.uptoBulk]
theorem zrc {H : Type} (l : List (DataW H)) : l.length ≤ Rows.uptoBulkAll l := by
 induction l with
 | nil => simp [Rows.uptoBulkAll]
 | cons x r ih => have := zrb x; simp only [Rows.uptoBulkAll, List.length_cons]; omega
theorem znd {H : Type} (d : DataW H) : Go.Joins.sliceLen d ≤ Rows.uptoBulk d := by
 cases d with
 | slice elems spare =>
  have := zrc elems
  simp only [Go.Joins.sliceLen, Rows.uptoBulk]; omega
 | _ => simp [Go.Joins.sliceLen]
theorem zkS {Γ : Ga} {p : Option Addr} {n c : Nat} {v : Value} (h : VR Γ (.slice p n c) v) : ∃ p' c', v = .slice p' n c' := by
 cases h <;> exact ⟨_, _, rfl⟩
section
variable {H : Type} {enc : TypeId × Value → H} {W : World} {sp : Nat → Bool} {hd : Bool} {fuel : Nat}
end
theorem zd0 {H : Type} {enc : TypeId × Value → H} {W : World} {sp : Nat → Bool} {hd : Bool} {fuel : Nat} {t e : TypeId} {p : Option Addr} {k c : Nat} {x : DataW H × List MemPlace} (hu : Tryz.prog.underlying t = some (.slice e)) (h : DataW.trod enc Tryz.prog W 0 sp hd fuel t [.slice p k c] = some x) : k ≤ Rows.uptoBulk x.1 := by
 have q1 := Go.Joins.sliceLen_trod (d := x.1) (ps := x.2) hu h;have q2 := znd x.1;omega
noncomputable instance : Inhabited Bk := ⟨⟨ByteArray.empty, ByteArray.empty, 0, 0⟩⟩
noncomputable instance : Inhabited Tb := ⟨⟨ByteArray.empty, ByteArray.empty⟩⟩
noncomputable instance : Inhabited Rq := ⟨⟨ByteArray.empty, ByteArray.empty, 0, 0⟩⟩
noncomputable instance : Inhabited Po := ⟨⟨ByteArray.empty, ByteArray.empty, 0⟩⟩
theorem bk_flat (x : Bk) : (bk x).all flatC = true := rfl
theorem tb_flat (x : Tb) : (tb x).all flatC = true := rfl
theorem undBk : ∃ f0 f1 f2 f3 : Field, Tryz.prog.underlying 73 = some (.struct #[f0, f1, f2, f3]) ∧ (f0.type = 9 ∧ f0.offset = 0) ∧ (f1.type = 9 ∧ f1.offset = 1) ∧ (f2.type = 3 ∧ f2.offset = 2) ∧ (f3.type = 3 ∧ f3.offset = 3) := ⟨_, _, _, _, rfl, ⟨rfl, rfl⟩, ⟨rfl, rfl⟩, ⟨rfl, rfl⟩, ⟨rfl, rfl⟩⟩
theorem undTb : ∃ f0 f1 : Field, Tryz.prog.underlying 70 = some (.struct #[f0, f1]) ∧ (f0.type = 9 ∧ f0.offset = 0) ∧ (f1.type = 9 ∧ f1.offset = 1) := ⟨_, _, rfl, ⟨rfl, rfl⟩, ⟨rfl, rfl⟩⟩
theorem undBks : Tryz.prog.underlying 23 = some (.slice 73) := rfl
theorem undTbs : Tryz.prog.underlying 22 = some (.slice 70) := rfl
theorem cellsBk : Tryz.prog.cellsOf 73 = 4 := by decide +kernel
theorem cellsTb : Tryz.prog.cellsOf 70 = 2 := by decide +kernel
theorem lst2 {α : Type} {l : List α} (h : l.length = 2) : ∃ a b, l = [a, b] := by
 match l, h with
 | [a, b], _ => exact ⟨a, b, rfl⟩
theorem lst3 {α : Type} {l : List α} (h : l.length = 3) : ∃ a b c, l = [a, b, c] := by
 match l, h with
 | [a, b, c], _ => exact ⟨a, b, c, rfl⟩
theorem lst4 {α : Type} {l : List α} (h : l.length = 4) : ∃ a b c d, l = [a, b, c, d] := by
 match l, h with
 | [a, b, c, d], _ => exact ⟨a, b, c, d, rfl⟩
section
variable {H : Type} {enc : TypeId × Value → H} {W : World} {sp : Nat → Bool} {hd : Bool} {fuel : Nat}
theorem dec_bk {cs : List Value} {x : DataW H × List MemPlace} (h : DataW.trod enc Tryz.prog W 0 sp hd fuel 73 cs = some x) : ∃ y, cs = bk y := by
 obtain ⟨f0, f1, f2, f3, hu, ⟨a0, b0⟩, ⟨a1, b1⟩, ⟨a2, b2⟩, ⟨a3, b3⟩⟩ := undBk;obtain ⟨xs, n, _, _, hl, hlen, hf⟩ := DataW.trod_struct hu h;rw [cellsBk] at hl;obtain ⟨u0, u1, u2, u3, rfl⟩ := lst4 hl;obtain ⟨y0, y1, y2, y3, rfl⟩ := lst4 (by simpa using hlen);have h0 := hf 0 f0 rfl;have h1 := hf 1 f1 rfl;have h2 := hf 2 f2 rfl;have h3 := hf 3 f3 rfl;rw [a0, b0, cellsTx] at h0;rw [a1, b1, cellsTx] at h1;rw [a2, b2, cellsInt] at h2;rw [a3, b3, cellsInt] at h3;obtain ⟨s0, e0, _⟩ := DataW.trod_string undTx (by simpa using h0);obtain ⟨s1, e1, _⟩ := DataW.trod_string undTx (by simpa using h1);obtain ⟨n2, e2⟩ := zdd (by simpa using h2);obtain ⟨n3, e3⟩ := zdd (by simpa using h3);simp at e0 e1 e2 e3;subst e0; subst e1; subst e2; subst e3;exact ⟨⟨s0, s1, n2, n3⟩, rfl⟩
theorem dec_tb {cs : List Value} {x : DataW H × List MemPlace} (h : DataW.trod enc Tryz.prog W 0 sp hd fuel 70 cs = some x) : ∃ y, cs = tb y := by
 obtain ⟨f0, f1, hu, ⟨a0, b0⟩, ⟨a1, b1⟩⟩ := undTb;obtain ⟨xs, n, _, _, hl, hlen, hf⟩ := DataW.trod_struct hu h;rw [cellsTb] at hl;obtain ⟨u0, u1, rfl⟩ := lst2 hl;obtain ⟨y0, y1, rfl⟩ := lst2 (by simpa using hlen);have h0 := hf 0 f0 rfl;have h1 := hf 1 f1 rfl;rw [a0, b0, cellsTx] at h0;rw [a1, b1, cellsTx] at h1;obtain ⟨s0, e0, _⟩ := DataW.trod_string undTx (by simpa using h0);obtain ⟨s1, e1, _⟩ := DataW.trod_string undTx (by simpa using h1);simp at e0 e1;subst e0; subst e1;exact ⟨⟨s0, s1⟩, rfl⟩
theorem zqp {b0 : Nat} {v : Value} {x : DataW H × List MemPlace} (hsp : ∀ b, sp b = true) (h : DataW.trod enc Tryz.prog W 0 sp hd fuel 23 [v] = some x) (hok : Cell.okWide Tryz.prog W .any b0 23 v) : OpS W bk 4 v :=
 zeN (f := bk) (w := 4) (by omega) zlQ undBks cellsBk dec_bk hsp h hok
theorem zqm {b0 : Nat} {v : Value} {x : DataW H × List MemPlace} (hsp : ∀ b, sp b = true) (h : DataW.trod enc Tryz.prog W 0 sp hd fuel 22 [v] = some x) (hok : Cell.okWide Tryz.prog W .any b0 22 v) : OpS W tb 2 v :=
 zeN (f := tb) (w := 2) (by omega) znL undTbs cellsTb dec_tb hsp h hok
theorem ok_sl {b0 : Nat} {v : Value} {t e : TypeId} (hu : Tryz.prog.underlying t = some (.slice e)) (h : Value.okWide Tryz.prog W .any b0 t v) : Cell.okWide Tryz.prog W .any b0 t v := by
 unfold Value.okWide at h;rw [hu] at h;exact h
end
theorem undLet : ∃ f0 f1 f2 : Field, Tryz.prog.underlying 26 = some (.struct #[f0, f1, f2]) ∧ (f0.type = 23 ∧ f0.offset = 0) ∧ (f1.type = 24 ∧ f1.offset = 1) ∧ (f2.type = 3 ∧ f2.offset = 2) := ⟨_, _, _, rfl, ⟨rfl, rfl⟩, ⟨rfl, rfl⟩, ⟨rfl, rfl⟩⟩
theorem undMk : ∃ f0 f1 : Field, Tryz.prog.underlying 61 = some (.struct #[f0, f1]) ∧ (f0.type = 59 ∧ f0.offset = 0) ∧ (f1.type = 3 ∧ f1.offset = 2) := ⟨_, _, rfl, ⟨rfl, rfl⟩, ⟨rfl, rfl⟩⟩
theorem undPt : ∃ f0 f1 : Field, Tryz.prog.underlying 59 = some (.struct #[f0, f1]) ∧ (f0.type = 3 ∧ f0.offset = 0) ∧ (f1.type = 3 ∧ f1.offset = 1) := ⟨_, _, rfl, ⟨rfl, rfl⟩, ⟨rfl, rfl⟩⟩
theorem undMks : Tryz.prog.underlying 27 = some (.slice 61) := rfl
theorem cellsLet : Tryz.prog.cellsOf 26 = 3 := by decide +kernel
theorem cellsBks : Tryz.prog.cellsOf 23 = 1 := by decide +kernel
theorem cellsIns : Tryz.prog.cellsOf 24 = 1 := by decide +kernel
theorem cellsMk : Tryz.prog.cellsOf 61 = 3 := by decide +kernel
theorem cellsPt : Tryz.prog.cellsOf 59 = 2 := by decide +kernel
theorem mk_flat : ∀ m : Mk, (mk m).all flatC = true := fun _ => rfl
theorem rowLet : Tryz.prog.cellTypes Tryz.prog.depth 26 = some [23, 24, 3] := by decide +kernel
section
variable {H : Type} {enc : TypeId × Value → H} {W : World} {sp : Nat → Bool} {hd : Bool} {fuel : Nat}
theorem dec_pt {cs : List Value} {x : DataW H × List MemPlace} (h : DataW.trod enc Tryz.prog W 0 sp hd fuel 59 cs = some x) : ∃ a b, cs = [I a, I b] := by
 obtain ⟨f0, f1, hu, ⟨a0, b0⟩, ⟨a1, b1⟩⟩ := undPt;obtain ⟨xs, n, _, _, hl, hlen, hf⟩ := DataW.trod_struct hu h;rw [cellsPt] at hl;obtain ⟨u0, u1, rfl⟩ := lst2 hl;obtain ⟨y0, y1, rfl⟩ := lst2 (by simpa using hlen);have h0 := hf 0 f0 rfl;have h1 := hf 1 f1 rfl;rw [a0, b0, cellsInt] at h0;rw [a1, b1, cellsInt] at h1;obtain ⟨n0, e0⟩ := zdd (by simpa using h0);obtain ⟨n1, e1⟩ := zdd (by simpa using h1);simp at e0 e1;subst e0; subst e1;exact ⟨n0, n1, rfl⟩
theorem dec_mk {cs : List Value} {x : DataW H × List MemPlace} (h : DataW.trod enc Tryz.prog W 0 sp hd fuel 61 cs = some x) : ∃ m, cs = mk m := by
 obtain ⟨f0, f1, hu, ⟨a0, b0⟩, ⟨a1, b1⟩⟩ := undMk;obtain ⟨xs, n, _, _, hl, hlen, hf⟩ := DataW.trod_struct hu h;rw [cellsMk] at hl;obtain ⟨u0, u1, u2, rfl⟩ := lst3 hl;obtain ⟨y0, y1, rfl⟩ := lst2 (by simpa using hlen);have h0 := hf 0 f0 rfl;have h1 := hf 1 f1 rfl;rw [a0, b0, cellsPt] at h0;rw [a1, b1, cellsInt] at h1;obtain ⟨n0, n1, e0⟩ := dec_pt (by simpa using h0);obtain ⟨n2, e2⟩ := zdd (by simpa using h1);simp at e0 e2;obtain ⟨rfl, rfl⟩ := e0;subst e2;exact ⟨⟨n0, n1, n2⟩, rfl⟩
instance : Inhabited Mk := ⟨⟨0, 0, 0⟩⟩
theorem zqn {b0 : Nat} {v : Value} {x : DataW H × List MemPlace} (hsp : ∀ b, sp b = true) (h : DataW.trod enc Tryz.prog W 0 sp hd fuel 27 [v] = some x) (hok : Cell.okWide Tryz.prog W .any b0 27 v) : OpS W mk 3 v :=
 zeN (f := mk) (w := 3) (by omega) zgR undMks cellsMk dec_mk hsp h hok
theorem zqo {b0 : Nat} {v : Value} {x : DataW H × List MemPlace} (hsp : ∀ b, sp b = true)
  (h : DataW.trod enc Tryz.prog W 0 sp hd fuel 26 v.cells.toList = some x) (hok : Value.okWide Tryz.prog W .any b0 26 v) :
  ∃ v0 v1 a, v = .agg ⟨[v0, v1, I a]⟩ ∧ OpS W bk 4 v0 ∧ OpS W i1 1 v1 ∧ (∀ p k c, v0 = .slice p k c → k ≤ Rows.uptoBulk x.1) ∧ ∀ p k c, v1 = .slice p k c → k ≤ Rows.uptoBulk x.1 := by
 obtain ⟨f0, f1, f2, hu, ⟨a0, b0'⟩, ⟨a1, b1'⟩, ⟨a2, b2'⟩⟩ := undLet;unfold Value.okWide at hok;rw [hu] at hok;simp only at hok;obtain ⟨cs, rfl, hsz, ts, hts, _, hrow⟩ := hok;rw [rowLet] at hts;cases hts;rw [cellsLet] at hsz;obtain ⟨l⟩ := cs;obtain ⟨v0, v1, u2, rfl⟩ := lst3 (by simpa using hsz);obtain ⟨t1, e1, r1⟩ := hrow 0 v0 rfl;cases e1;obtain ⟨t2, e2, r2⟩ := hrow 1 v1 rfl;cases e2;obtain ⟨y0, y1, y2, n, hx, hl, h0, h1, h2⟩ := trod_struct3 hu h;rw [a0, b0', cellsBks] at h0;rw [a1, b1', cellsIns] at h1;rw [a2, b2', cellsInt] at h2;obtain ⟨n2, e2⟩ := zdd (by simpa [Value.cells] using h2);simp at e2;subst e2;have h0' : DataW.trod enc Tryz.prog W 0 sp hd n 23 [v0] = some y0 := by simpa [Value.cells] using h0
 have h1' : DataW.trod enc Tryz.prog W 0 sp hd n 24 [v1] = some y1 := by simpa [Value.cells] using h1
 refine ⟨v0, v1, n2, rfl, zqp hsp h0' r1, open_ints hsp h1' r2, fun p k c e => ?_, fun p k c e => ?_⟩
 ·subst e;have q1 := zd0 undBks h0';have q3 := zdX (d := y0.1) (l := [y0.1, y1.1, y2.1]) (by simp);rw [hx];simp only [Rows.uptoBulk];omega
 ·subst e;have q1 := zd0 undInts h1';have q3 := zdX (d := y1.1) (l := [y0.1, y1.1, y2.1]) (by simp);rw [hx];simp only [Rows.uptoBulk];omega
end
theorem zj0 {W : World} (hB : BBok B0 W) {v0 v1 v2 v3 : Value} {lim : Int} (h0 : OpS W tb 2 v0) (h1 : OpS W bk 4 v1) (h2 : OpS W i1 1 v2) (h3 : OpS W mk 3 v3) (hl0 : ∀ p k c, v0 = .slice p k c → k ≤ 1048576) (hl1 : ∀ p k c, v1 = .slice p k c → k ≤ 1048576) (hl2 : ∀ p k c, v2 = .slice p k c → k ≤ 1048576) (hl3 : ∀ p k c, v3 = .slice p k c → k ≤ 1048576) :
  Calls Tryz.prog 3 ⟨[v0, .agg ⟨[v1, v2, I lim]⟩, v3]⟩ W fun e W' => e = .returned (.bool true) ∧ Below W.heap.size W W' := by
 obtain ⟨o0, p0, c0, l0, k0⟩ := h0.use znL tb_flat;obtain ⟨o1, p1, c1, l1, k1⟩ := h1.use zlQ bk_flat;obtain ⟨o2, p2, c2, l2, k2⟩ := h2.use zrz flat_i1;obtain ⟨o3, p3, c3, l3, k3⟩ := h3.use zgR mk_flat
 have hB1 : BBok (extB [o0, o1, o2, o3]) W := extB_ok hB fun k x hx => by
  match k, hx with
  | 0, hx => exact k0.blk x (by simpa using hx) _
  | 1, hx => exact k1.blk x (by simpa using hx) _
  | 2, hx => exact k2.blk x (by simpa using hx) _
  | 3, hx => exact k3.blk x (by simpa using hx) _
 have b0 := zgg (bs := [o0, o1, o2, o3]) (k := 0) rfl;have b1 := zgg (bs := [o0, o1, o2, o3]) (k := 1) rfl;have b2 := zgg (bs := [o0, o1, o2, o3]) (k := 2) rfl;have b3 := zgg (bs := [o0, o1, o2, o3]) (k := 3) rfl
 have n0 : l0.length ≤ 1048576 := by
  obtain ⟨p', c', e⟩ := zkS (k0.vr _ 1000 (by omega) b0);exact hl0 _ _ _ e
 have n1 : l1.length ≤ 1048576 := by
  obtain ⟨p', c', e⟩ := zkS (k1.vr _ 1001 (by omega) b1);exact hl1 _ _ _ e
 have n2 : l2.length ≤ 1048576 := by
  obtain ⟨p', c', e⟩ := zkS (k2.vr _ 1002 (by omega) b2);exact hl2 _ _ _ e
 have n3 : l3.length ≤ 1048576 := by
  obtain ⟨p', c', e⟩ := zkS (k3.vr _ 1003 (by omega) b3);exact hl3 _ _ _ e
 refine zhv (wears_w (c := c0) (d := c1) (g := c2) (cm := c3) (lim := lim) (fun h hE => awake17 (zlt hE)) (zlt fun _ _ h => h) (k0.at_ _ 1000 (by omega) b0) (k0.low 1000) n0 (k1.at_ _ 1001 (by omega) b1) (k1.low 1001) n1 (k2.at_ _ 1002 (by omega) b2) n2 (k3.at_ _ 1003 (by omega) b3) (k3.low 1003) n3) (fun u k hu => hu.1) rfl hB1 ?_;exact .cons (k0.vr _ 1000 (by omega) b0) (.cons (.agg (.cons (k1.vr _ 1001 (by omega) b1) (.cons (k2.vr _ 1002 (by omega) b2) (.cons (.int _ _) .nil)))) (.cons (k3.vr _ 1003 (by omega) b3) .nil))
theorem zhn (H : Type) (enc : TypeId × Value → H) (W : World) (base : Nat) (args : Array Value) (ds gs : List (DataW H)) (before : List MemPlace)
  (hval : ∀ (j : Nat) t v, Tryz.f3.params[j]? = some t → args[j]? = some v → Value.okWide Tryz.prog W .any base t v)
  (hW : DataW.Whole enc Tryz.prog Tryz.f3.params.toList Rows.hallWearsSpec.vars false W args.toList ds gs before) (hk : Rows.uptoSmall H (ds ++ gs) = true) (hL : laidMetH Tryz.prog Rows.hallWearsUptoRow.laid W) :
  Calls Tryz.prog 3 args W fun e W' => ∃ v, e = .returned v ∧ Rows.hallWearsSpec.post enc Tryz.prog Tryz.f3 false true false false W args v W' := by
 have hW' := hW;obtain ⟨p, q, hA0, hV, rfl, hfz, hnd⟩ := hW;have hA : DataW.TrodAll enc Tryz.prog W 0 (fun _ => true) true [22, 26, 27] args.toList ds p := hA0;obtain ⟨v0, vs0, d0, ds0, p0, q0, hargs, rfl, rfl, h0, r0⟩ := trodAll_cons hA;obtain ⟨v1, vs1, d1, ds1, p1, q1, rfl, rfl, rfl, h1, r1⟩ := trodAll_cons r0;obtain ⟨v2, vs2, d2, ds2, p2', q2, rfl, rfl, rfl, h2, r2⟩ := trodAll_cons r1;obtain ⟨rfl, rfl, rfl⟩ := trodAll_nil r2;obtain rfl : args = #[v0, v1, v2] := by cases args; simp_all
 obtain ⟨rfl, rfl⟩ := trodVars_none hV;have hb : Rows.uptoBulkAll ([d0, d1, d2] ++ []) ≤ 1048576 := of_decide_eq_true hk;have hb0 : Rows.uptoBulk d0 ≤ 1048576 := Nat.le_trans (zdX (by simp)) hb;have hb1 : Rows.uptoBulk d1 ≤ 1048576 := Nat.le_trans (zdX (by simp)) hb;have hb2 : Rows.uptoBulk d2 ≤ 1048576 := Nat.le_trans (zdX (by simp)) hb;have hok0 := ok_sl undTbs (hval 0 _ v0 rfl rfl);have hok2 := ok_sl undMks (hval 2 _ v2 rfl rfl);obtain ⟨f0, hf0⟩ := h0;obtain ⟨f1, hf1⟩ := h1;obtain ⟨f2, hf2⟩ := h2;obtain ⟨u0, u1, lim, rfl, o1, o2, hlen1, hlen2⟩ := zqo (fun _ => rfl) hf1 (hval 1 _ v1 rfl rfl)
 have hv0 : v0.cells.toList = [v0] := by
  cases v0 <;> first | rfl | (simp [Cell.okWide, Cell.ok] at hok0)
 have hv2 : v2.cells.toList = [v2] := by
  cases v2 <;> first | rfl | (simp [Cell.okWide, Cell.ok] at hok2)
 rw [hv0] at hf0;rw [hv2] at hf2;refine (zj0 (bb0_ok hL) (zqm (fun _ => rfl) hf0 hok0) o1 o2 (zqn (fun _ => rfl) hf2 hok2) (fun p k c e => ?_) (fun p k c e => Nat.le_trans (hlen1 p k c e) hb1) (fun p k c e => Nat.le_trans (hlen2 p k c e) hb1) (fun p k c e => ?_)).mono fun e W' ⟨he, hb⟩ => ?_
 ·subst e; exact Nat.le_trans (zd0 undTbs hf0) hb0
 ·subst e; exact Nat.le_trans (zd0 undMks hf2) hb2
 ·exact ⟨_, he, zqA (tb := 4) (by kernel_rfl) rfl (by kernel_rfl) hW' rfl hb rfl (by first | exact Tryz.underlying4 | rfl)⟩
open Go Go.Den Go.ChangeShapes Go.WideShapes Go.ChangeAt Go.RowKit
theorem own0 : ownKnob Tryz.prog.godebug = none := by kernel_rfl
noncomputable def putCs (cs : List Value) : Obj → Obj
 | .cells _ t frozen => .cells ⟨cs⟩ t frozen
 | o => o
noncomputable def laidWorld (os : Os) : World :=
 { World.holding Tryz.prog os ⟨#[], #[], []⟩ with heap := (((World.holding Tryz.prog os ⟨#[], #[], []⟩).heap.modify 2 (putCs cs2)).modify 4 (putCs cs4)).modify 5 (putCs cs5) }
end Go.Proofs.YtlejimjgagfalaaGreatDoor
