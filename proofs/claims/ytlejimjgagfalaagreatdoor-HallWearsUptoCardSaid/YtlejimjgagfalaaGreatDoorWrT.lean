import Derived.Test.YtlejimjgagfalaaGreatDoorGwO
import Derived.Test.YtlejimjgagfalaaGreatDoorHaC
import Derived.Test.YtlejimjgagfalaaGreatDoorQaB
noncomputable section
namespace Go.Proofs.YtlejimjgagfalaaGreatDoor
open Go Go.Den Go.Lib
set_option maxRecDepth 100000
theorem ofS_rt {n d : Int} (hd : d ≠ 0) : ofS n d = rt ((n : Rat) / (d : Rat)) := by
 have hx : (n : Rat) / (d : Rat) = mkRat (sgnN n d) d.natAbs := by
  unfold sgnN;by_cases h : d < 0
  ·rw [if_pos h, Rat.mkRat_eq_div]
   have e : ((d.natAbs : Nat) : Rat) = -(d : Rat) := by
    have : (d.natAbs : Int) = -d := by omega
    rw [← Rat.intCast_natCast, this, Rat.intCast_neg]
   rw [e, Rat.intCast_neg]; grind
  ·rw [if_neg h, Rat.mkRat_eq_div]
   have e : ((d.natAbs : Nat) : Rat) = (d : Rat) := by
    have : (d.natAbs : Int) = d := by omega
    rw [← Rat.intCast_natCast, this]
   rw [e]
 have hd0 : d.natAbs ≠ 0 := by omega
 rw [hx, zp6 _ hd0];unfold ofS;rw [ratS_Q];unfold fT;have hab : (sgnN n d).natAbs = n.natAbs := by unfold sgnN; split <;> omega
 have hg0 : 0 < Nat.gcd n.natAbs d.natAbs := Nat.gcd_pos_of_pos_right _ (by omega)
 have hdvd : ((Nat.gcd n.natAbs d.natAbs : Nat) : Int) ∣ sgnN n d := by
  rw [Int.ofNat_dvd_left, hab]; exact Nat.gcd_dvd_left _ _
 have e1 : (mkN n d).natAbs = n.natAbs / Nat.gcd n.natAbs d.natAbs := by
  unfold mkN mkG;rw [Int.natAbs_ediv_of_dvd hdvd, hab, Int.natAbs_natCast]
 have e2 : (mkD n d).toNat = d.natAbs / Nat.gcd n.natAbs d.natAbs := by
  unfold mkD mkG;rw [← Int.natCast_ediv, Int.toNat_natCast]
 have e3 : decide (mkN n d < 0) = (decide (sgnN n d < 0) && decide (0 < (sgnN n d).natAbs)) := by
  by_cases h : sgnN n d < 0
  ·rw [decide_eq_true h, decide_eq_true (show 0 < (sgnN n d).natAbs by omega)];exact decide_eq_true (Int.ediv_neg_of_neg_of_pos h (by unfold mkG; omega))
  ·rw [decide_eq_false h, Bool.false_and];exact decide_eq_false (by have := Int.ediv_nonneg (a := sgnN n d) (b := mkG n d) (by omega) (by unfold mkG; omega); unfold mkN; omega)
 rw [e1, e2, e3, hab]
theorem ent_all {P : Rat → Prop} (h0 : P 0) {M : Mat} (h : ∀ i (hi : i < M.length), ∀ x ∈ M[i], P x) (i k : Nat) : P (ent M i k) := by
 unfold ent;rcases Nat.lt_or_ge i M.length with hi | hi
 ·rw [List.getElem?_eq_getElem hi];simp only [Option.getD_some];rcases Nat.lt_or_ge k M[i].length with hk | hk
  ·rw [List.getElem?_eq_getElem hk]; exact h i hi _ (List.getElem_mem hk)
  ·rw [List.getElem?_eq_none hk]; exact h0
 ·rw [List.getElem?_eq_none hi]; simp; exact h0
def SmI (x : Rat) : Prop := ∃ N : Int, x = (N : Rat) ∧ N.natAbs ≤ 999999999
theorem zj5 {n : Int} (h : n.natAbs ≤ 999999999) : SmI (n : Rat) := ⟨n, rfl, h⟩
theorem zk1 {ms : List Mk} (g : ∀ m ∈ ms, GoodM m) : ∀ i (hi : i < (rowsM ms).length), ∀ x ∈ (rowsM ms)[i], SmI x := fun i hi x hx => by
 have hi2 : i < ms.length := by simpa [rowsM] using hi
 have gi := g _ (List.getElem_mem hi2);have g1 := gi.x1;have g2 := gi.x2;have g3 := gi.y1;have g4 := gi.y2;simp only [rowsM, List.getElem_map, List.mem_cons, List.not_mem_nil, or_false] at hx;rcases hx with rfl | rfl | rfl
 ·exact zj5 (by omega)
 ·exact zj5 (by omega)
 ·exact ⟨1, rfl, by decide⟩
theorem hsM_sm {ms : List Mk} (g : ∀ m ∈ ms, GoodM m) : ∀ x ∈ hsM ms, SmI x := fun x hx => by
 obtain ⟨m, hm, rfl⟩ := List.mem_map.1 hx;have gi := g _ hm;have g1 := gi.h1;have g2 := gi.h2;exact zj5 (by omega)
theorem zgC (ms : List Mk) : (rowsM ms).length = ms.length := by simp [rowsM]
theorem hsM_len (ms : List Mk) : (hsM ms).length = ms.length := by simp [hsM]
theorem zrM {M : Mat} (h : ∀ i (hi : i < M.length), ∀ x ∈ M[i], SmI x) : BM 999999999 M := bm_of (by decide) fun i k => by
 obtain ⟨N, h1, h2⟩ := ent_all (P := SmI) ⟨0, rfl, by decide⟩ h i k;exact ⟨N, h1, h2⟩
theorem szp3 {ms : List Mk} (g : ∀ m ∈ ms, GoodM m) : SzP 3 (rowsM ms) := zro (by decide) (zcW ms) (zrM (zk1 g)) bK3
theorem szp4 {ms : List Mk} (g : ∀ m ∈ ms, GoodM m) : SzP 4 (wideM (rowsM ms) (hsM ms)) := by
 have hl : (hsM ms).length = (rowsM ms).length := by rw [zgC, hsM_len]
 refine zro (by decide) (zb2 (zcW ms) hl) (zrM fun i hi x hx => ?_) bK4;have hi2 : i < (rowsM ms).length := by rw [zcd hl] at hi; exact hi
 rw [zkQ hl hi2 hi] at hx;rcases List.mem_append.1 hx with h | h
 ·exact zk1 g i hi2 x h
 ·rw [List.mem_singleton.1 h]; exact hsM_sm g _ (List.getElem_mem _)
theorem ziN (a b c : Mk) : det3 (a.x : Rat) a.y b.x b.y c.x c.y = ((detM a b c : Int) : Rat) := by
 unfold det3 detM;simp only [Rat.intCast_sub, Rat.intCast_mul]
theorem rank3 (a b c : Mk) : (pivK (rowsM [a, b, c]) 3).2.length < 3 ↔ detM a b c = 0 := by
 have h1 := zgF (zcW [a, b, c]);have h2 : Triv 3 (rowsM [a, b, c]) ↔ det3 (a.x : Rat) a.y b.x b.y c.x c.y ≠ 0 := triv3;have hl := zdj (rowsM [a, b, c]) 3;rw [ziN] at h2
 have h3 : ((detM a b c : Int) : Rat) ≠ 0 ↔ detM a b c ≠ 0 := by
  rw [show (0 : Rat) = ((0 : Int) : Rat) from rfl];exact not_congr Rat.intCast_inj
 rw [h3] at h2;constructor
 ·intro h;refine Classical.byContradiction fun hn => ?_
  have := h1.1 (h2.2 hn); omega
 ·intro h;rcases Nat.lt_or_eq_of_le hl with h4 | h4
  ·exact h4
  ·exact absurd h (h2.1 (h1.2 h4))
theorem sol_xy {a b c : Mk} (hd : detM a b c ≠ 0) : ∃ z, solL (rowsM [a, b, c]) (hsM [a, b, c]) 3 = [(numX a b c : Rat) / (detM a b c : Rat), (numY a b c : Rat) / (detM a b c : Rat), z] := by
 have hw := zcW [a, b, c];have hl : (hsM [a, b, c]).length = (rowsM [a, b, c]).length := rfl
 have hf : (pivK (rowsM [a, b, c]) 3).2.length = 3 := by
  have := zdj (rowsM [a, b, c]) 3;have : ¬ (pivK (rowsM [a, b, c]) 3).2.length < 3 := fun h => hd ((rank3 a b c).1 h)
  omega
 have ht := (zgF hw).2 hf
 have hst : pivK (wideM (rowsM [a, b, c]) (hsM [a, b, c])) 4 = pivK (wideM (rowsM [a, b, c]) (hsM [a, b, c])) 3 := by
  have h1 := zgm hw hl ht;have hp := (zcg (zb2 hw hl) 3).len;rw [zcd hl, zgC] at hp;exact zcc (M := wideM (rowsM [a, b, c]) (hsM [a, b, c])) (c := 3) (by rw [h1, hp]; rfl) 1
 have hS := (sol_iff hw hl ht (fun i => ent (pivK (wideM (rowsM [a, b, c]) (hsM [a, b, c])) 3).1 i 3)).2 (fun i hi => by
  have hi : i < 3 := by rw [zgC] at hi; exact hi
  rw [if_pos hi])
 have hd3 : det3 (a.x : Rat) a.y b.x b.y c.x c.y ≠ 0 := by
  rw [ziN, show (0 : Rat) = ((0 : Int) : Rat) from rfl];exact fun h => hd (Rat.intCast_inj.1 h)
 have hx := sol3_xy (ah := (a.h : Rat)) (bh := (b.h : Rat)) (ch := (c.h : Rat)) hd3 hS;obtain ⟨x1, x2⟩ := hx;rw [ziN] at x1 x2
 have e1 : ((b.h : Rat) - a.h) * ((c.y : Rat) - a.y) - ((c.h : Rat) - a.h) * ((b.y : Rat) - a.y) = ((numX a b c : Int) : Rat) := by
  unfold numX; simp only [Rat.intCast_sub, Rat.intCast_mul]
 have e2 : ((c.h : Rat) - a.h) * ((b.x : Rat) - a.x) - ((b.h : Rat) - a.h) * ((c.x : Rat) - a.x) = ((numY a b c : Int) : Rat) := by
  unfold numY; simp only [Rat.intCast_sub, Rat.intCast_mul]
 rw [e1] at x1;rw [e2] at x2;refine ⟨ent (pivK (wideM (rowsM [a, b, c]) (hsM [a, b, c])) 3).1 2 3, ?_⟩;rw [← x1, ← x2];unfold solL;rw [hst]; rfl
def slopeW (a b c : Mk) : Value := if detM a b c = 0 then .tuple ⟨[plV [] [], .bool false]⟩ else .tuple ⟨[plV (ofS (numX a b c) (detM a b c)) (ofS (numY a b c) (detM a b c)), .bool true]⟩
set_option maxHeartbeats 16000000 in
theorem zmH {H : AHeap} {a b c : Mk} (ga : GoodM a) (gb : GoodM b) (gc : GoodM c) : Ret Tryz.prog 23 [.agg ⟨m9 a b c⟩] H (slopeW a b c) H := by
 have g : ∀ m ∈ [a, b, c], GoodM m := fun m hm => by
  simp only [List.mem_cons, List.not_mem_nil, or_false] at hm;rcases hm with rfl | rfl | rfl <;> assumption
 have hz3 := szp3 g;have hz4 := szp4 g;have hr3 := rank3 a b c;have hxy := sol_xy (a := a) (b := b) (c := c);have hw := zcW [a, b, c];refine zae Tryz.func23 rfl rfl rfl fun hc => ?_
 refine zst ?_;apply zar;refine zaN zsb (.refl _) (zmz (ms := [a, b, c]) hc rfl g (fun v4 v5 bs L l hK hsub => ?_));apply zaq; exact rfl;refine zef hsub ?_
 obtain ⟨p4, rfl, hg4⟩ : ∃ p, v4 = .slice p 3 3 ∧ ∀ lo, GridAt (ext H lo L) p 3 (rowsM [a, b, c]) := by
  have hC : ClnK H 3 (rowsM [a, b, c]) 3 v4 bs L := ⟨Nat.le_refl _, hK.rows.le (Nat.zero_le _), hK.len, fun j h h2 => by
   obtain ⟨k, e1, e2⟩ := hK.row j h h2;exact ⟨k, e1, false, e2⟩, hK.nodup⟩
  obtain ⟨p, e, hg⟩ := zhi (lo := 0) hC (by show 0 < 3; decide);refine ⟨p, e, fun lo => ?_⟩;obtain ⟨p', e', hg'⟩ := zhi (lo := lo) hC (by show 0 < 3; decide);rw [e] at e';cases e';exact hg'
 obtain ⟨p5, rfl, hs5⟩ : ∃ p, v5 = .slice p 3 3 ∧ ∀ lo, SlAt (ext H lo L) 1 s1q p (hsM [a, b, c]) := by
  have hr := hK.right;rw [show (hsM [a, b, c]).take 3 = hsM [a, b, c] from rfl] at hr;obtain ⟨p, e, hs, _⟩ := hr.slice (lo := 0) (fun _ => rfl);refine ⟨p, e, fun lo => ?_⟩;obtain ⟨p', e', hs', _⟩ := hr.slice (lo := lo) (fun _ => rfl);rw [e] at e';cases e';exact hs'
 have hl1 := hK.l1;have co := fun lo => only_c (H := ext H lo L) (cp := 3) (cq := 3) (hg4 lo) (hs5 lo) rfl hw (by decide) (by decide) rfl hz3 hz4
 clear hK hsub hg4 hs5 hz3 hz4 hw g;unfold onlyV onlyH at co;unfold slopeW;by_cases u : detM a b c = 0
 ·rw [if_pos u];simp only [if_pos (hr3.2 u)] at co;have hlt1 := (List.getElem?_eq_some_iff.1 hl1).1;refine zst ?_;apply zac (ht := rfl); exact co _; exact rfl;refine zst ?_;refine zq10 ?_;apply zaf;refine zam rfl rfl ?_;refine zst ?_;refine zq28 ?_;apply zj7 (hc := by assumption); rotate_left; exact zav rfl rfl (by exact zaa (by assumption)) rfl rfl (zat _); rotate_left; exact (by assumption);refine zst ?_;exact zc6 hc (zcX rfl rfl (zaa (List.getElem?_set_self hlt1)) rfl rfl rfl) rfl ⟨rfl, rfl⟩
 ·rw [if_neg u];simp only [if_neg (fun h => u (hr3.1 h)), zal, za2] at co;obtain ⟨z, hxy⟩ := hxy u;rw [hxy] at co;simp only [ofS_rt u];have hlt1 := (List.getElem?_eq_some_iff.1 hl1).1;refine zst ?_;apply zac (ht := rfl); exact co _; exact rfl;obtain ⟨L1, hL1⟩ : ∃ L1, L1 = L ++ [some (.cells ([(numX a b c : Rat) / (detM a b c : Rat), (numY a b c : Rat) / (detM a b c : Rat), z].map sV) 1 true false)] := ⟨_, rfl⟩
  have f0 : L1[L.length]? = some (some (.cells [sV ((numX a b c : Rat) / (detM a b c : Rat)), sV ((numY a b c : Rat) / (detM a b c : Rat)), sV z] 1 true false)) := by rw [hL1]; exact List.getElem?_concat_length
  have f1 : L1[1]? = some (some (.cells [.string (tx []), .string (tx [])] 0 false false)) := by rw [hL1]; exact getApp hl1
  have hlt2 : 1 < L1.length := (List.getElem?_eq_some_iff.1 f1).1;rw [← hL1];clear hL1 co hl1;refine zst ?_;refine zq10 ?_;apply zaf;refine zah rfl rfl ?_;refine zst ?_;apply zax (by assumption); decide +kernel;refine zq5 ?_;apply zau (hfree := rfl); intro _; exact zaR rfl rfl rfl (by exact rfl); exact rfl;refine zq35 ?_;refine zq5 ?_;apply zau (hfree := rfl); intro _; exact zaR rfl rfl rfl (by exact rfl); exact rfl;refine zq35 ?_;apply zau (hfree := rfl); intro _; exact ze1 rfl rfl rfl rfl; exact rfl;refine zdg (k := 1) (x := .cells [sV ((numX a b c : Rat) / (detM a b c : Rat)), sV ((numY a b c : Rat) / (detM a b c : Rat))] 0 false false) rfl (by decide +kernel) hc hlt2 (zav rfl rfl (zaa f1) rfl rfl (zat _)) (fun L3 l3 o3 k3 => ?_);refine zq14 ?_;apply zaz;apply zaV;simp only [List.map_nil, List.append_nil];exact zc6 hc (zcX rfl rfl (zaa k3) rfl rfl rfl) rfl ⟨rfl, rfl⟩
open Go Go.Den
def hiB (most : Int) (x y : Mk) : Bool := decide (x.h - y.h > most)
def levelB (l : List Mk) (most : Int) : Bool := !(l.any fun x => l.any fun y => hiB most x y)
theorem zoQ {H : AHeap} {x y : Mk} {most : Int} {bx bm zx zm : Nat} {sx rx sm rm : Bool} (gx : GoodM x) (gy : GoodM y) (hx : H.get bx = some (.cells (mk x) zx sx rx)) (hm : H.get bm = some (.cells [I most] zm sm rm)) :
  Ret Tryz.prog 53 [.agg ⟨mk y⟩, .pointer (some ⟨bx, 0, none⟩), .pointer (some ⟨bm, 0, none⟩)] H (.bool (hiB most x y)) H := by
 refine zae Tryz.func53 rfl rfl rfl fun hc => ?_
 have x5 := gx.h1;have x6 := gx.h2;have y5 := gy.h1;have y6 := gy.h2;refine zst ?_;refine zq18 ?_;refine zst ?_;refine zq17 ?_;refine zq27 ?_;refine zq18 ?_;refine zq0 ?_;refine zst ?_;exact zab hc rfl rfl ⟨rfl, rfl⟩
theorem zqz {H : AHeap} {q : Option Addr} {c : Nat} {l : List Mk} {x : Mk} {most : Int} {bs bm zs zm : Nat} {ss rs sm rm : Bool} (hl : SlAt H 3 mk q l) (hn : l.length < 1000000000000) (g : ∀ y ∈ l, GoodM y) (gx : GoodM x) (hs : H.get bs = some (.cells [.slice q l.length c] zs ss rs)) (hm : H.get bm = some (.cells [I most] zm sm rm)) :
  Ret Tryz.prog 52 [.agg ⟨mk x⟩, .pointer (some ⟨bs, 0, none⟩), .pointer (some ⟨bm, 0, none⟩)] H (.bool (l.any fun y => hiB most x y)) H := by
 refine zae Tryz.func52 rfl rfl rfl fun hc => ?_
 refine zst ?_;refine zq18 ?_;apply zad; exact zdq rfl rfl; exact rfl;apply zac (ht := rfl); exact zfR (p := fun y => hiB most x y) (hl.ext (zag hc)) hn fun y hy H' hE => zoQ gx (g y hy) (hE _ _ (zaa rfl)) (hE _ _ (zaj hc hm)); exact rfl
 refine zst ?_;exact zab hc rfl rfl ⟨rfl, rfl⟩
def markE (m : Mk) : Int := if outL m.x (-10000) 10000 || outL m.y (-10000) 10000 || outL m.h (-999999999) 999999999 then 3 else 0
theorem zmV {m : Mk} (h : markE m = 0) : GoodM m := by
 unfold markE at h;split at h
 ·simp at h
 ·rename_i u;unfold outL at u;simp at u;constructor <;> omega
theorem zod {H : AHeap} {m : Mk} : Ret Tryz.prog 54 [.agg ⟨mk m⟩] H (I (markE m)) H := by
 refine zae Tryz.func54 rfl rfl rfl fun hc => ?_
 obtain ⟨A, hA⟩ : ∃ A, A = outL m.x (-10000) 10000 := ⟨_, rfl⟩
 obtain ⟨B, hB⟩ : ∃ B, B = outL m.y (-10000) 10000 := ⟨_, rfl⟩
 obtain ⟨C, hC⟩ : ∃ C, C = outL m.h (-999999999) 999999999 := ⟨_, rfl⟩
 have e : markE m = if A || B || C then 3 else 0 := by rw [hA, hB, hC]; rfl
 rw [e];refine zst ?_;refine zq17 ?_;apply zac (ht := rfl); exact outside24; exact rfl;refine zs1 ?_;rw [← hA];cases A
 ·refine zst ?_;refine zq25 ?_;apply zaW (hg := rfl) (hl := rfl) (ht := rfl); exact outside24; exact rfl;(iterate 2 (refine zs1 ?_));rw [← hB];cases B
  ·refine zst ?_;refine zq25 ?_;apply zaW (hg := rfl) (hl := rfl) (ht := rfl); exact outside24; exact rfl;(iterate 2 (refine zs1 ?_));rw [← hC];cases C
   ·refine zah rfl rfl ?_;refine zst ?_;exact zab hc rfl rfl ⟨rfl, rfl⟩
   ·refine zam rfl rfl ?_;refine zst ?_;exact zab hc rfl rfl ⟨rfl, rfl⟩
  ·refine zst ?_;refine zam rfl rfl ?_;refine zst ?_;exact zab hc rfl rfl ⟨rfl, rfl⟩
 ·refine zst ?_;refine zam rfl rfl ?_;refine zst ?_;exact zab hc rfl rfl ⟨rfl, rfl⟩
theorem zmP {H : AHeap} {q : Option Addr} {c : Nat} {l : List Mk} (hs : SlAt H 3 mk q l) (hn : l.length < 1000000) : Ret Tryz.prog 19 [.slice q l.length c] H (lstV H.fresh l) (lstH H 3 mk l) := by
 refine zae Tryz.func19 rfl rfl rfl fun hc => ?_
 refine zst ?_;apply zar;refine zaA (α := Nat × Value × List (Option ABlk)) (fun a => [(0, .slice q l.length c), (3, a.2.1), (4, I a.1)]) (fun a => ext H H.fresh a.2.2) (fun a => a.1 ≤ l.length ∧ Lst H a.2.2 3 mk 0 a.2.1 (l.take a.1)) (fun a => l.length - a.1) (fun a ha ih => ?_) (0, .slice none 0 0, []) ⟨Nat.zero_le _, .nil⟩ zsb (.refl _);obtain ⟨i, v, L⟩ := a;obtain ⟨hi, hv⟩ := ha;simp only at hi hv ih ⊢;have ih' := fun i' v' L' a1 a2 a3 => ih (i', v', L') a1 ⟨a2, a3⟩
 simp only at ih';clear ih;refine zst ?_;refine zq0 ?_;apply zaf;refine zai rfl (fun u => ?_) (fun u => ?_)
 ·simp only [decide_eq_true_eq, Int.ofNat_lt] at u;obtain ⟨b2, o2, cs2, z2, st2, ro2, rfl, hg2, hw2⟩ := hs.out (by intro e; rw [e] at u; simp at u);have tl : (l.take i).length = i := by rw [List.length_take]; omega
  refine zst ?_;refine zq2 ?_;refine zq15 ?_;refine zq19 ?_;refine zbP (xs := [l[i]]) hc (hv.app _) (Nat.zero_le _) (fun _ => rfl) (fun _ => rfl) rfl rfl rfl rfl rfl rfl (zaa List.getElem?_concat_length) rfl (by simp) ?_ (Nat.ne_of_beq_eq_false rfl) (Nat.ne_of_beq_eq_false rfl) rfl (fun v' L3 hv' hst3 hlen3 => ?_)
  ·exact Nat.le_trans (Nat.mul_le_mul_right _ (by simp only [List.length_cons, List.length_nil]; omega : _ ≤ 3000000000)) (Nat.le_of_ble_eq_true rfl)
  refine zst ?_;refine zq4 ?_;refine zst ?_;refine zbn zsb (ih' (i + 1) v' L3 (by omega) (by omega) ?_);rw [List.take_succ_eq_append_getElem u]; exact hv'
 ·have u : i = l.length := by simp at u; omega
  subst u;rw [List.take_length] at hv;apply zap;apply zaq; exact rfl;refine zst ?_;exact zku hc hv rfl (fun _ => rfl) ⟨rfl, rfl⟩
def marksE (l : List Mk) : Int := if l.length > 256 then 5 else firstL (l.map markE)
theorem zfi {H : AHeap} {q : Option Addr} {c : Nat} {l : List Mk} (hs : SlAt H 3 mk q l) (hn : l.length < 1000000) : Ret Tryz.prog 18 [.slice q l.length c] H (I (marksE l)) H := by
 refine zae Tryz.func18 rfl rfl rfl fun hc => ?_
 refine zst ?_;refine zq0 ?_;apply zaf;refine zai rfl (fun u => ?_) (fun u => ?_)
 ·simp only [decide_eq_true_eq] at u;refine zst ?_;refine zab hc rfl rfl ⟨?_, rfl⟩;rw [show marksE l = 5 from if_pos (by omega)]; rfl
 ·simp only [decide_eq_false_iff_not] at u;rw [show marksE l = firstL (l.map markE) from if_neg (by omega)];refine zst ?_;apply zar;refine zaA (α := Nat × List (Option ABlk)) (fun a => [(0, .slice q l.length c), (3, I a.1)]) (fun a => ext H H.fresh a.2) (fun a => a.1 ≤ l.length ∧ ∀ j (h : j < l.length), j < a.1 → markE l[j] = 0) (fun a => l.length - a.1) (fun a ha ih => ?_) (0, []) ⟨Nat.zero_le _, by intros; omega⟩ zsb (.refl _);obtain ⟨i, L⟩ := a;obtain ⟨hi, hz⟩ := ha;simp only at hi hz ih ⊢;have ih' := fun i' L' a1 a2 a3 => ih (i', L') a1 ⟨a2, a3⟩
  simp only at ih';clear ih;refine zst ?_;refine zq0 ?_;apply zaf;refine zai rfl (fun v => ?_) (fun v => ?_)
  ·simp only [decide_eq_true_eq, Int.ofNat_lt] at v;obtain ⟨b2, o2, cs2, z2, st2, ro2, rfl, hg2, hw2⟩ := hs.out (by intro e; rw [e] at v; simp at v);refine zst ?_;refine zq2 ?_;refine zq15 ?_;apply zac (ht := rfl); exact zod; exact rfl;refine zst ?_;refine zq0 ?_;apply zaf;refine zai rfl (fun w => ?_) (fun w => ?_)
   ·have w : markE l[i] ≠ 0 := by simpa using w
    refine zst ?_;refine zab hc rfl rfl ⟨?_, rfl⟩;have := zdM (l := l.map markE) (i := i) (by simpa using v) (fun j hj hji => by simp only [List.getElem_map]; exact hz j (by simpa using hj) hji) (by simpa using w);rw [this]; simp only [List.getElem_map]; rfl
   ·have w : markE l[i] = 0 := by simpa using w
    refine zst ?_;refine zq4 ?_;refine zst ?_;refine zbn zsb (ih' (i + 1) _ (by omega) (by omega) fun j hj hji => ?_);rcases Nat.lt_or_ge j i with h | h
    ·exact hz j hj h
    ·have : j = i := by omega
     subst this; exact w
  ·have v : i = l.length := by simp at v; omega
   subst v;apply zap;apply zaq; exact rfl;refine zst ?_;refine zab hc rfl rfl ⟨?_, rfl⟩;rw [zcD fun j hj => by simp only [List.getElem_map]; exact hz j (by simpa using hj) (by simpa using hj)]; rfl
theorem zd4 {l : List Mk} (h : marksE l = 0) : l.length ≤ 256 ∧ ∀ x ∈ l, GoodM x := by
 unfold marksE at h;split at h
 ·simp at h
 ·exact ⟨by omega, fun x hx => zmV (za4 h _ (List.mem_map.2 ⟨x, hx, rfl⟩))⟩
theorem hi_bd {l : List Mk} (g : ∀ x ∈ l, GoodM x) {i : Nat} (h : i < l.length) : -999999999 ≤ l[i].h ∧ l[i].h ≤ 999999999 := ⟨(g _ (List.getElem_mem h)).h1, (g _ (List.getElem_mem h)).h2⟩
theorem zhC {H : AHeap} {q : Option Addr} {c : Nat} {l : List Mk} {most : Int} (hs : SlAt H 3 mk q l) (hn : l.length < 1000000) (g : ∀ x ∈ l, GoodM x) : Ret Tryz.prog 21 [.slice q l.length c, I most] H (.bool (levelB l most)) H := by
 refine zae Tryz.func21 rfl rfl rfl fun hc => ?_
 refine zst ?_;apply zar;refine zcG (fun i => [(0, .slice q l.length c), (1, I most), (5, I i)]) (fun i => ∀ j (h : j < l.length), j < i → (l.any fun y => hiB most l[j] y) = false) l.length (fun i hi hz ih => ?_) 0 (Nat.zero_le _) (by intros; omega) zsb;refine zst ?_;refine zq0 ?_;apply zaf;refine zai rfl (fun v => ?_) (fun v => ?_)
 ·simp only [decide_eq_true_eq, Int.ofNat_lt] at v;have b1 := hi_bd g v;refine zst ?_;apply zar;refine zcG (fun k => [(0, .slice q l.length c), (1, I most), (5, I i), (6, I k)]) (fun k => ∀ j (h : j < l.length), j < k → hiB most l[i] l[j] = false) l.length (fun k hk hz2 ih2 => ?_) 0 (Nat.zero_le _) (by intros; omega) zsb;refine zst ?_;refine zq0 ?_;apply zaf;refine zai rfl (fun w => ?_) (fun w => ?_)
  ·simp only [decide_eq_true_eq, Int.ofNat_lt] at w;have b2 := hi_bd g w;obtain ⟨bb, oo, cs2, z2, st2, ro2, rfl, hg2, hw2⟩ := hs.out (by intro e; rw [e] at v; simp at v);refine zst ?_;apply zax (by assumption); decide +kernel;(iterate 2 (refine zq5 ?_));refine zq6 ?_;refine zq12 ?_;refine zq24 ?_;(iterate 2 (refine zq5 ?_));refine zq6 ?_;refine zq12 ?_;refine zq24 ?_;refine zq30 ?_;refine zq5 ?_;refine zq8 ?_;apply zaz;refine zai rfl (fun y => ?_) (fun y => ?_)
   ·have y : hiB most l[i] l[k] = true := y;refine zst ?_;refine zab hc rfl rfl ⟨?_, rfl⟩
    have : levelB l most = false := by
     unfold levelB;have h1 : (l.any fun x => l.any fun y => hiB most x y) = true := List.any_eq_true.2 ⟨l[i], List.getElem_mem v, List.any_eq_true.2 ⟨l[k], List.getElem_mem w, y⟩⟩;rw [h1]; rfl
    rw [this]; rfl
   ·have y : hiB most l[i] l[k] = false := y;refine zst ?_;refine zq4 ?_;refine zst ?_;refine zbn zsb (ih2 (k + 1) (by omega) (by omega) fun j hj hjk => ?_);rcases Nat.lt_or_ge j k with h | h
    ·exact hz2 j hj h
    ·have : j = k := by omega
     subst this; exact y
  ·have w : k = l.length := by simp at w; omega
   subst w;apply zap;apply zaq; exact rfl;refine zst ?_;refine zq4 ?_;refine zst ?_;refine zbn zsb (ih (i + 1) (by omega) (by omega) fun j hj hji => ?_);rcases Nat.lt_or_ge j i with h | h
   ·exact hz j hj h
   ·have : j = i := by omega
    subst this;rw [Bool.eq_false_iff];intro h3;obtain ⟨y, hy, h4⟩ := List.any_eq_true.1 h3;obtain ⟨m, hm, rfl⟩ := List.getElem_of_mem hy;rw [hz2 m hm hm] at h4; cases h4
 ·have v : i = l.length := by simp at v; omega
  subst v;apply zap;apply zaq; exact rfl;refine zst ?_;refine zab hc rfl rfl ⟨?_, rfl⟩
  have : levelB l most = true := by
   unfold levelB;rw [Bool.not_eq_true', Bool.eq_false_iff];intro h3;obtain ⟨y, hy, h4⟩ := List.any_eq_true.1 h3;obtain ⟨m, hm, rfl⟩ := List.getElem_of_mem hy;rw [hz m hm hm] at h4; cases h4
  rw [this]; rfl
theorem zn8 {α : Type} {f : α → Int} {l : List α} : restG (fun _ x => f x) l = firstL (l.map f) := by
 unfold restG
 congr 1
 refine List.ext_getElem (by simp) fun i h1 h2 => ?_
 simp only [List.getElem_map, List.getElem_range];exact zbU (by simpa using h2)
theorem zju {H : AHeap} {q : Option Addr} {n c : Nat} {m : Mk} : Ret Tryz.prog 50 [.agg ⟨mk m⟩, .slice q n c] H (I (markE m)) H := by
 refine zae Tryz.func50 rfl rfl rfl fun hc => ?_
 have e : markE m = firstL [whenL (outL m.x (-10000) 10000) 3, whenL (outL m.y (-10000) 10000) 3, whenL (outL m.h (-999999999) 999999999) 3] := by
  unfold markE;cases outL m.x (-10000) 10000 <;> cases outL m.y (-10000) 10000 <;> cases outL m.h (-999999999) 999999999 <;> rfl
 rw [e];refine zst ?_;apply zax (by assumption); decide +kernel;(iterate 2 (refine zq12 ?_));refine zq13 ?_;apply zaC (ht := rfl); exact within89; exact rfl;(iterate 2 (refine zq12 ?_));refine zq13 ?_;apply zaC (ht := rfl); exact within89; exact rfl;refine zq12 ?_;refine zq13 ?_;apply zaC (ht := rfl); exact within89; exact rfl;apply zcf (hfree := rfl); exact zaM rfl rfl rfl rfl rfl rfl rfl; exact rfl;apply zbc (ht := rfl) (hw := rfl); decide +kernel; exact first84 (l := [_, _, _]) (zaB (zaa rfl)) (by simp); exact rfl;refine zq14 ?_;apply zaz;apply zaV;exact zab hc rfl rfl ⟨rfl, rfl⟩
theorem zfP {H : AHeap} {q : Option Addr} {c : Nat} {l : List Mk} {most : Nat} (hs : SlAt H 3 mk q l) (hlow : LowS q c l.length) (hm : l.length < 1000000000000) :
  Ret Tryz.prog 49 [.slice q l.length c, I most, .func (.func 50) #[] ⟨[]⟩] H (I (if l.length > most then 5 else firstL (l.map markE))) H := by
 have h := zlA (g := 50) (caps := []) (most := most) (err := fun _ x => markE x) hs hlow hm fun i hi H' hE => zju (H := H') (q := q) (n := i) (c := c)
 rw [zn8] at h;exact h
def levE (l : List Mk) (most : Int) : Int := firstL [marksE l, whenL (outL most 0 999999999) 3]
def levV (l : List Mk) (most : Int) : Bool := if levE l most ≠ 0 then false else levelB l most
theorem zqy {H : AHeap} {q : Option Addr} {c : Nat} {l : List Mk} {most : Int} (hl : SlAt H 3 mk q l) (hlow : LowS q c l.length) (hn : l.length < 1000000) :
  Ret Tryz.prog 17 [.slice q l.length c, I most] H (.tuple ⟨[.bool (levV l most), I (levE l most)]⟩) H := by
 refine zae Tryz.func17 rfl rfl rfl fun hc => ?_
 have hx := fun lo L => zfP (H := ext H lo L) (most := 256) (hl.ext (zag hc)) hlow (by omega)
 refine zst ?_;apply zax (by assumption); decide +kernel;refine zq13 ?_;apply zaC (ht := rfl); exact hx _ _; exact rfl;refine zq13 ?_;apply zaC (ht := rfl); exact within89; exact rfl;apply zcf (hfree := rfl); exact zaM rfl rfl rfl rfl rfl rfl rfl; exact rfl;apply zbc (ht := rfl) (hw := rfl); decide +kernel; exact first84 (l := [_, _]) (zaB (zaa rfl)) (by simp); exact rfl;refine zq14 ?_;apply zaz;refine zst ?_;refine zq0 ?_;apply zaf;refine zai rfl (fun u => ?_) (fun u => ?_)
 ·have u : levE l most ≠ 0 := by unfold levE marksE; simpa using u
  rw [show levV l most = false from if_pos u];refine zst ?_;exact zab hc rfl rfl ⟨rfl, rfl⟩
 ·have u : levE l most = 0 := by unfold levE marksE; simpa using u
  rw [show levV l most = levelB l most from if_neg (by rw [u]; simp), u];have g := (zd4 (za4 u (marksE l) (by simp))).2;refine zst ?_;refine zq17 ?_;apply zad; exact zdq rfl rfl; exact rfl;apply zac (ht := rfl); exact zfR (p := fun x => l.any fun y => hiB most x y) (hl.ext (zag hc)) (by omega) fun x hx H' hE => zqz (hl.ext ((zag hc).trans hE)) (by omega) g (g x hx) (hE _ _ (zaa rfl)) (hE _ _ (zaa rfl)); exact rfl
  refine zq10 ?_;refine zst ?_;exact zab hc rfl rfl ⟨rfl, rfl⟩
def slopE (a b c : Mk) : Int := marksE [a, b, c]
def slopeG (a b c : Mk) : Value := if slopE a b c ≠ 0 then .tuple ⟨[plV [] [], I (slopE a b c)]⟩ else slopeV a b c
theorem zpW {H : AHeap} {a b c : Mk} (hG : Glo B0 H) : Ret Tryz.prog 22 [.agg ⟨m9 a b c⟩] H (slopeG a b c) H := by
 by_cases u : slopE a b c = 0
 ·rw [show slopeG a b c = slopeV a b c from if_neg (by rw [u]; simp)];have g := (zd4 u).2;exact slope_c hG (g a (by simp)) (g b (by simp)) (g c (by simp))
 ·rw [show slopeG a b c = _ from if_pos u];refine zae Tryz.func22 rfl rfl rfl fun hc => ?_
  have hx : ∀ lo L, L[0]? = some (some (.cells (m9 a b c) 0 false false)) → Ret Tryz.prog 49 [.slice (some ⟨nb H 0, 0, none⟩) 3 3, I 3, .func (.func 50) #[] ⟨[]⟩] (ext H lo L) (I (slopE a b c)) (ext H lo L) := fun lo L h0 => by
   have := zfP (H := ext H lo L) (q := some ⟨nb H 0, 0, none⟩) (c := 3) (l := [a, b, c]) (most := 3) (zbs zgR (zaa (by exact h0))) ⟨Nat.le_refl _, (fun e => by cases e), (fun _ e => by cases e; rfl)⟩ (by simp);exact this
  refine zst ?_;apply zad; exact zep rfl rfl rfl; exact rfl;apply zac (ht := rfl); exact hx _ _ rfl; exact rfl;refine zst ?_;refine zq0 ?_;apply zaf;refine zam rfl (by simpa using u) ?_;refine zst ?_;refine zq28 ?_;refine zst ?_;refine zq32 ?_;refine zst ?_;exact zc6 hc (zcX rfl rfl (zaa rfl) rfl rfl rfl) rfl ⟨rfl, rfl⟩
theorem ziC {H : AHeap} {q : Option Addr} {c : Nat} {l : List Int} (hs : SlAt H 1 i1 q l) (hn : l.length < 1000000000000) :
  Ret Tryz.prog 11 [.slice q l.length c] H (I (firstL l)) H := by
 refine zae Tryz.func11 rfl rfl rfl fun hc => ?_
 refine zst ?_;apply zar;refine zcG (fun i => [(0, .slice q l.length c), (3, I i)]) (fun i => ∀ j (hj : j < l.length), j < i → l[j] = 0) l.length (fun i hi hJ ih => ?_) 0 (by omega) (by intros; omega) zsb;refine zst ?_;refine zq0 ?_;apply zaf;refine zai rfl (fun hb => ?_) (fun hb => ?_)
 ·simp only [decide_eq_true_eq, Int.ofNat_lt] at hb;obtain ⟨b, o, cs, z, s, ro, rfl, hg, hw⟩ := hs.out (by intro e; rw [e] at hb; simp at hb);refine zst ?_;refine zq2 ?_;refine zq3 ?_;refine zq0 ?_;apply zaf;refine zai rfl (fun h2 => ?_) (fun h2 => ?_)
  ·refine zst ?_;refine zq2 ?_;refine zq3 ?_;refine zst ?_;refine zab hc rfl rfl ⟨?_, rfl⟩;rw [zdM hb hJ (by simpa using h2)]; rfl
  ·refine zst ?_;refine zq4 ?_;refine zst ?_;refine zbn ?_ (ih (i + 1) (by omega) (by omega) fun j hj hji => ?_)
   ·(repeat (first | exact zbi | apply za0 rfl))
   ·rcases Nat.lt_or_ge j i with h | h
    ·exact hJ j hj h
    ·have : j = i := by omega
     subst this; simpa using h2
 ·simp only [decide_eq_false_iff_not, Int.ofNat_lt] at hb;apply zap;apply zaq; exact rfl;refine zst ?_;refine zab hc rfl rfl ⟨?_, rfl⟩;rw [zcD fun j hj => hJ j hj (by omega)]; rfl
theorem zh8 {H : AHeap} {b : Bool} {e : Int} : Ret Tryz.prog 12 [.bool b, I e] H (I (whenL b e)) H := by
 refine zae Tryz.func12 rfl rfl rfl fun hc => ?_
 refine zst ?_;refine zai rfl (fun h => ?_) (fun h => ?_)
 ·have h : b = true := h;subst h;refine zst ?_;exact zab hc rfl rfl ⟨rfl, rfl⟩
 ·have h : b = false := h;subst h;refine zst ?_;exact zab hc rfl rfl ⟨rfl, rfl⟩
noncomputable def wearC16 : Code := sndK (sndK (sndK (sndK (sndK (sndK (sndK (sndK (sndK (sndK (sndK (Tryz.f3.body.getD .skip)))))))))))
noncomputable abbrev wNt : Nat := Tryz.f3.ntmps
theorem tyPl : ∃ ti f0 f1, (ctxOf Tryz.prog).ty.get 55 = some ti ∧ ti.und = .struct #[f0, f1] ∧ (f0.name == "_") = false ∧ (f1.name == "_") = false ∧ f0.type = 53 ∧ f1.type = 53 ∧ f0.offset = 0 ∧ f1.offset = 1 :=
 ⟨_, _, _, zbJ rfl, rfl, rfl, rfl, rfl, rfl, rfl, rfl⟩
theorem tyRat : ∃ ti, (ctxOf Tryz.prog).ty.get 53 = some ti ∧ ti.und = .string ∧ ti.size = 1 ∧ isAggD ti.und = false := ⟨_, zbJ rfl, rfl, rfl, rfl⟩
theorem heldPl : Tryz.prog.stoodInHeld 55 = false := by decide +kernel
theorem guardPl : Tryz.prog.eqGuardType Tryz.prog.depth 55 = false := by decide +kernel
theorem eqVPl (a b : ByteArray) : eqV Tryz.prog (ctxOf Tryz.prog) 20 55 (.agg ⟨[.string a, .string b]⟩) (.agg ⟨[.string a, .string b]⟩) = some true := by
 obtain ⟨ti, f0, f1, h1, h2, n0, n1, t0, t1, o0, o1⟩ := tyPl;obtain ⟨si, s1, s2, s3, s4⟩ := tyRat
 have two : ∀ a b : ByteArray, eqV Tryz.prog (ctxOf Tryz.prog) 19 53 (.string a) (.string b) = some (byteL a.data.toList b.data.toList) := by
  intro a b;simp only [eqV, s1, s2]
 have p' : ∀ (xs : List Value) (k : Nat) (v : Value), xs[k]? = some v → partA si xs k = some v := by
  intro xs k v hv;simp [partA, s4, hv]
 rw [eqV];simp only [h1, h2, heldPl, Bool.false_eq_true, if_false];simp only [eqFs, n0, n1, t0, t1, o0, o1, s1, Bool.false_eq_true, if_false];rw [p' _ 0 (.string a) rfl, p' _ 1 (.string b) rfl];have e : ∀ x : ByteArray, byteL x.data.toList x.data.toList = true := fun x => by rw [zba]; simp
 simp only [two, e]
theorem eqAPl (a b : ByteArray) : eqA Tryz.prog (ctxOf Tryz.prog) 55 (.agg ⟨[.string a, .string b]⟩) (.agg ⟨[.string a, .string b]⟩) = some true := by
 obtain ⟨ti, f0, f1, h1, h2, _⟩ := tyPl;unfold eqA;simp only [h1, h2, guardPl, eqVPl];simp [flatC]
noncomputable def wearC20 : Code := sndK (sndK (sndK wearC16))
set_option maxHeartbeats 16000000 in
theorem zoP {H h : AHeap} {lo cm : Nat} {qm : Option Addr} {m : List Mk} {Qn : St → Prop} {Qe : Nat → St → Prop} (hc : Closed H) (hc' : Closed h) (hE : Ext H h) (hG : Glo B0 h) (hm : SlAt h 3 mk qm m) (hn : m.length ≤ 259) :
  CT Tryz.prog none wNt wearC20 ⟨ofA [(2, .slice qm m.length cm)], [], ext h lo []⟩ Qn Qe (Go.Den.Fin Tryz.prog Tryz.f3.results H (fun u k => u = .bool true ∧ k = H)) := by
 refine zst ?_;refine zq0 ?_;apply zaf;refine zai rfl (fun v => ?_) (fun v => ?_)
 ·refine zst ?_;exact zdO hc hc' hE rfl rfl ⟨rfl, rfl⟩
 have v : decide ((m.length : Int) < 3) = false := v;simp only [decide_eq_false_iff_not] at v
 match m, hm, hn, v with
 | [], _, _, v => exact absurd v (by simp)
 | [_], _, _, v => exact absurd v (by simp)
 | [_, _], _, _, v => exact absurd v (by simp)
 | a :: b :: c :: r, hm, hn, v =>
  obtain ⟨b1, o, cs, z, s, ro, rfl, hg, hw⟩ := hm.out (by simp);have ca := fun lo L => zpW (H := ext h lo L) (a := a) (b := b) (c := c) (Glo.ext hG)
  have cr := fun lo (L : List (Option ABlk)) (b1 : Nat) (cc : Nat) (hs : SlAt (ext h lo L) 3 mk (some ⟨b1, 0, none⟩) [a, b, c]) => zfi (c := cc) hs (by simp)
  obtain ⟨x, y, e, x2, y2, f, e1, e2, f0, f1⟩ : ∃ x y e x2 y2 f, slopeG a b c = .tuple ⟨[plV x y, I e]⟩ ∧ slopeW a b c = .tuple ⟨[plV x2 y2, .bool f]⟩ ∧ (marksE [a, b, c] ≠ 0 → x = [] ∧ y = [] ∧ e = marksE [a, b, c]) ∧ (marksE [a, b, c] = 0 → x = x2 ∧ y = y2 ∧ e = whenL (!f) 14) := by
   by_cases u : slopE a b c = 0
   ·rw [show slopeG a b c = slopeV a b c from if_neg (by rw [u]; simp)];by_cases d : detM a b c = 0
    ·exact ⟨_, _, _, _, _, _, if_pos d, if_pos d, fun k => absurd u k, fun _ => ⟨rfl, rfl, rfl⟩⟩
    ·exact ⟨_, _, _, _, _, _, if_neg d, if_neg d, fun k => absurd u k, fun _ => ⟨rfl, rfl, rfl⟩⟩
   ·by_cases d : detM a b c = 0
    ·exact ⟨_, _, _, _, _, _, if_pos u, if_pos d, fun _ => ⟨rfl, rfl, rfl⟩, fun k => absurd k u⟩
    ·exact ⟨_, _, _, _, _, _, if_pos u, if_neg d, fun _ => ⟨rfl, rfl, rfl⟩, fun k => absurd k u⟩
  have rs : marksE [a, b, c] = 0 → ∀ lo L, Ret Tryz.prog 23 [.agg ⟨m9 a b c⟩] (ext h lo L) (slopeW a b c) (ext h lo L) := fun u lo L => by
   have g := (zd4 u).2;exact zmH (g a (by simp)) (g b (by simp)) (g c (by simp))
  rw [e1] at ca;rw [e2] at rs;clear e1 e2 hn;refine zst ?_;apply zax (by assumption); decide +kernel;refine zq5 ?_;refine zq47 ?_;refine zq48 ?_;refine zq5 ?_;refine zq47 ?_;refine zq48 ?_;refine zq5 ?_;refine zq47 ?_;refine zq48 ?_;apply zau (hfree := rfl); intro _; exact ze1 rfl rfl rfl rfl; exact rfl;apply zaC (ht := rfl); exact ca _ _; exact rfl;refine zq5 ?_;(iterate 2 (apply zau (hfree := rfl); intro _; exact zd7 rfl rfl; exact rfl));apply zj9 (hfree := rfl); exact zgj rfl rfl; exact rfl;refine zcV (k := 0) rfl (by decide +kernel) hc' (by simp) (zav rfl rfl (zaa rfl) rfl rfl (zat _)) ?_;refine zq14 ?_;apply zaz;apply zcj;apply zax (by assumption); decide +kernel;refine zq5 ?_;refine zq47 ?_;refine zq48 ?_;refine zq5 ?_;refine zq47 ?_;refine zq48 ?_;refine zq5 ?_;refine zq47 ?_;refine zq48 ?_;apply zau (hfree := rfl); intro _; exact ze1 rfl rfl rfl rfl; exact rfl;apply zj9 (hfree := rfl); exact zgj rfl rfl; exact rfl;refine zcV (k := 1) rfl (by decide +kernel) hc' (by simp) (zav rfl rfl (zaa rfl) rfl rfl (zat _)) ?_;apply zaz;refine zcH (l' := [(18, .pointer (some ⟨nb h 0, 0, none⟩)), (19, I e), (20, .pointer (some ⟨nb h 1, 0, none⟩))]) (h' := ext h lo [some (.cells [.string (tx x), .string (tx y)] 0 false false), some (.cells (m9 a b c) 0 false false)]) zsb (.refl _) ?_;clear ca;refine zst ?_;apply zad; exact zep rfl rfl rfl; exact rfl;apply zac (ht := rfl); exact cr _ _ _ _ (zbs (z := 0) (s := false) (ro := false) zgR (zaa rfl)); exact rfl;refine zst ?_;refine zq0 ?_;apply zaf;clear cr;refine zai rfl (fun u => ?_) (fun u => ?_)
  ·have u : marksE [a, b, c] = 0 := by have u : (marksE [a, b, c] == 0) = true := u; simpa using u
   have rs := rs u;obtain ⟨rfl, rfl, rfl⟩ := f1 u;clear f0 f1;refine zst ?_;refine zq17 ?_;apply zac (ht := rfl); exact rs _ _; exact rfl;refine zst ?_;refine zq32 ?_;refine zst ?_;refine zq10 ?_;apply zac (ht := rfl); exact zh8; exact rfl;refine zst ?_;(iterate 2 (refine zq17 ?_));apply zad; exact zdU rfl rfl trivial (eqAPl _ _); exact rfl;refine zst ?_;refine zq1 ?_;refine zst ?_;exact zdO hc hc' hE rfl rfl ⟨by simp; rfl, rfl⟩
  ·have u : marksE [a, b, c] ≠ 0 := by have u : (marksE [a, b, c] == 0) = false := u; simpa using u
   obtain ⟨rfl, rfl, rfl⟩ := f0 u;clear f0 f1 rs;refine zst ?_;(iterate 2 (refine zq17 ?_));apply zad; exact zdU rfl rfl trivial (eqAPl _ _); exact rfl;refine zst ?_;refine zq1 ?_;refine zst ?_;exact zdO hc hc' hE rfl rfl ⟨by simp; rfl, rfl⟩
theorem zf1 {H : AHeap} {h want : Bool} {e bad : Int} : Ret Tryz.prog 20 [.bool h, I e, I bad, .bool want] H (.bool (truthB h e bad want)) H := by
 refine zae Tryz.func20 rfl rfl rfl fun hc => ?_
 unfold truthB;refine zst ?_;refine zq0 ?_;apply zaf;refine zai rfl (fun h1 => ?_) (fun h1 => ?_)
 ·have h1 : bad ≠ 0 := by simpa using h1
  rw [if_pos h1];refine zst ?_;refine zq10 ?_;refine zst ?_;refine zan rfl rfl (fun u => ?_) (fun u => ?_)
  ·have u : (!h) = true := u;refine zst ?_;refine zq1 ?_;refine zst ?_;refine zab hc rfl rfl ⟨?_, rfl⟩;rw [u]; rfl
  ·have u : (!h) = false := u;refine zst ?_;refine zab hc rfl rfl ⟨?_, rfl⟩;rw [u]; rfl
 ·have h1 : ¬ bad ≠ 0 := by simpa using h1
  rw [if_neg h1];refine zst ?_;refine zq0 ?_;refine zst ?_;refine zan rfl rfl (fun u => ?_) (fun u => ?_)
  ·have u : (e == 0) = true := u;refine zst ?_;apply zay (hd := rfl) (hl := rfl); exact zdU rfl rfl trivial rfl; exact rfl;refine zst ?_;refine zab hc rfl rfl ⟨?_, rfl⟩;rw [u]; rfl
  ·have u : (e == 0) = false := u;refine zst ?_;refine zab hc rfl rfl ⟨?_, rfl⟩;rw [u]; rfl
end Go.Proofs.YtlejimjgagfalaaGreatDoor
