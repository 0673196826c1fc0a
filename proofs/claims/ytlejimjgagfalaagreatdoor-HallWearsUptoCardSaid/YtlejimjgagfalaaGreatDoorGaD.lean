import Derived.Test.YtlejimjgagfalaaGreatDoorQnC
import Derived.Test.YtlejimjgagfalaaGreatDoorStA
import Derived.Test.YtlejimjgagfalaaGreatDoorOpA
import Derived.Test.YtlejimjgagfalaaGreatDoorGwC
noncomputable section
namespace Go.Proofs.YtlejimjgagfalaaGreatDoor
open Go Go.Den Go.Lib
set_option maxRecDepth 100000
theorem zqw {α : Type} {H H' : AHeap} {L : List (Option ABlk)} {m k0 : Nat} {f : α → List Value} {v : Value} {l : List α} (h : Lst H L m f k0 v l) (e : H'.next = H.next) : Lst H' L m f k0 v l := by
 have en : ∀ k, nb H' k = nb H k := fun k => by simp only [nb, e]
 refine ⟨h.out.imp id fun ⟨h1, k, h2, h3, h4⟩ => ⟨h1, k, h2, by rw [en]; exact h3, h4⟩⟩
theorem znT {bs : List Nat} {n j b : Nat} (h : j < bs.length) : stl 1 (bs.map (rwU n)) (0 + j * 1) (rwU n b) = some ((bs.set j b).map (rwU n)) := zbj (g := rwU n) (v := b) h rfl rfl
theorem RSz.inv {k : Nat} {x : Rat} (h : RSz k x) (hx : x ≠ 0) : RSz k x⁻¹ := by
 have h0 : x.num ≠ 0 := fun e => hx (Rat.num_eq_zero.1 e)
 constructor
 ·rw [Rat.num_inv, Int.natAbs_mul, Int.natAbs_sign_of_ne_zero h0, Nat.one_mul, Int.natAbs_natCast]; exact h.d
 ·rw [Rat.den_inv, if_neg h0]; exact h.n
theorem MatK.same {H h h' : AHeap} {K n : Nat} {bs : List Nat} {M : Mat} (h1 : MatK H h K bs n M) (hg : ∀ b, h'.get b = h.get b) (hn : h'.next = h.next) (hc : Closed h') : MatK H h' K bs n M := by
 have hf : h'.fresh = h.fresh := by simp only [AHeap.fresh, hn]
 refine ⟨hc, fun b x hx => by rw [hg]; exact h1.ext b x hx, ⟨h1.rows.len, h1.rows.wide, ?_, fun i a b => ?_, h1.rows.nodup, h1.rows.off⟩, h1.k0, by rw [hf]; exact h1.k1, h1.k2, fun b hb => by rw [hf]; exact h1.b0 b hb⟩
 ·obtain ⟨z, s, e⟩ := h1.rows.top; exact ⟨z, s, by rw [hg]; exact e⟩
 ·obtain ⟨z, s, e⟩ := h1.rows.row i a b; exact ⟨z, s, by rw [hg]; exact e⟩
noncomputable abbrev pNt : Nat := Tryz.f142.ntmps
set_option maxHeartbeats 8000000 in
theorem piv_w {H h : AHeap} {lo K n r c i : Nat} {L : List (Option ABlk)} {bs : List Nat} {M : Mat} {v4 : Value} {Qn : St → Prop} {Qe : Nat → St → Prop} {Qr : St → Prop} {cols : List Int} (hcl : Closed H) (h1 : MatK H h K bs n M) (hr : r < M.length) (hi : i < M.length) (hc : c < n) (hm : M.length ≤ 1000) (hn : n ≤ 1000)
  (hv4 : Lst h L 1 i1 0 v4 cols) (hcn : cols.length = r) (hne : ent M i c ≠ 0)
  (hs1 : ∀ a k, RSz 100 (ent M a k)) (hs2 : ∀ a k, RSz 100 (ent (scaleM (swapM M i r) r (ent (swapM M i r) r c)⁻¹) a k)) (hs3 : ∀ a k, RSz 100 (ent (scaleM (swapM M i r) r (ent (swapM M i r) r c)⁻¹) a c * ent (scaleM (swapM M i r) r (ent (swapM M i r) r c)⁻¹) r k))
  (hk : ∀ h' lo' L' v' bs' l, h'.next = h.next → MatK H h' K bs' n (pivS M r c i) → Lst h' L' 1 i1 0 v' (cols ++ [(c : Int)]) → Sub [(0, matV K M.length), (4, v'), (5, I c)] l → Qn ⟨ofA l, [], ext h' lo' L'⟩) :
  CT Tryz.prog none pNt pR10 ⟨ofA [(0, matV K M.length), (4, v4), (5, I c), (6, I i)], [], ext h lo L⟩ Qn Qe Qr := by
 have hbl := h1.rows.len;have hcl1 := h1.clo;have hi2 : i < bs.length := by omega
 have hr2 : r < bs.length := by omega
 obtain ⟨z, s, hg⟩ := h1.rows.top;obtain ⟨p4, rfl, hp4, _⟩ := hv4.slice (lo := lo) (fun _ => rfl);rw [hcn];have hSw := h1.swap hcl hi hr hi2 hr2 (z := z) (s := s);refine zst ?_;apply zax (by assumption); decide +kernel;(iterate 6 (refine zq5 ?_));refine zq6 ?_;refine zq46 ?_;(iterate 2 (refine zq5 ?_));refine zq6 ?_;refine zq46 ?_;refine zq6 ?_;refine zf5 (b := K) (x := .cells ((bs.set i bs[r]).map (rwU n)) z s false) rfl (by decide +kernel) hcl1 h1.k0 h1.k1 (zav rfl rfl (zaj hcl1 hg) rfl (znT hi2) h1.k0) ?_;have hcl2 := zc9 hcl1 h1.k0 h1.k1 (x := .cells ((bs.set i bs[r]).map (rwU n)) z s false);have hg2 := zf9 (H := h) (x := ABlk.cells ((bs.set i bs[r]).map (rwU n)) z s false) h1.k0;have hr3 : r < (bs.set i bs[r]).length := by rw [List.length_set]; exact hr2
 have hk3 : K < (h.put K (ABlk.cells ((bs.set i bs[r]).map (rwU n)) z s false)).fresh := h1.k1;refine zq6 ?_;refine zf5 (b := K) (x := .cells (((bs.set i bs[r]).set r bs[i]).map (rwU n)) z s false) rfl (by decide +kernel) hcl2 h1.k0 hk3 (zav rfl rfl (zaj hcl2 hg2) rfl (znT hr3) h1.k0) ?_;have hM3 := hSw.same (h' := (h.put K (ABlk.cells ((bs.set i bs[r]).map (rwU n)) z s false)).put K (ABlk.cells (((bs.set i bs[r]).set r bs[i]).map (rwU n)) z s false)) (fun b => by rw [zcA h1.k0, zcA h1.k0, zcA h1.k0]; split <;> rfl) rfl (zc9 hcl2 h1.k0 hk3);have hn3 : ((h.put K (ABlk.cells ((bs.set i bs[r]).map (rwU n)) z s false)).put K (ABlk.cells (((bs.set i bs[r]).set r bs[i]).map (rwU n)) z s false)).next = h.next := rfl;obtain ⟨h3, eh3⟩ : ∃ h3, h3 = (h.put K (ABlk.cells ((bs.set i bs[r]).map (rwU n)) z s false)).put K (ABlk.cells (((bs.set i bs[r]).set r bs[i]).map (rwU n)) z s false) := ⟨_, rfl⟩
 obtain ⟨lo3, elo3⟩ : ∃ lo3, lo3 = min (min lo K) K := ⟨_, rfl⟩
 obtain ⟨bs3, ebs3⟩ : ∃ b, b = (bs.set i bs[r]).set r bs[i] := ⟨_, rfl⟩
 simp only [List.map_nil, List.append_nil];rw [← eh3, ← elo3];rw [← eh3, ← ebs3] at hM3;rw [← eh3] at hn3;clear eh3 elo3 ebs3 hg hg2 hcl2 hk3 hr3 hSw hcl1;have hNl : (swapM M i r).length = M.length := zbm;have hrN : r < (swapM M i r).length := by rw [hNl]; exact hr
 have hNr : ∀ k, ent (swapM M i r) r k = ent M i k := fun k => by rw [zcL hi hr, if_pos rfl]
 have hNs : ∀ k, RSz 100 (ent (swapM M i r) r k) := fun k => by rw [hNr]; exact hs1 i k
 have hNn : ent (swapM M i r) r c ≠ 0 := by rw [hNr]; exact hne
 have hpv : pivS M r c i = elimM (scaleM (swapM M i r) r (ent (swapM M i r) r c)⁻¹) r c := rfl;rw [hpv] at hk;clear hpv hNr h1 hs1 hne;obtain ⟨N, eN⟩ : ∃ N, N = swapM M i r := ⟨_, rfl⟩
 rw [← eN] at hM3 hNl hNs hNn hs2 hs3 hk;simp only [← eN] at hrN;clear eN;have hcl3 := hM3.clo;have hbl3 := hM3.rows.len;have hrl3 := zb1 hM3.rows.wide hrN;obtain ⟨z3, s3, hg3⟩ := hM3.rows.top;obtain ⟨z4, s4, hg4⟩ := hM3.rows.row r hrN (by omega);have hx := zg7 hrN (show c < N[r].length by omega);have cr := fun lo L => zqd (H := ext h3 lo L) (hNs c) hNn
 rw [hx] at cr;apply zaz;refine zst ?_;refine zq2 ?_;refine zq45 ?_;refine zst ?_;refine zq2 ?_;refine zq45 ?_;apply zac (ht := rfl); exact cr _ _; exact rfl;refine zst ?_;apply zar;simp only [List.map_nil, List.append_nil];rw [← hx]
 have hS := fun lo Qe Qr => scale_w (Qe := Qe) (Qr := Qr) (c := (c : Int)) (L := L) (lo := lo) (v4 := .slice p4 cols.length cols.length) (b := (ent N r c)⁻¹) hcl hM3 hrN (by omega) hn (fun x hxm => by
  obtain ⟨k, hk, rfl⟩ := List.getElem_of_mem hxm;have := hNs k;rw [zg7 hrN hk] at this; exact this) ((hNs c).inv hNn)
 rw [hNl, hcn] at hS;refine zaN zsb (.refl _) (hS _ _ _ (fun h4 lo4 l hnx4 hM4 hsub => ?_));apply zaq; exact rfl;refine zef hsub ?_;have hS4l : (scaleM N r (ent N r c)⁻¹).length = M.length := by rw [zb4, hNl]
 have hE := fun lo Qe Qr => elimO_w (Qe := Qe) (Qr := Qr) (L := L) (lo := lo) (v4 := .slice p4 r r) hcl hM4 (by omega) hc (by omega) hn hs2 hs3
 rw [hS4l] at hE;refine zst ?_;apply zar;refine zaN zsb (.refl _) (hE _ _ _ (fun h5 lo5 l hnx5 hM5 hsub => ?_));apply zaq; exact rfl;refine zef hsub ?_;have hn5 : h5.next = h.next := hnx5.trans (hnx4.trans hn3);have hv5 := zqw hv4 hn5;rw [hcn] at hv5;refine zst ?_;refine zq19 ?_;refine zbP (xs := [(c : Int)]) hM5.clo (hv5.app _) (Nat.zero_le _) (fun _ => rfl) (fun _ => rfl) rfl rfl rfl rfl rfl rfl (zaa List.getElem?_concat_length) rfl (by simp) ?_ (Nat.ne_of_beq_eq_false rfl) (Nat.ne_of_beq_eq_false rfl) rfl (fun v' L6 hv' hst6 hlen6 => ?_)
 ·exact Nat.le_trans (Nat.mul_le_mul_right _ (by simp only [List.length_cons, List.length_nil]; omega : _ ≤ 30000)) (Nat.le_of_ble_eq_true rfl)
 (iterate 2 (refine zs1 ?_));exact hk h5 lo5 L6 v' bs3 _ hn5 hM5 hv' zsb
structure SzP (w : Nat) (M : Mat) : Prop where
 one : ∀ c, c ≤ w → ∀ i k, RSz 100 (ent (pivK M c).1 i k)
 two : ∀ c, c < w → ∀ r i, r < M.length → i < M.length → ent (pivK M c).1 i c ≠ 0 → ∀ a k, RSz 100 (ent (scaleM (swapM (pivK M c).1 i r) r (ent (swapM (pivK M c).1 i r) r c)⁻¹) a k)
 three : ∀ c, c < w → ∀ r i, r < M.length → i < M.length → ent (pivK M c).1 i c ≠ 0 → ∀ a k, RSz 100 (ent (scaleM (swapM (pivK M c).1 i r) r (ent (swapM (pivK M c).1 i r) r c)⁻¹) a c * ent (scaleM (swapM (pivK M c).1 i r) r (ent (swapM (pivK M c).1 i r) r c)⁻¹) r k)
abbrev colI (l : List Nat) : List Int := l.map fun (c : Nat) => ((c : Nat) : Int)
theorem ziO (l : List Nat) : (colI l).length = l.length := by simp
theorem zor {M : Mat} {c i : Nat} (h : pivAt (pivK M c).1 c ((pivK M c).1.length - (pivK M c).2.length) (pivK M c).2.length = some i) : pivK M (c + 1) = (pivS (pivK M c).1 (pivK M c).2.length c i, (pivK M c).2 ++ [c]) := by
 rw [zcB]; unfold pivF; rw [h]
theorem zjk {M : Mat} {c : Nat} (h : pivAt (pivK M c).1 c ((pivK M c).1.length - (pivK M c).2.length) (pivK M c).2.length = none) : pivK M (c + 1) = pivK M c := by
 rw [zcB]; unfold pivF; rw [h]
theorem zle {M : Mat} {c : Nat} : ∀ {n r i : Nat}, r ≤ i → i < r + n → ent M i c ≠ 0 → (∀ j, r ≤ j → j < i → ent M j c = 0) → pivAt M c n r = some i
 | 0, _, _, _, h, _, _ => by omega
 | n + 1, r, i, h1, h2, h3, h4 => by
  unfold pivAt;by_cases e : r = i
  ·subst e; rw [if_pos h3]
  ·rw [if_neg (fun h => h (h4 r (Nat.le_refl _) (by omega)))];exact zle (by omega) (by omega) h3 fun j a b => h4 j (by omega) b
theorem zld {M : Mat} {c : Nat} : ∀ {n r : Nat}, (∀ j, r ≤ j → j < r + n → ent M j c = 0) → pivAt M c n r = none
 | 0, _, _ => rfl
 | n + 1, r, h => by
  unfold pivAt;rw [if_neg (fun hh => hh (h r (Nat.le_refl _) (by omega)))];exact zld fun j a b => h j (by omega) (by omega)
theorem zcc {M : Mat} {c : Nat} (h : (pivK M c).2.length = (pivK M c).1.length) : ∀ d, pivK M (c + d) = pivK M c
 | 0 => rfl
 | d + 1 => by
  have ih := zcc h d;have : pivK M (c + d + 1) = pivK M (c + d) := zjk (by rw [ih, h, Nat.sub_self]; rfl);rw [show c + (d + 1) = c + d + 1 from rfl, this, ih]
structure PivR (H : AHeap) (w : Nat) (M : Mat) (v : Value) (h : AHeap) : Prop where
 out : ∃ K bs p, v = .tuple ⟨[.slice (some ⟨K, 0, none⟩) (pivK M w).2.length M.length, .slice p (pivK M w).2.length (pivK M w).2.length]⟩ ∧ MatK H h K bs w (pivK M w).1 ∧ SlAt h 1 i1 p (colI (pivK M w).2) ∧ h.low ≤ h.fresh
theorem zoN {H h : AHeap} {K n lo x : Nat} {bs : List Nat} {M : Mat} {L : List (Option ABlk)} (h1 : MatK H h K bs n M) : MatK H { ext h lo L with low := x } K bs n M := by
 have hE : ∀ b y, h.get b = some y → ({ ext h lo L with low := x } : AHeap).get b = some y := fun b y hy => zaj (lo := lo) h1.clo hy
 have hf : h.fresh ≤ ({ ext h lo L with low := x } : AHeap).fresh := by
  show h.fresh ≤ (ext h lo L).fresh;rw [zal]; exact zbf _
 refine ⟨zbp (lo := lo) (L := L) h1.clo, fun b y hy => hE b y (h1.ext b y hy), ⟨h1.rows.len, h1.rows.wide, ?_, fun i a b => ?_, h1.rows.nodup, h1.rows.off⟩, h1.k0, Nat.lt_of_lt_of_le h1.k1 hf, h1.k2, fun b hb => ⟨(h1.b0 b hb).1, Nat.lt_of_lt_of_le (h1.b0 b hb).2.1 hf, (h1.b0 b hb).2.2⟩⟩
 ·obtain ⟨z, s, e⟩ := h1.rows.top; exact ⟨z, s, hE _ _ e⟩
 ·obtain ⟨z, s, e⟩ := h1.rows.row i a b; exact ⟨z, s, hE _ _ e⟩
noncomputable def pEnd : Code := sndK (sndK (sndK (sndK pivC)))
theorem zoq {H h : AHeap} {K n m r lo : Nat} {bs : List Nat} {M : Mat} {L : List (Option ABlk)} {p4 : Option Addr} {Qn : St → Prop} {Qe : Nat → St → Prop} (h1 : MatK H h K bs n (pivK M n).1) (hm : M.length = m) (hr : (pivK M n).2.length = r) (hrm : r ≤ m) (hp : SlAt (ext h lo L) 1 i1 p4 (colI (pivK M n).2)) :
  CT Tryz.prog none pNt pEnd ⟨ofA [(0, matV K m), (4, .slice p4 r r)], [], ext h lo L⟩ Qn Qe (Go.Den.Fin Tryz.prog Tryz.f142.results H (PivR H n M)) := by
 refine zst ?_;apply zad; exact zb9 rfl rfl rfl (fun e => by cases e) (fun _ e => by cases e; rfl) hrm; exact rfl;refine zst ?_;refine zo7 rfl ⟨K, bs, p4, by rw [hr, hm]; rfl, zoN h1, hp.ext fun b y hb => hb, ?_⟩;show min (min lo h.fresh) H.low ≤ (ext h lo L).fresh;rw [zal]; have := zbf (H := h) L.length; omega
set_option maxHeartbeats 16000000 in
theorem zlc {H : AHeap} {p : Option Addr} {cp n : Nat} {M : Mat} (hg : GridAt H p n M) (hw : Wide n M) (hn0 : 0 < n) (hn : n ≤ 1000) (hm0 : 0 < M.length) (hm : M.length ≤ 1000) (hz : SzP n M) :
  CallT Tryz.prog 142 [.slice p M.length cp] H (PivR H n M) := by
 refine zae Tryz.func142 rfl rfl rfl fun hc => ?_
 have cl := zmI (H := ext H H.fresh []) (p := p) (c := cp) (hg.ext (zag hc)) hw hn0 hn hm0 hm;refine zst ?_;refine zcx rfl cl rfl (fun v h hh => ?_);obtain ⟨K, bs, rfl, hR, hE, hcl, k0, k1, k2, kb, klow⟩ := hh;have hE' : Ext H h := (zag hc).trans hE;have hfr : H.fresh ≤ (ext H H.fresh []).fresh := by rw [zal]; exact zbf _
 have hM : MatK H h K bs n M := ⟨hcl, hE', hR, k0, k1, Nat.le_trans hfr k2, fun b hb => ⟨(kb b hb).1, (kb b hb).2.1, Nat.le_trans hfr (kb b hb).2.2⟩⟩
 clear cl hR hE hE' k0 k1 k2 kb hfr;refine zst ?_;apply zar;refine zaA (α := Nat × Value × List Nat × AHeap × Nat × List (Option ABlk)) (fun a => [(0, matV K M.length), (4, a.2.1), (5, I a.1)]) (fun a => ext a.2.2.2.1 a.2.2.2.2.1 a.2.2.2.2.2) (fun a => a.1 ≤ n ∧ MatK H a.2.2.2.1 K a.2.2.1 n (pivK M a.1).1 ∧ Lst a.2.2.2.1 a.2.2.2.2.2 1 i1 0 a.2.1 (colI (pivK M a.1).2)) (fun a => n - a.1) (fun a ha ih => ?_) (0, .slice none 0 0, bs, h, h.low, []) ⟨Nat.zero_le _, hM, .nil⟩ zsb (zo0 klow);clear hM hcl klow;obtain ⟨c, v4, bs2, h2, lo2, L⟩ := a;obtain ⟨hcn, hM, hv4⟩ := ha;simp only at hcn hM hv4 ih ⊢;have ih' := fun c' v' b' h' lo' L' a1 a2 a3 a4 => ih (c', v', b', h', lo', L') a1 ⟨a2, a3, a4⟩
 simp only at ih';clear ih;have hP := zcg hw c;have hPl := hP.len;have hPle := hP.le;rw [hPl] at hPle;obtain ⟨p4, rfl, hp4, _⟩ := hv4.slice (lo := lo2) (fun _ => rfl);have cw := fun lo L => znj (H := ext h2 lo L) (c := M.length) (hM.rows.grid.ext (zag hM.clo)) (by intro e; rw [e] at hPl; simp at hPl; omega)
 rw [hPl] at cw;rw [ziO];rw [ziO] at hv4;obtain ⟨r, hr⟩ : ∃ r, r = (pivK M c).2.length := ⟨_, rfl⟩
 rw [← hr] at hPle hv4 ⊢;have hcl2 := hM.clo;by_cases u : c < n
 ·have e1 : decide ((c : Int) < (n : Int)) = true := decide_eq_true (by omega);refine zst ?_;apply zac (ht := rfl); exact cw _ _; exact rfl;refine zq0 ?_;refine zs1 ?_;rw [e1];refine zst ?_;refine zq1 ?_;(iterate 2 (refine zs1 ?_));by_cases v : r < M.length
  ·refine zam rfl (decide_eq_true (by omega)) ?_;have hF := fun lo Qe Qr => find_w (Qe := Qe) (Qr := Qr) (c := c) (r := r) (v4 := .slice p4 r r) (L := L) (lo := lo) hM u (by omega) (by omega) hn
   rw [hPl] at hF;refine zst ?_;apply zar;refine zaN zsb (.refl _) (hF _ _ _ (fun i l f1 f2 f3 f4 hsub => ?_));clear hF;apply zaq; exact rfl;refine zef hsub ?_;refine zst ?_;refine zq0 ?_;apply zaf;by_cases w : i < M.length
   ·refine zah rfl (by rw [beq_eq_false_iff_ne]; omega) ?_;apply zbb;have hne := f4 w;have hnext := zor (M := M) (c := c) (i := i) (by rw [← hr, hPl]; exact zle f1 (by omega) hne f3);rw [← hr] at hnext;have h2s := hz.two c u r i v w hne;have h3s := hz.three c u r i v w hne;have hW := fun Qn Qe Qr => piv_w (Qn := Qn) (Qe := Qe) (Qr := Qr) (lo := lo2) (v4 := .slice p4 r r) (cols := colI (pivK M c).2) hc hM (r := r) (i := i) (by omega) (by omega) u (by omega) hn hv4 (by rw [ziO, hr]) hne (hz.one c hcn) h2s h3s
    rw [hPl] at hW;refine zef zsb (hW _ _ _ (fun h' lo' L' v' bs' l hnx hM' hv' hsub => ?_));clear hW;refine zef hsub ?_;refine zst ?_;refine zq4 ?_;refine zst ?_;refine zaN zsb (.refl _) (ih' (c + 1) v' bs' h' lo' L' (by omega) (by omega) ?_ ?_)
    ·rw [hnext]; exact hM'
    ·rw [hnext, colI, List.map_append]; exact hv'
   ·have ei : i = M.length := by omega
    have hnext := zjk (M := M) (c := c) (by rw [← hr, hPl]; exact zld fun j a b => f3 j a (by omega));refine zam rfl (by rw [beq_iff_eq]; omega) ?_;apply zap;apply zaq; exact rfl;refine zst ?_;refine zq4 ?_;refine zst ?_;refine zaN zsb (.refl _) (ih' (c + 1) (.slice p4 r r) bs2 h2 lo2 L (by omega) (by omega) ?_ ?_)
    ·rw [hnext]; exact hM
    ·rw [hnext]; exact hv4
  ·refine zah rfl (decide_eq_false (by omega)) ?_
   have hst : pivK M n = pivK M c := by
    have := zcc (M := M) (c := c) (by rw [← hr, hPl]; omega) (n - c)
    rwa [show c + (n - c) = n by omega] at this
   apply zap;apply zaq; exact rfl;refine zef zsb (zoq (by rw [hst]; exact hM) rfl (by rw [hst, hr]) hPle (by rw [hst]; exact hp4))
 ·have e1 : decide ((c : Int) < (n : Int)) = false := decide_eq_false (by omega);have : c = n := by omega
  subst this;refine zst ?_;apply zac (ht := rfl); exact cw _ _; exact rfl;refine zq0 ?_;refine zs1 ?_;rw [e1];refine zst ?_;refine zah rfl rfl ?_;apply zap;apply zaq; exact rfl;refine zef zsb (zoq hM rfl hr.symm hPle hp4)
end Go.Proofs.YtlejimjgagfalaaGreatDoor
noncomputable section
namespace Go.Den
section
variable {P : Program} {rd : Option Nat} {nt : Nat} {ops : Array Oper} {l : EL} {ds : List Nat} {K : St → Prop} {i : Nat} {r : List Oper} {o : Oper} {ty : TypeId} {pos : String} {af : Array Edge} {H : AHeap} {lo : Nat} {L0 : List (Option ABlk)} {ow : List Nat} {N : List ABlk}
theorem zp2 [PC P] {d n c : Nat} {op : Op} {x : ABlk} (hfree : isFree op = false) (hw : ow.length = N.length) (hm : ow.all (fun j => Nat.testBit (befS ops i) j) = true)
  (hop : Does P l op (ext H lo (L0 ++ N.map some)) (.slice (some ⟨(ext H lo (L0 ++ N.map some)).fresh, 0, none⟩) n c) ((ext H lo (L0 ++ N.map some)).add x)) (hd : Nat.blt d nt = true)
  (hk : SeqD P rd nt ops r (i + 1) ds ((d, .slice (some ⟨nb H (L0.length + N.length), 0, none⟩) n c) :: l) H lo L0 (ow ++ [i]) (N ++ [x]) K) : SeqD P rd nt ops (⟨some d, op, ty, pos, af, none⟩ :: r) i ds l H lo L0 ow N K := by
 have e : (ext H lo (L0 ++ N.map some)).fresh = nb H (L0.length + N.length) := by rw [zal]; simp
 rw [e, za2] at hop;exact zdw fun ho => zie hfree (zdJ hw hm) (fun _ ha => zgP ho rfl hop hd ha) hk
end
end Go.Den
noncomputable section
namespace Go.Proofs.YtlejimjgagfalaaGreatDoor
open Go Go.Den Go.Lib
set_option maxRecDepth 100000
theorem zkQ {M : Mat} {b : List Rat} (hb : b.length = M.length) {i : Nat} (hi : i < M.length) (hi2 : i < (wideM M b).length) : (wideM M b)[i] = M[i] ++ [b[i]'(by omega)] := by
 simp [wideM]
theorem zlw (r : List Rat) : (r.flatMap s1q).length = r.length := by rw [zdl]; simp
theorem len_ne {r t : List Rat} {z z' : Nat} {s s' : Bool} (h : r.length ≠ t.length) : ABlk.cells (r.flatMap s1q) z s false ≠ .cells (t.flatMap s1q) z' s' false := fun e => by
 injection e with e1
 have := congrArg List.length e1;rw [zlw, zlw] at this;exact h this
def solL (M : Mat) (b : List Rat) (n : Nat) : List Rat := (List.range n).map fun i => ent (pivK (wideM M b) (n + 1)).1 i n
noncomputable abbrev sNt : Nat := Tryz.f102.ntmps
noncomputable def solB : Code := inC (inC (sndK (fstC (sndK (sndK (sndK (Tryz.f102.body.getD .skip)))))))
set_option maxHeartbeats 16000000 in
theorem wide_w {H : AHeap} {p q : Option Addr} {cp cq n : Nat} {M : Mat} {b : List Rat} {Qe : Nat → St → Prop} {Qr : St → Prop} (hcl : Closed H) (hg : GridAt H p n M) (hq : SlAt H 1 s1q q b) (hb : b.length = M.length) (hw : Wide n M) (hn0 : 0 < n) (hn : n ≤ 100) (hm0 : 0 < M.length) (hm : M.length ≤ 100)
  (hk : ∀ v bs L l, ClnK H (n + 1) (wideM M b) M.length v bs L → Sub [(6, v), (7, I n)] l → Qe 0 ⟨ofA l, [], ext H H.fresh L⟩) :
  LT Tryz.prog none sNt solB ⟨ofA [(0, .slice p M.length cp), (1, .slice q b.length cq), (6, .slice none 0 0), (7, I n), (8, I (0 : Nat))], [], ext H H.fresh []⟩ Qe Qr := by
 have hwl := zcd hb;have hww := zb2 hw hb;obtain ⟨Q, hQ, hs, hr⟩ := hg.out;have h0' : 0 < Q.length := by omega
 obtain ⟨bb, o, cs, z, s, ro, rfl, hbb, hwQ⟩ := hs.out (by intro e; rw [e] at h0'; simp at h0');obtain ⟨bq, oq, csq, zq, sq, roq, rfl, hbq, hwq⟩ := hq.out (by intro e; rw [e] at hb; simp at hb; omega);refine zaA (α := Nat × Value × List Nat × List (Option ABlk)) (fun a => [(0, .slice (some ⟨bb, o, none⟩) M.length cp), (1, .slice (some ⟨bq, oq, none⟩) b.length cq), (6, a.2.1), (7, I n), (8, I a.1)]) (fun a => ext H H.fresh a.2.2.2) (fun a => ClnK H (n + 1) (wideM M b) a.1 a.2.1 a.2.2.1 a.2.2.2) (fun a => M.length - a.1) (fun a ha ih => ?_) (0, .slice none 0 0, [], []) ⟨by omega, .nil, rfl, by intro j h; simp at h, .nil⟩ zsb (.refl _);obtain ⟨i, v, bs, L⟩ := a;have ih' := fun i' v' bs' L' h1 h2 => ih (i', v', bs', L') h1 h2
 simp only at ha ih' ⊢;clear ih;have hle := ha.le;have hlen := ha.len;rw [hwl] at hle;rw [← hQ];refine zst ?_;refine zq0 ?_;apply zaf;refine zai rfl (fun u => ?_) (fun u => ?_)
 ·have u : i < Q.length := by
   have u := of_decide_eq_true u;omega
  have hi : i < M.length := by omega
  have hib : i < b.length := by omega
  have hrow := hr i hi u;have hri : M[i].length = n := zb1 hw hi;obtain ⟨b2, o2, cs2, z2, s2, ro2, e2, hb2, hw2⟩ := hrow.out (by intro e; rw [e] at hri; simp at hri; omega);have hbulk := zfd (f := s1q) (w := 1) (fun _ => rfl) hw2;rw [hri] at hbulk;have hx2 := zkQ hb hi (by omega);have hne : M[i] ≠ [] := by intro e; rw [e] at hri; simp at hri; omega
  obtain ⟨row, er⟩ : ∃ row, row = M[i] := ⟨_, rfl⟩
  rw [← er] at hri hbulk hne hx2;obtain ⟨q, hq⟩ : ∃ q, q = Q[i] := ⟨_, rfl⟩
  rw [← hq] at e2;obtain ⟨q1, q2⟩ := q;simp only at e2;subst e2;clear hg hs hr hw2 hrow er;refine zst ?_;apply zax (by assumption); decide +kernel;refine zq5 ?_;apply zcf (hfree := rfl); exact zaM rfl rfl rfl rfl rfl rfl rfl; exact rfl;(iterate 2 (refine zq5 ?_));refine zq6 ?_;apply zaS (hfree := rfl); exact zaw rfl (by exact zaj (by assumption) (by assumption)) rfl (by exact zom (by assumption) (by omega)); exact rfl;rw [← hq];simp only;refine zp2 (n := 0 + n) (c := 0 + n) (x := .cells ([] ++ row.flatMap s1q) 1 true false) rfl rfl (by decide +kernel) (zhV (new := row.flatMap s1q) (old := []) rfl rfl rfl rfl rfl rfl (zaj hcl hb2) hbulk (zaa (k := L.length) (by exact List.getElem?_concat_length)) rfl (by show (2 * (0 + n) + 1000) * 16 ≤ 2 ^ 48; omega) (Nat.ne_of_beq_eq_false rfl) (Nat.ne_of_beq_eq_false rfl) hn0) rfl ?_;(iterate 2 (refine zq5 ?_));refine zq6 ?_;refine zq7 ?_;apply zcf (hfree := rfl); exact zaM rfl rfl rfl rfl rfl rfl rfl; exact rfl;refine zif (lst := row) (xs := [b[i]]) (f := s1q) (m := 1) (k0 := L.length) hcl rfl (by decide +kernel) (⟨.inr ⟨hne, L.length + 1, Nat.le_succ _, by rw [hri, Nat.zero_add]; rfl, by simp⟩⟩) (by simp) (fun _ => rfl) (fun _ => rfl) rfl rfl rfl rfl rfl rfl (zaa (k := L.length + 2) (x := .cells [sV b[i]] 1 false false) (by simp; exact ⟨rfl, rfl⟩)) rfl (by simp) (by show (2 * (row.length + 1) + 1000) * 16 ≤ 2 ^ 48; omega) (Nat.ne_of_beq_eq_false rfl) (Nat.ne_of_beq_eq_false rfl) rfl (fun v1 L1 hv1 hkeep1 hlen1 => ?_);rcases hv1.out with ⟨e, _⟩ | ⟨_, k1, hk0, rfl, hk1⟩
  ·exact absurd e (by simp)
  have hrl : (row ++ [b[i]]).length = n + 1 := by simp [hri]
  rw [hrl];have keepL : ∀ j y, L[j]? = some (some y) → y ≠ ABlk.cells (row.flatMap s1q) 1 true false → L1[j]? = some (some y) := fun j y hy hy2 => hkeep1 j y (getApp hy) (fun _ => hy2)
  have hlst1 : Lst H L1 1 (rwV (n + 1)) 0 v bs := by
   rcases ha.lst.out with ⟨e1, e2⟩ | ⟨e1, k, h0, e2, h3⟩
   ·exact ⟨.inl ⟨e1, e2⟩⟩
   ·exact ⟨.inr ⟨e1, k, h0, e2, keepL k _ h3 (fun e => zff hne e1 e.symm)⟩⟩
  clear hv1 hkeep1;apply zcf (hfree := rfl); exact zaM rfl rfl rfl rfl rfl rfl rfl; exact rfl;refine zif (xs := [nb H k1]) (lst := bs) (f := rwV (n + 1)) (m := 1) (k0 := 0) hcl rfl (by decide +kernel) (hlst1.app _) (Nat.zero_le _) (fun _ => rfl) (fun _ => rfl) rfl rfl rfl rfl rfl rfl (zaa (k := L1.length) (x := .cells [rwU (n + 1) (nb H k1)] 1 false false) (by simp; exact ⟨rfl, rfl⟩)) rfl (by simp) (by show (2 * (bs.length + 1) + 1000) * 24 ≤ 2 ^ 48; omega) (Nat.ne_of_beq_eq_false rfl) (Nat.ne_of_beq_eq_false rfl) rfl (fun v2 L2 hv2 hkeep2 hlen2 => ?_);have hk4 : ∀ (k : Nat) (r : List Rat) s, r ≠ [] → L1[k]? = some (some (.cells (r.flatMap s1q) 1 s false)) → L2[k]? = some (some (.cells (r.flatMap s1q) 1 s false)) := fun k r s hr hk => hkeep2 k _ (getApp hk) fun hb => zff hr hb
  refine zq14 ?_;apply zaz;refine zst ?_;refine zq4 ?_;refine zst ?_;simp only [List.map_nil, List.append_nil];rw [hQ];refine zbn zsb (ih' (i + 1) v2 (bs ++ [nb H k1]) L2 (by omega) ⟨by omega, hv2, by rw [List.length_append, hlen]; rfl, fun j hj hj2 => ?_, ?_⟩)
  ·rw [List.length_append, List.length_singleton] at hj;rcases Nat.lt_or_ge j bs.length with h1 | h1
   ·obtain ⟨k, hkk, s4, hk2⟩ := ha.row j h1 hj2;have hjl := zb1 hww hj2;have hnj : (wideM M b)[j] ≠ [] := by intro e; rw [e] at hjl; simp at hjl
    exact ⟨k, by rw [List.getElem_append_left h1]; exact hkk, s4, hk4 k _ s4 hnj (keepL k _ hk2 (len_ne (by rw [hjl, hri]; omega)))⟩
   ·have e : j = i := by omega
    subst e;exact ⟨k1, by rw [List.getElem_append_right h1]; simp, true, hk4 _ _ true (by rw [hx2]; simp) (by rw [hx2]; exact hk1)⟩
  ·rw [List.nodup_append];refine ⟨ha.nodup, by simp, fun a h1 c h2 => ?_⟩;rw [List.mem_singleton.1 h2];obtain ⟨j, hj, rfl⟩ := List.getElem_of_mem h1;obtain ⟨k, hkk, s4, hk2⟩ := ha.row j hj (by omega);rw [hkk];have := (List.getElem?_eq_some_iff.1 hk2).1;intro e;have := zfM.1 e;omega
 ·have u : i = M.length := by
   have u := of_decide_eq_false u;omega
  subst u;apply zap;exact hk v bs L _ ha zsb
theorem zpe {H : AHeap} {p : Option Addr} {cp n : Nat} {M : Mat} (hg : GridAt H p n M) (hw : Wide n M) (hn0 : 0 < n) (hn : n ≤ 1000) (hm0 : 0 < M.length) (hm : M.length ≤ 1000) (hz : SzP n M) :
  CallT Tryz.prog 140 [.slice p M.length cp] H (fun v h => ∃ K, v = .slice (some ⟨K, 0, none⟩) (pivK M n).2.length M.length ∧ Ext H h) := by
 refine zae Tryz.func140 rfl rfl rfl fun hc => ?_
 have cp1 := zlc (H := ext H H.fresh []) (p := p) (cp := cp) (hg.ext (zag hc)) hw hn0 hn hm0 hm hz;refine zst ?_;refine zcx rfl cp1 rfl (fun v h hh => ?_);obtain ⟨K, bs, p2, rfl, hM, hs, hl⟩ := hh.out;clear cp1 hh;refine zst ?_;exact zo7 rfl ⟨K, rfl, fun b y hb => ((zag hc).trans hM.ext) b y hb⟩
theorem rank_c {H : AHeap} {p : Option Addr} {cp n : Nat} {M : Mat} (hg : GridAt H p n M) (hw : Wide n M) (hn0 : 0 < n) (hn : n ≤ 1000) (hm0 : 0 < M.length) (hm : M.length ≤ 1000) (hz : SzP n M) :
  Ret Tryz.prog 101 [.slice p M.length cp] H (I (pivK M n).2.length) H := by
 refine zae Tryz.func101 rfl rfl rfl fun hc => ?_
 have cp1 := zpe (H := ext H H.fresh []) (p := p) (cp := cp) (hg.ext (zag hc)) hw hn0 hn hm0 hm hz;refine zst ?_;refine zcx rfl cp1 rfl (fun v h hh => ?_);obtain ⟨K, rfl, hE⟩ := hh;clear cp1;(iterate 4 (refine zs1 ?_));exact ⟨⟨_, _, _, H, rfl, zdD rfl, zcU hc (fun _ _ hx => hE _ _ (zag hc _ _ hx)) rfl, rfl, rfl⟩⟩
theorem sol_len {M : Mat} {b : List Rat} {n : Nat} : (solL M b n).length = n := by simp [solL]
theorem zeros_c {H : AHeap} {n : Nat} (hn : n ≤ 1000) : Ret Tryz.prog 143 [I n] H (lstV H.fresh (List.replicate n (0 : Rat))) (lstH H 1 s1q (List.replicate n (0 : Rat))) := by
 refine zae Tryz.func143 rfl rfl rfl fun hc => ?_
 have e0 : (.string ⟨#[48]⟩ : Value) = sV 0 := by
  show _ = Value.string (tx (rt 0));rw [rt_0]; rfl
 refine zst ?_;apply zar;refine zaA (α := Nat × Value × List (Option ABlk)) (fun a => [(0, I n), (3, a.2.1), (4, I a.1)]) (fun a => ext H H.fresh a.2.2) (fun a => a.1 ≤ n ∧ Lst H a.2.2 1 s1q 0 a.2.1 (List.replicate a.1 (0 : Rat))) (fun a => n - a.1) (fun a ha ih => ?_) (0, .slice none 0 0, []) ⟨Nat.zero_le _, .nil⟩ zsb (.refl _);obtain ⟨i, v, L⟩ := a;obtain ⟨hi, hv⟩ := ha;simp only at hi hv ih ⊢;have ih' := fun i' v' L' a1 a2 a3 => ih (i', v', L') a1 ⟨a2, a3⟩
 simp only at ih';clear ih;refine zst ?_;refine zq0 ?_;apply zaf;refine zai rfl (fun u => ?_) (fun u => ?_)
 ·simp only [decide_eq_true_eq, Int.ofNat_lt] at u;refine zst ?_;refine zq19 ?_;refine zbP (xs := [(0 : Rat)]) hc (hv.app _) (Nat.zero_le _) (fun _ => rfl) (fun _ => rfl) rfl rfl rfl rfl rfl rfl (zaa List.getElem?_concat_length) (by rw [show ([(0 : Rat)].flatMap s1q) = [sV 0] from rfl, ← e0]; rfl) (by simp) ?_ (Nat.ne_of_beq_eq_false rfl) (Nat.ne_of_beq_eq_false rfl) rfl (fun v' L3 hv' hst3 hlen3 => ?_)
  ·exact Nat.le_trans (Nat.mul_le_mul_right _ (by simp only [List.length_cons, List.length_nil, List.length_replicate]; omega : _ ≤ 30000)) (Nat.le_of_ble_eq_true rfl)
  refine zst ?_;refine zq4 ?_;refine zst ?_;refine zbn zsb (ih' (i + 1) v' L3 (by omega) (by omega) ?_);rw [List.replicate_succ']; exact hv'
 ·have u : i = n := by simp at u; omega
  subst u;apply zap;apply zaq; exact rfl;refine zst ?_;exact zku hc hv rfl (fun _ => rfl) ⟨rfl, rfl⟩
end Go.Proofs.YtlejimjgagfalaaGreatDoor
namespace Go.Den
section
variable {ax ay ah bx by_ bh cx cy ch : Rat}
def mat3 (ax ay bx by_ cx cy : Rat) : Mat := [[ax, ay, 1], [bx, by_, 1], [cx, cy, 1]]
def det3 (ax ay bx by_ cx cy : Rat) : Rat := (bx - ax) * (cy - ay) - (by_ - ay) * (cx - ax)
theorem null3 (v : Nat → Rat) : Null (mat3 ax ay bx by_ cx cy) v ↔ (ax * v 0 + ay * v 1 + v 2 = 0 ∧ bx * v 0 + by_ * v 1 + v 2 = 0 ∧ cx * v 0 + cy * v 1 + v 2 = 0) := by
 unfold Null mat3;constructor
 ·intro h;have h0 := h 0 (by simp);have h1 := h 1 (by simp);have h2 := h 2 (by simp);simp [dotR] at h0 h1 h2;refine ⟨?_, ?_, ?_⟩ <;> grind
 ·rintro ⟨h0, h1, h2⟩ i hi
  have : i = 0 ∨ i = 1 ∨ i = 2 := by simp at hi; omega
  rcases this with e | e | e <;> subst e <;> simp [dotR] <;> grind
theorem sol3 (y : Nat → Rat) : Sol (mat3 ax ay bx by_ cx cy) [ah, bh, ch] y ↔ (ax * y 0 + ay * y 1 + y 2 = ah ∧ bx * y 0 + by_ * y 1 + y 2 = bh ∧ cx * y 0 + cy * y 1 + y 2 = ch) := by
 unfold Sol mat3;constructor
 ·intro h;have h0 := h 0 (by simp);have h1 := h 1 (by simp);have h2 := h 2 (by simp);simp [dotR] at h0 h1 h2;refine ⟨?_, ?_, ?_⟩ <;> grind
 ·rintro ⟨h0, h1, h2⟩ i hi
  have : i = 0 ∨ i = 1 ∨ i = 2 := by simp at hi; omega
  rcases this with e | e | e <;> subst e <;> simp [dotR] <;> grind
theorem triv3 : Triv 3 (mat3 ax ay bx by_ cx cy) ↔ det3 ax ay bx by_ cx cy ≠ 0 := by
 unfold det3;constructor
 ·intro h hd
  have key : ∀ p q r : Rat, ax * p + ay * q + r = 0 → bx * p + by_ * q + r = 0 → cx * p + cy * q + r = 0 → p = 0 ∧ q = 0 ∧ r = 0 := by
   intro p q r h1 h2 h3;have hn := h (fun k => if k = 0 then p else if k = 1 then q else r) ((null3 _).2 ⟨h1, h2, h3⟩);exact ⟨hn 0 (by omega), hn 1 (by omega), hn 2 (by omega)⟩
  have k1 := key (by_ - ay) (-(bx - ax)) ((bx - ax) * ay - (by_ - ay) * ax) (by grind) (by grind) (by grind);have k2 := key (cy - ay) (-(cx - ax)) ((cx - ax) * ay - (cy - ay) * ax) (by grind) (by grind) (by grind);have e1 : by_ = ay := by grind
  have e2 : bx = ax := by grind
  have e3 : cy = ay := by grind
  have e4 : cx = ax := by grind
  have k3 := key 1 0 (-ax) (by grind) (by grind) (by grind)
  grind
 ·intro hd v hv k hk;obtain ⟨h0, h1, h2⟩ := (null3 v).1 hv
  have e0 : v 0 = 0 := by
   have : ((bx - ax) * (cy - ay) - (by_ - ay) * (cx - ax)) * v 0 = 0 := by grind
   rcases Rat.mul_eq_zero.1 this with h | h
   ·exact absurd h hd
   ·exact h
  have e1 : v 1 = 0 := by
   have : ((bx - ax) * (cy - ay) - (by_ - ay) * (cx - ax)) * v 1 = 0 := by grind
   rcases Rat.mul_eq_zero.1 this with h | h
   ·exact absurd h hd
   ·exact h
  have : k = 0 ∨ k = 1 ∨ k = 2 := by omega
  rcases this with e | e | e <;> subst e
  ·exact e0
  ·exact e1
  ·grind
theorem sol3_xy (hd : det3 ax ay bx by_ cx cy ≠ 0) {y : Nat → Rat} (h : Sol (mat3 ax ay bx by_ cx cy) [ah, bh, ch] y) :
  y 0 = ((bh - ah) * (cy - ay) - (ch - ah) * (by_ - ay)) / det3 ax ay bx by_ cx cy ∧ y 1 = ((ch - ah) * (bx - ax) - (bh - ah) * (cx - ax)) / det3 ax ay bx by_ cx cy := by
 obtain ⟨h0, h1, h2⟩ := (sol3 y).1 h;unfold det3 at *;constructor
 ·have : ((bx - ax) * (cy - ay) - (by_ - ay) * (cx - ax)) * y 0 = (bh - ah) * (cy - ay) - (ch - ah) * (by_ - ay) := by grind
  rw [← this]; grind
 ·have : ((bx - ax) * (cy - ay) - (by_ - ay) * (cx - ax)) * y 1 = (ch - ah) * (bx - ax) - (bh - ah) * (cx - ax) := by grind
  rw [← this]; grind
end
end Go.Den
