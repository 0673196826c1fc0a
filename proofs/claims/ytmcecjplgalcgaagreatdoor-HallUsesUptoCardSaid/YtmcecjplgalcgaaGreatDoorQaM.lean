/- The reference's numbers: division by one digit, greatest common divisors. -/
import Derived.Test.YtmcecjplgalcgaaGreatDoorQaO
noncomputable section
namespace Go.Den
open Go.Proofs.YtmcecjplgalcgaaGreatDoor
theorem renV_old {H : AHeap} {q : Option Addr} (h : OldS H q) {n c : Nat} : renV (renOf H []) 8 (packA [.slice none 0 0, .slice q n c]) = some (packA [.slice none 0 0, .slice q n c]) := by
 have := h.ren (lb := []) (n := n) (c := c) (d := 6)
 simp [packA, renV, renL] at this ⊢
 rw [this]
end Go.Den
namespace Go.Proofs.YtmcecjplgalcgaaGreatDoor
open Go Go.Den
set_option maxRecDepth 100000
def valW : List Int → Int
 | [] => 0
 | x :: r => x + 1000000000 * valW r
theorem valW_drop {a : List Int} {k : Nat} (h : k < a.length) : valW (a.drop k) = a[k] + 1000000000 * valW (a.drop (k + 1)) := by
 rw [List.drop_eq_getElem_cons h]; rfl
theorem dvR_val {a : List Int} {d : Int} (hd : 0 < d) : ∀ j, j ≤ a.length → dvR a d j = valW (a.drop (a.length - j)) % d
 | 0, _ => by simp [dvR, valW]
 | j + 1, h => by
  have hk : a.length - (j + 1) < a.length := by omega
  have ih := dvR_val (a := a) hd j (by omega)
  rw [valW_drop hk, show a.length - (j + 1) + 1 = a.length - j by omega]
  simp only [dvR]
  rw [ih, List.getElem?_eq_getElem hk]
  simp only [Option.getD_some]
  rw [Int.add_emod, Int.mul_emod, Int.emod_emod_of_dvd _ (Int.dvd_refl d), ← Int.mul_emod, ← Int.add_emod, Int.add_comm, Int.mul_comm]
theorem dvR_all {a : List Int} {d : Int} (hd : 0 < d) : dvR a d a.length = valW a % d := by
 rw [dvR_val hd _ (Nat.le_refl _), Nat.sub_self, List.drop_zero]
theorem divLess_c {H : AHeap} {p q : Option Addr} {c e : Nat} {a b : List Int} (hp : SlAt H 1 i1 p a) (hp' : OldS H p) (hq : SlAt H 1 i1 q b) (hn : a.length ≤ 1000) (hm : b.length ≤ 1000) (hlt : cmpW a b < 0) :
  Ret Tryz.prog 105 [.slice p a.length c, .slice q b.length e] H (.tuple ⟨[.slice none 0 0, .slice p a.length c]⟩) H := by
 refine fn_start Tryz.func105 rfl rfl rfl fun hc => ?_
 have cc := fun lo L => compareDigits_c (H := ext H lo L) (c := c) (e := e) (hp.ext (ext_Ext hc)) (hq.ext (ext_Ext hc)) (by omega) (by omega)
 apply ct_seq
 apply ct_region
 iterate 2 (apply seq_plain; exact do_assign rfl; exact rfl)
 apply seq_nil
 iterate 2 (apply ct_seq)
 apply ct_region
 iterate 2 (apply seq_plain; exact do_move rfl; exact rfl)
 apply seq_call (ht := rfl); exact cc _ _; exact rfl
 apply seq_plain; exact do_binInt rfl rfl rfl trivial; exact rfl
 apply seq_nil
 refine ct_cond_t rfl (decide_eq_true hlt) ?_
 apply ct_seq
 apply ct_region
 apply seq_plain; exact do_move rfl; exact rfl
 iterate 2 (apply seq_plain; exact do_assign rfl; exact rfl)
 apply seq_nil
 apply ct_ret
 exact fin_keep hc rfl (renV_old hp') ⟨rfl, rfl⟩
theorem divOne_c {H : AHeap} {p q : Option Addr} {c e : Nat} {a : List Int} {d : Int} (hp : SlAt H 1 i1 p a) (hq : SlAt H 1 i1 q [d]) (hn : a.length ≤ 1000) (ha : DigL a) (hd : 0 < d) (hd2 : d < 1000000000) (hge : ¬ cmpW a [d] < 0) :
  Ret Tryz.prog 105 [.slice p a.length c, .slice q 1 e] H (.tuple ⟨[.slice (some ⟨H.fresh, 0, none⟩) (trimN (dvQ a d a.length)) a.length, .slice (some ⟨H.fresh + 2, 0, none⟩) (trimN [dvR a d a.length]) 1]⟩) ((H.add (.cells ((dvQ a d a.length).map I) 1 false false)).add (.cells [I (dvR a d a.length)] 1 false false)) := by
 refine fn_start Tryz.func105 rfl rfl rfl fun hc => ?_
 have cc := fun lo L => compareDigits_c (H := ext H lo L) (c := c) (e := e) (b := [d]) (hp.ext (ext_Ext hc)) (hq.ext (ext_Ext hc)) (by omega) (by simp)
 have cd := fun lo L => divDigit_c (H := ext H lo L) (c := c) (hp.ext (ext_Ext hc)) hn ha hd hd2
 simp only [ext_fresh, ext_add] at cd
 obtain ⟨b2, o2, cs2, z2, s2, ro2, rfl, hg2, hw2⟩ := hq.out (by simp)
 have hV : pt false 1 cs2 (o2 + 0 * 1) = some (I d) := pt_sl0 (n := 1) (g := I) (i := 0) hw2 (by simp)
 have ct := fun lo (L : List (Option ABlk)) (k : Nat) (hk : L[k]? = some (some (.cells [I (dvR a d a.length)] 1 false false))) => trim_c (H := ext H lo L) (q := some ⟨nb H k, 0, none⟩) (c := 1) (l := [dvR a d a.length]) (slAt_map (g := I) (ext_get_new hk)) (OldS.new (List.getElem?_eq_some_iff.1 hk).1) ⟨Nat.le_refl _, (fun e => by cases e), (fun _ e => by cases e; rfl)⟩ (by simp)
 apply ct_seq
 apply ct_region
 iterate 2 (apply seq_plain; exact do_assign rfl; exact rfl)
 apply seq_nil
 iterate 2 (apply ct_seq)
 apply ct_region
 iterate 2 (apply seq_plain; exact do_move rfl; exact rfl)
 apply seq_call (ht := rfl); exact cc _ _; exact rfl
 apply seq_plain; exact do_binInt rfl rfl rfl trivial; exact rfl
 apply seq_nil
 refine ct_cond_f rfl (decide_eq_false hge) ?_
 apply ct_skip
 iterate 2 (apply ct_seq)
 apply ct_region
 apply seq_plain; exact do_move rfl; exact rfl
 apply seq_plain; exact do_lenS rfl rfl rfl; exact rfl
 apply seq_plain; exact do_binInt rfl rfl rfl trivial; exact rfl
 apply seq_nil
 refine ct_cond_t rfl rfl ?_
 apply ct_seq
 apply ct_region
 iterate 2 (apply seq_plain; exact do_move rfl; exact rfl)
 apply seq_plain; exact do_indexAddrS rfl rfl rfl (by exact rfl); exact rfl
 apply seq_plain; exact do_load rfl (by exact ext_get_old (by assumption) (by assumption)) rfl (by exact (by assumption)); exact rfl
 refine seq_call rfl (cd _ _) rfl ?_
 apply seq_plain; exact do_move rfl; exact rfl
 iterate 2 (apply seq_plain; exact do_extract rfl rfl; exact rfl)
 iterate 2 (apply seq_plain; exact do_assign rfl; exact rfl)
 apply seq_nil
 apply ct_seq
 apply ct_region
 iterate 2 (apply seq_plain; exact do_move rfl; exact rfl)
 apply seq_newS; exact do_buildSlice rfl rfl rfl rfl rfl rfl rfl; exact rfl
 apply seq_call (ht := rfl); exact ct _ _ 1 rfl; exact rfl
 iterate 2 (apply seq_plain; exact do_assign rfl; exact rfl)
 apply seq_nil
 apply ct_ret
 exact fin_two (vs := [.slice (some ⟨nb H 0, 0, none⟩) (trimN (dvQ a d a.length)) a.length, .slice (some ⟨nb H 1, 0, none⟩) (trimN [dvR a d a.length]) 1]) (j := 0) (k := 1) hc rfl rfl rfl (by decide) ints_flat rfl (by simp [packA, renV, renL, renOf_two1]) ⟨rfl, rfl⟩
end Go.Proofs.YtmcecjplgalcgaaGreatDoor
/- The reference's numbers: greatest common divisors with one digit. -/
noncomputable section
namespace Go.Proofs.YtmcecjplgalcgaaGreatDoor
open Go Go.Den
set_option maxRecDepth 100000
def Src (H h : AHeap) (p : Option Addr) (l : List Int) : Prop := (SlAt H 1 i1 p l ∧ OldS H p) ∨ ∃ b y, p = some ⟨b, 0, none⟩ ∧ l = [y] ∧ b % 2 = 0 ∧ H.fresh ≤ b ∧ h.get b = some (.cells [I y] 1 false false)
theorem Src.mono {H h h' : AHeap} {p : Option Addr} {l : List Int} (hs : Src H h p l) (hE : Ext h h') : Src H h' p l := by
 rcases hs with h1 | ⟨b, y, h1, h2, h3, h4, h5⟩
 ·exact .inl h1
 ·exact .inr ⟨b, y, h1, h2, h3, h4, hE _ _ h5⟩
theorem Src.slAt {H h : AHeap} {p : Option Addr} {l : List Int} (hs : Src H h p l) (hE : Ext H h) : SlAt h 1 i1 p l := by
 rcases hs with h1 | ⟨b, y, rfl, rfl, h3, h4, h5⟩
 ·exact h1.1.ext hE
 ·exact slAt_map (g := I) (l := [y]) h5
theorem Src.old {H h : AHeap} {p : Option Addr} {l : List Int} (hs : Src H h p l) (hc : Closed h) (hf : H.fresh ≤ h.fresh) : OldS h p := by
 rcases hs with h1 | ⟨b, y, rfl, rfl, h3, h4, h5⟩
 ·intro x hx
  obtain ⟨k1, k2⟩ := h1.2 x hx
  exact ⟨k1.imp id fun k => by omega, k2⟩
 ·intro x hx
  cases hx
  refine ⟨.inr ?_, rfl⟩
  rcases Nat.lt_or_ge b h.fresh with k | k
  ·exact k
  ·have := hc b h3 k
   rw [h5] at this; cases this
def ComR (H : AHeap) (g : Int) (v : Value) (H' : AHeap) : Prop := (H' = H ∧ ∃ q c, v = .slice q 1 c ∧ SlAt H 1 i1 q [g]) ∨ (H' = H.add (.cells [I g] 1 false false) ∧ ∃ c, v = .slice (some ⟨H.fresh, 0, none⟩) 1 c)
theorem fin_com {P : Program} {H h : AHeap} {lo c : Nat} {l : EL} {rs : Array ResultVar} {p : Option Addr} {g : Int} (hc : Closed H) (hc' : Closed h) (hE : Ext H h) (hs : Src H h p [g]) (hr : resE l rs.toList = some [.slice p 1 c]) : Fin P rs H (ComR H g) ⟨ofA l, [], ext h lo []⟩ := by
 have hg : ∀ b x, H.get b = some x → (ext h lo []).get b = some x := fun b x hx => ext_get_old hc' (hE _ _ hx)
 rcases hs with ⟨h1, h2⟩ | ⟨b, y, rfl, h2, h3, h4, h5⟩
 ·refine ⟨⟨_, _, _, H, rfl, resE_A hr, tidy_of (H0 := H) (ys := []) (ren_ext hc hg (l := []) .nil (by simp) rfl (by simp)) (by exact h2.ren), .inl ⟨rfl, p, c, rfl, h1⟩⟩⟩
 ·cases h2
  refine ⟨⟨_, _, .slice (some ⟨H.fresh, 0, none⟩) 1 c, _, rfl, resE_A hr, tidy_one hc hg ⟨h3, h4⟩ (ext_get_old hc' h5) rfl ?_, .inr ⟨rfl, c, rfl⟩⟩⟩
  simp [packA, renV, renOf_one (H := H) ⟨h3, h4⟩]
theorem trimN_one (y : Int) : trimN [y] = if y = 0 then 0 else 1 := by
 unfold trimN
 simp only [List.length_singleton, trimAt, List.getElem?_cons_zero, Option.some.injEq]
theorem cmpW_less {a : List Int} {y : Int} (hne : a ≠ []) (h : cmpW a [y] < 0) : ∃ x, a = [x] ∧ x < y := by
 match a, hne with
 | [x], _ =>
  refine ⟨x, rfl, ?_⟩
  simp only [cmpW, List.length_singleton, ne_eq, not_true_eq_false, if_false, cmpWT, List.getElem?_cons_zero, Option.getD_some] at h
  split at h
  ·assumption
  ·split at h <;> simp at h
 | x :: z :: r, _ =>
  exfalso
  simp only [cmpW, List.length_cons, List.length_nil] at h
  rw [if_pos (by omega), if_neg (by omega)] at h
  simp at h
theorem valW_pos {a : List Int} (h : DigL a) : 0 ≤ valW a := by
 induction a with
 | nil => simp [valW]
 | cons x r ih =>
  have h1 := h.bd x (by simp)
  have h2 := ih ⟨fun y hy => h.bd y (by simp [hy])⟩
  simp only [valW]; omega
structure ComJ (H : AHeap) (g : Nat) (a : List Int) (y : Int) (p q : Option Addr) (h : AHeap) : Prop where
 clo : Closed h
 ext : Ext H h
 fr : H.fresh ≤ h.fresh
 dig : DigL a
 ne : a ≠ []
 len : a.length ≤ 1000
 one : ∀ x, a = [x] → 1 ≤ x
 fin : y = 0 → ∃ x, a = [x]
 y0 : 0 ≤ y
 y1 : y < 1000000000
 sa : Src H h p a
 sb : y ≠ 0 → Src H h q [y]
 gcd : Nat.gcd (valW a).toNat y.toNat = g
set_option maxHeartbeats 4000000 in
theorem common_c {H : AHeap} {p q : Option Addr} {c e : Nat} {a : List Int} {d : Int} (hp : SlAt H 1 i1 p a) (hp' : OldS H p) (ha : DigL a) (hne : a ≠ []) (hl : a.length ≤ 1000) (hone : ∀ x, a = [x] → 1 ≤ x) (hq : SlAt H 1 i1 q [d]) (hq' : OldS H q) (hd : 0 < d) (hd2 : d < 1000000000) :
  CallT Tryz.prog 104 [.slice p a.length c, .slice q 1 e] H (ComR H ((Nat.gcd (valW a).toNat d.toNat : Nat) : Int)) := by
 refine fn_start Tryz.func104 rfl rfl rfl fun hc => ?_
 obtain ⟨g, hg⟩ : ∃ g, g = Nat.gcd (valW a).toNat d.toNat := ⟨_, rfl⟩
 rw [← hg]
 apply ct_seq
 apply ct_region
 apply seq_plain; exact do_assign rfl; exact rfl
 apply seq_nil
 apply ct_seq
 apply ct_block
 apply ct_loop
 refine lt_meas (α := List Int × Int × (Option Addr × Nat) × (Option Addr × Nat) × AHeap × Nat) (fun s => [(0, .slice s.2.2.1.1 s.1.length s.2.2.1.2), (1, .slice s.2.2.2.1.1 (if s.2.1 = 0 then 0 else 1) s.2.2.2.1.2)]) (fun s => ext s.2.2.2.2.1 s.2.2.2.2.2 []) (fun s => ComJ H g s.1 s.2.1 s.2.2.1.1 s.2.2.2.1.1 s.2.2.2.2.1) (fun s => s.2.1.toNat) (fun s hJ ih => ?_) (a, d, (p, c), (q, e), H, H.fresh)
  ⟨hc, .refl _, Nat.le_refl _, ha, hne, hl, hone, (fun h => absurd h (show ¬ d = 0 by omega)), (show 0 ≤ d by omega), hd2, .inl ⟨hp, hp'⟩, (fun _ => .inl ⟨hq, hq'⟩), hg.symm⟩ ?_ (.refl _)
 rotate_left
 ·show Den.Sub [(0, .slice p a.length c), (1, .slice q (if d = 0 then 0 else 1) e)] _
  rw [if_neg (by omega)]
  (repeat (first | exact sub_nil | apply sub_cons rfl))
 obtain ⟨a, y, ⟨p, c⟩, ⟨q, e⟩, h, lo⟩ := s
 have ih' := fun a' y' p' c' q' e' h' lo' h1 h2 => ih (a', y', (p', c'), (q', e'), h', lo') h1 h2
 simp only at hJ ih' ⊢
 clear ih hp hp' ha hne hl hone hq hq' hd hd2 hg
 have hE := ext_Ext hJ.clo (lo := lo) (L := [])
 by_cases hy : y = 0
 ·obtain ⟨x, rfl⟩ := hJ.fin hy
  subst hy
  have hx := hJ.one x rfl
  have eg : (g : Int) = x := by
   have := hJ.gcd
   simp only [valW, Int.mul_zero, Int.add_zero, Int.toNat_zero, Nat.gcd_zero_right] at this
   omega
  rw [if_pos rfl, eg]
  iterate 2 (apply ct_seq)
  apply ct_region
  apply seq_plain; exact do_move rfl; exact rfl
  apply seq_plain; exact do_lenS rfl rfl rfl; exact rfl
  apply seq_plain; exact do_binInt rfl rfl rfl trivial; exact rfl
  apply seq_nil
  refine ct_cond_f rfl rfl ?_
  apply ct_exit
  apply exit_eq; exact rfl
  apply ct_seq
  apply ct_region
  apply seq_plain; exact do_move rfl; exact rfl
  apply seq_plain; exact do_assign rfl; exact rfl
  apply seq_nil
  apply ct_ret
  exact fin_com hc hJ.clo hJ.ext hJ.sa rfl
 ·rw [if_neg hy]
  have sb := hJ.sb hy
  have hy0 : 0 < y := by have := hJ.y0; omega
  have sla := (hJ.sa.slAt hJ.ext).ext hE
  have slb := (sb.slAt hJ.ext).ext hE
  have hcl := hJ.clo
  iterate 2 (apply ct_seq)
  apply ct_region
  apply seq_plain; exact do_move rfl; exact rfl
  apply seq_plain; exact do_lenS rfl rfl rfl; exact rfl
  apply seq_plain; exact do_binInt rfl rfl rfl trivial; exact rfl
  apply seq_nil
  refine ct_cond_t rfl rfl ?_
  by_cases hlt : cmpW a [y] < 0
  ·obtain ⟨x, rfl, hxy⟩ := cmpW_less hJ.ne hlt
   have hx := hJ.one x rfl
   have cl := divLess_c (c := c) (e := e) sla (hJ.sa.old hJ.clo hJ.fr).ext slb (by simp) (by simp) hlt
   apply ct_skip
   apply ct_block
   apply ct_seq
   apply ct_region
   iterate 2 (apply seq_plain; exact do_move rfl; exact rfl)
   apply seq_call (ht := rfl); exact cl; exact rfl
   apply seq_plain; exact do_move rfl; exact rfl
   iterate 2 (apply seq_plain; exact do_extract rfl rfl; exact rfl)
   iterate 2 (apply seq_plain; exact do_assign rfl; exact rfl)
   apply seq_nil
   apply ct_region
   iterate 2 (apply seq_plain; exact do_move rfl; exact rfl)
   iterate 2 (apply seq_plain; exact do_assign rfl; exact rfl)
   apply seq_nil
   have ih2 := ih' [y] x q e p c h lo (by omega) ⟨hJ.clo, hJ.ext, hJ.fr, ⟨fun z hz => by rw [List.mem_singleton] at hz; subst hz; exact ⟨hJ.y0, hJ.y1⟩⟩, by simp, by simp, (fun z hz => by cases hz; omega), (fun _ => ⟨y, rfl⟩), by omega, by have := hJ.y1; omega, sb, (fun _ => hJ.sa), by
    have := hJ.gcd
    simp only [valW, Int.mul_zero, Int.add_zero] at this ⊢
    rw [Nat.gcd_comm]; exact this⟩
   rw [if_neg (show ¬ x = 0 by omega)] at ih2
   exact lt_to (by repeat (first | exact sub_nil | apply sub_cons rfl)) (.refl _) ih2
  ·have cd := divOne_c (c := c) (e := e) sla slb hJ.len hJ.dig hy0 hJ.y1 hlt
   rw [dvR_all hy0] at cd
   simp only [ext_fresh, ext_add] at cd
   apply ct_skip
   apply ct_block
   apply ct_seq
   apply ct_region
   iterate 2 (apply seq_plain; exact do_move rfl; exact rfl)
   apply seq_call (ht := rfl); exact cd; exact rfl
   apply seq_plain; exact do_move rfl; exact rfl
   iterate 2 (apply seq_plain; exact do_extract rfl rfl; exact rfl)
   iterate 2 (apply seq_plain; exact do_assign rfl; exact rfl)
   apply seq_nil
   apply ct_region
   iterate 2 (apply seq_plain; exact do_move rfl; exact rfl)
   iterate 2 (apply seq_plain; exact do_assign rfl; exact rfl)
   apply seq_nil
   have hm0 := Int.emod_nonneg (valW a) (show y ≠ 0 by omega)
   have hm1 := Int.emod_lt_of_pos (valW a) hy0
   have hv := valW_pos hJ.dig
   have ih2 := ih' [y] (valW a % y) q e (some ⟨nb h 1, 0, none⟩) 1 (ext h lo ([] ++ [some (.cells ((dvQ a y a.length).map I) 1 false false)] ++ [some (.cells [I (valW a % y)] 1 false false)])) (min lo h.fresh) (by omega) ⟨ext_closed hcl, hJ.ext.trans (ext_Ext hcl), Nat.le_trans hJ.fr (by rw [ext_fresh]; exact nb_ge _), ⟨fun z hz => by rw [List.mem_singleton] at hz; subst hz; exact ⟨hJ.y0, hJ.y1⟩⟩, by simp, by simp, (fun z hz => by cases hz; omega), (fun _ => ⟨y, rfl⟩), hm0, by have := hJ.y1; omega, sb.mono (ext_Ext hcl), (fun _ => .inr ⟨nb h 1, _, rfl, rfl, (own_iff.1 (nb_own 1)), Nat.le_trans hJ.fr (nb_ge 1), ext_get_new rfl⟩), by
    have := hJ.gcd
    simp only [valW, Int.mul_zero, Int.add_zero]
    rw [Int.toNat_emod hv (by omega), Nat.gcd_comm, ← Nat.gcd_rec, Nat.gcd_comm]; exact this⟩
   rw [← trimN_one] at ih2
   exact lt_to (by repeat (first | exact sub_nil | apply sub_cons rfl)) ext_base ih2
end Go.Proofs.YtmcecjplgalcgaaGreatDoor
