/- Contracts: whether a table is level. -/
import Derived.Test.YtmcecjplgalcgaaGreatDoorMaB
import Derived.Test.YtmcecjplgalcgaaGreatDoorNuA
import Derived.Test.YtmcecjplgalcgaaGreatDoorNuF
import Derived.Test.YtmcecjplgalcgaaGreatDoorPrL
noncomputable section
namespace Go.Proofs.YtmcecjplgalcgaaGreatDoor
open Go Go.Den
set_option maxRecDepth 100000
def hiB (most : Int) (x y : Mk) : Bool := decide (x.h - y.h > most)
def levelB (l : List Mk) (most : Int) : Bool := !(l.any fun x => l.any fun y => hiB most x y)
theorem level11_c {H : AHeap} {x y : Mk} {most : Int} {bx bm zx zm : Nat} {sx rx sm rm : Bool} (gx : GoodM x) (gy : GoodM y) (hx : H.get bx = some (.cells (mk x) zx sx rx)) (hm : H.get bm = some (.cells [I most] zm sm rm)) :
  Ret Tryz.prog 48 [.agg ⟨mk y⟩, .pointer (some ⟨bx, 0, none⟩), .pointer (some ⟨bm, 0, none⟩)] H (.bool (hiB most x y)) H := by
 refine fn_start Tryz.func48 rfl rfl rfl fun hc => ?_
 have x5 := gx.h1
 have x6 := gx.h2
 have y5 := gy.h1
 have y6 := gy.h2
 apply ct_seq
 apply ct_region
 apply seq_newP; exact do_box rfl rfl rfl; exact rfl
 apply seq_plain; exact do_assign rfl; exact rfl
 apply seq_nil
 apply ct_seq
 apply ct_region
 apply seq_plain; exact do_fieldAddr rfl rfl; exact rfl
 apply seq_plain; exact do_load rfl (by exact ext_get_old (by assumption) (by assumption)) rfl (by exact rfl); exact rfl
 apply seq_plain; exact do_fieldAddr rfl rfl; exact rfl
 apply seq_plain; exact do_load rfl (by exact ext_get_new rfl) rfl (by exact rfl); exact rfl
 apply seq_plain; exact do_sub rfl rfl (by omega); exact rfl
 apply seq_plain; exact do_load rfl (by exact ext_get_old (by assumption) (by assumption)) rfl (by exact rfl); exact rfl
 apply seq_plain; exact do_binInt rfl rfl rfl trivial; exact rfl
 apply seq_plain; exact do_assign rfl; exact rfl
 apply seq_nil
 apply ct_ret
 exact fin_flat hc rfl rfl ⟨rfl, rfl⟩
theorem level1_c {H : AHeap} {q : Option Addr} {c : Nat} {l : List Mk} {x : Mk} {most : Int} {bs bm zs zm : Nat} {ss rs sm rm : Bool} (hl : SlAt H 3 mk q l) (hn : l.length < 1000000000000) (g : ∀ y ∈ l, GoodM y) (gx : GoodM x) (hs : H.get bs = some (.cells [.slice q l.length c] zs ss rs)) (hm : H.get bm = some (.cells [I most] zm sm rm)) :
  Ret Tryz.prog 47 [.agg ⟨mk x⟩, .pointer (some ⟨bs, 0, none⟩), .pointer (some ⟨bm, 0, none⟩)] H (.bool (l.any fun y => hiB most x y)) H := by
 refine fn_start Tryz.func47 rfl rfl rfl fun hc => ?_
 apply ct_seq
 apply ct_region
 apply seq_newP; exact do_box rfl rfl rfl; exact rfl
 apply seq_plain; exact do_assign rfl; exact rfl
 apply seq_nil
 apply ct_seq
 apply ct_region
 apply seq_plain; exact do_load rfl (by exact ext_get_old (by assumption) (by assumption)) rfl (by exact rfl); exact rfl
 apply seq_plain; exact do_makeFunc rfl rfl; exact rfl
 apply seq_call (ht := rfl); exact containsMk_c (p := fun y => hiB most x y) (hl.ext (ext_Ext hc)) hn fun y hy H' hE => level11_c gx (g y hy) (hE _ _ (ext_get_new rfl)) (hE _ _ (ext_get_old hc hm)); exact rfl
 apply seq_plain; exact do_assign rfl; exact rfl
 apply seq_nil
 apply ct_ret
 exact fin_flat hc rfl rfl ⟨rfl, rfl⟩
theorem level_c {H : AHeap} {q : Option Addr} {c : Nat} {l : List Mk} {most : Int} (hl : SlAt H 3 mk q l) (hlow : LowS q c l.length) (hn : l.length ≤ 256) (g : ∀ y ∈ l, GoodM y) (m1 : 0 ≤ most) (m2 : most ≤ 999999999) :
  Ret Tryz.prog 14 [.slice q l.length c, I most] H (.tuple ⟨[.bool (levelB l most), I 0]⟩) H := by
 refine fn_start Tryz.func14 rfl rfl rfl fun hc => ?_
 have hx := fun lo L => examMarks_c (H := ext H lo L) (most := 256) (hl.ext (ext_Ext hc)) hlow hn (by omega) g
 have eo : whenL (outL most 0 999999999) 3 = 0 := by rw [outL_in m1 m2]; rfl
 apply ct_seq
 apply ct_region
 iterate 2 (apply seq_newP; exact do_box rfl rfl rfl; exact rfl)
 iterate 2 (apply seq_plain; exact do_assign rfl; exact rfl)
 apply seq_nil
 iterate 2 (apply ct_seq)
 apply ct_draw (by assumption); decide +kernel
 apply sd_look (hfree := rfl); exact do_load rfl (by exact ext_get_new rfl) rfl (by exact rfl); exact rfl
 apply sd_call (ht := rfl); exact hx _ _; exact rfl
 apply sd_look (hfree := rfl); exact do_load rfl (by exact ext_get_new rfl) rfl (by exact rfl); exact rfl
 apply sd_call (ht := rfl); exact within89; exact rfl
 apply sd_newS (hfree := rfl); exact do_buildSlice rfl rfl rfl rfl rfl rfl rfl; exact rfl
 apply sd_callM (ht := rfl) (hw := rfl); decide +kernel; exact first84 (l := [_, _]) (slAt_map (ext_get_new rfl)) (by simp); exact rfl
 apply sd_plain (hfree := rfl); intro _; exact do_assign rfl; exact rfl
 apply sd_nil
 apply ct_seq
 apply ct_region
 apply seq_plain; exact do_move rfl; exact rfl
 apply seq_plain; exact do_binInt rfl rfl rfl trivial; exact rfl
 apply seq_nil
 rw [eo]
 refine ct_cond_f rfl rfl ?_
 apply ct_skip
 apply ct_seq
 apply ct_region
 apply seq_plain; exact do_load rfl (by exact ext_get_new rfl) rfl (by exact rfl); exact rfl
 apply seq_plain; exact do_makeFunc rfl rfl; exact rfl
 apply seq_call (ht := rfl); exact containsMk_c (p := fun x => l.any fun y => hiB most x y) (hl.ext (ext_Ext hc)) (by omega) fun x hx H' hE => level1_c (hl.ext ((ext_Ext hc).trans hE)) (by omega) g (g x hx) (hE _ _ (ext_get_new rfl)) (hE _ _ (ext_get_new rfl)); exact rfl
 apply seq_plain; exact do_unOp rfl rfl; exact rfl
 apply seq_plain; exact do_assign rfl; exact rfl
 apply seq_nil
 apply ct_seq
 apply ct_region
 apply seq_plain; exact do_move rfl; exact rfl
 iterate 2 (apply seq_plain; exact do_assign rfl; exact rfl)
 apply seq_nil
 apply ct_ret
 exact fin_flat hc rfl rfl ⟨rfl, rfl⟩
end Go.Proofs.YtmcecjplgalcgaaGreatDoor
/- The reference's numbers: texts (slash, digits, values). -/
noncomputable section
namespace Go.Proofs.YtmcecjplgalcgaaGreatDoor
open Go Go.Den
set_option maxRecDepth 100000
theorem slashI_at : ∀ {s : List UInt8} {i : Nat} (h : i < s.length), (∀ j (hj : j < s.length), j < i → s[j].toNat ≠ 47) → s[i].toNat = 47 → slashI s = i
 | [], i, h, _, _ => by simp at h
 | b :: r, 0, h, _, e => by simp only [List.getElem_cons_zero] at e; simp [slashI, e]
 | b :: r, i + 1, h, hJ, e => by
  simp only [List.getElem_cons_succ] at e
  have h0 := hJ 0 (by simp) (by omega)
  simp only [List.getElem_cons_zero] at h0
  simp only [slashI, if_neg h0]
  rw [slashI_at (by simpa using h) (fun j hj hji => by
   have := hJ (j + 1) (by simpa using hj) (by omega)
   simpa using this) e]
theorem slashI_none : ∀ {s : List UInt8}, (∀ j (hj : j < s.length), s[j].toNat ≠ 47) → slashI s = s.length
 | [], _ => rfl
 | b :: r, hJ => by
  have h0 := hJ 0 (by simp)
  simp only [List.getElem_cons_zero] at h0
  simp only [slashI, if_neg h0]
  rw [slashI_none fun j hj => by
   have := hJ (j + 1) (by simpa using hj)
   simpa using this]
  simp
theorem slash_c {H : AHeap} {s : List UInt8} (hn : s.length < 1000000000000) : Ret Tryz.prog 97 [.string (tx s)] H (I (slashI s)) H := by
 refine fn_start Tryz.func97 rfl rfl rfl fun hc => ?_
 apply ct_seq
 apply ct_region
 apply seq_plain; exact do_assign rfl; exact rfl
 apply seq_nil
 iterate 2 (apply ct_seq)
 apply ct_region
 apply seq_plain; exact do_assign rfl; exact rfl
 apply seq_nil
 apply ct_block
 apply ct_loop
 refine lt_up (fun i => [(0, .string (tx s)), (3, I i)]) (fun i => ∀ j (hj : j < s.length), j < i → s[j].toNat ≠ 47) s.length (fun i hi hJ ih => ?_) 0 (by omega) (by intros; omega) (by repeat (first | exact sub_nil | apply sub_cons rfl))
 iterate 2 (apply ct_seq)
 apply ct_region
 iterate 2 (apply seq_plain; exact do_move rfl; exact rfl)
 apply seq_plain; exact do_lenB rfl rfl rfl; exact rfl
 apply seq_plain; exact do_binInt rfl rfl rfl trivial; exact rfl
 apply seq_nil
 refine ct_cond rfl (fun h1 => ?_) (fun h1 => ?_)
 ·simp only [decide_eq_true_eq, Int.ofNat_lt] at h1
  apply ct_skip
  apply ct_seq
  apply ct_block
  apply ct_seq
  apply ct_region
  iterate 2 (apply seq_plain; exact do_move rfl; exact rfl)
  apply seq_plain; exact do_indexB rfl rfl rfl (by exact idx_nat (by omega)) (by omega); exact rfl
  apply seq_plain; exact do_binInt rfl rfl rfl trivial; exact rfl
  apply seq_nil
  refine ct_cond rfl (fun h2 => ?_) (fun h2 => ?_)
  ·have h2 : s[i].toNat = 47 := by simp at h2; omega
   apply ct_seq
   apply ct_region
   apply seq_plain; exact do_move rfl; exact rfl
   apply seq_plain; exact do_assign rfl; exact rfl
   apply seq_nil
   apply ct_ret
   refine fin_flat hc rfl rfl ⟨?_, rfl⟩
   rw [slashI_at h1 hJ h2]; rfl
  ·have h2 : s[i].toNat ≠ 47 := by simp at h2; omega
   apply ct_skip
   apply ct_region
   apply seq_plain; exact do_move rfl; exact rfl
   apply seq_plain; exact do_succ rfl (by omega); exact rfl
   apply seq_plain; exact do_assign rfl; exact rfl
   apply seq_nil
   refine lt_sub ?_ (ih (i + 1) (by omega) (by omega) fun j hj hji => ?_)
   ·(repeat (first | exact sub_nil | apply sub_cons rfl))
   ·rcases Nat.lt_or_ge j i with h | h
    ·exact hJ j hj h
    ·have : j = i := by omega
     subst this; exact h2
 ·simp only [decide_eq_false_iff_not, Int.ofNat_lt] at h1
  apply ct_exit
  apply exit_eq; exact rfl
  apply ct_seq
  apply ct_region
  apply seq_plain; exact do_move rfl; exact rfl
  apply seq_plain; exact do_lenB rfl rfl rfl; exact rfl
  apply seq_plain; exact do_assign rfl; exact rfl
  apply seq_nil
  apply ct_ret
  refine fin_flat hc rfl rfl ⟨?_, rfl⟩
  rw [slashI_none fun j hj => hJ j hj (by omega)]; rfl
theorem digits_c {H : AHeap} {s : List UInt8} (hn : s.length < 1000000000000) (hd : s.all isDig = true) : Ret Tryz.prog 196 [.string (tx s)] H (.bool true) H := by
 refine fn_start Tryz.func196 rfl rfl rfl fun hc => ?_
 apply ct_seq
 apply ct_region
 apply seq_plain; exact do_assign rfl; exact rfl
 apply seq_nil
 iterate 2 (apply ct_seq)
 apply ct_region
 apply seq_plain; exact do_assign rfl; exact rfl
 apply seq_nil
 apply ct_block
 apply ct_loop
 refine lt_up (fun i => [(0, .string (tx s)), (3, I i)]) (fun _ => True) s.length (fun i hi hJ ih => ?_) 0 (by omega) trivial (by repeat (first | exact sub_nil | apply sub_cons rfl))
 iterate 2 (apply ct_seq)
 apply ct_region
 iterate 2 (apply seq_plain; exact do_move rfl; exact rfl)
 apply seq_plain; exact do_lenB rfl rfl rfl; exact rfl
 apply seq_plain; exact do_binInt rfl rfl rfl trivial; exact rfl
 apply seq_nil
 refine ct_cond rfl (fun h1 => ?_) (fun h1 => ?_)
 ·simp only [decide_eq_true_eq, Int.ofNat_lt] at h1
  have hb := isDig_iff.1 (List.all_eq_true.1 hd s[i] (List.getElem_mem h1))
  have e1 : decide ((s[i].toNat : Int) < 48) = false := decide_eq_false (by omega)
  have e2 : decide ((s[i].toNat : Int) > 57) = false := decide_eq_false (by omega)
  apply ct_skip
  apply ct_seq
  apply ct_block
  apply ct_seq
  apply ct_region
  iterate 2 (apply seq_plain; exact do_move rfl; exact rfl)
  apply seq_plain; exact do_indexB rfl rfl rfl (by exact idx_nat (by omega)) (by omega); exact rfl
  apply seq_plain; exact do_binInt rfl rfl rfl trivial; exact rfl
  apply seq_plain; exact do_move rfl; exact rfl
  rw [e1]
  iterate 2 (apply seq_guard (hd := rfl) (hl := rfl); exact do_move rfl; exact rfl)
  apply seq_guard (hd := rfl) (hl := rfl); exact do_indexB rfl rfl rfl (by exact idx_nat (by omega)) (by omega); exact rfl
  apply seq_guard (hd := rfl) (hl := rfl); exact do_binInt rfl rfl rfl trivial; exact rfl
  apply seq_plain; exact do_pick_f rfl rfl; exact rfl
  apply seq_nil
  rw [e2]
  skip
  refine ct_cond_f rfl rfl ?_
  apply ct_skip
  apply ct_region
  apply seq_plain; exact do_move rfl; exact rfl
  apply seq_plain; exact do_succ rfl (by omega); exact rfl
  apply seq_plain; exact do_assign rfl; exact rfl
  apply seq_nil
  refine lt_sub ?_ (ih (i + 1) (by omega) (by omega) trivial)
  (repeat (first | exact sub_nil | apply sub_cons rfl))
 ·apply ct_exit
  apply exit_eq; exact rfl
  apply ct_seq
  apply ct_region
  apply seq_plain; exact do_assign rfl; exact rfl
  apply seq_nil
  apply ct_ret
  exact fin_flat hc rfl rfl ⟨rfl, rfl⟩
theorem valB_take {s : List UInt8} {i : Nat} (h : i < s.length) : valB (s.take (i + 1)) = 10 * valB (s.take i) + (s[i].toNat : Int) - 48 := by
 rw [List.take_succ_eq_append_getElem h, valB_snoc]
theorem all_take {s : List UInt8} (hd : s.all isDig = true) (i : Nat) : (s.take i).all isDig = true := by
 rw [List.all_eq_true] at hd ⊢
 exact fun x hx => hd x (List.mem_of_mem_take hx)
theorem all_drop {s : List UInt8} (hd : s.all isDig = true) (i : Nat) : (s.drop i).all isDig = true := by
 rw [List.all_eq_true] at hd ⊢
 exact fun x hx => hd x (List.mem_of_mem_drop hx)
theorem valB_small {s : List UInt8} (hn : s.length ≤ 18) (hd : s.all isDig = true) {i : Nat} (hi : i < s.length) : 0 ≤ valB (s.take i) ∧ valB (s.take i) < 100000000000000000 := by
 obtain ⟨h1, h2⟩ := valB_bd _ (all_take hd i)
 refine ⟨h1, Int.lt_of_lt_of_le h2 ?_⟩
 have : (10 : Int) ^ 17 = 100000000000000000 := by decide
 rw [← this]
 have := Nat.pow_le_pow_right (n := 10) (by omega) (show (s.take i).length ≤ 17 by rw [List.length_take]; omega)
 exact_mod_cast this
theorem value_c {H : AHeap} {s : List UInt8} (hn : s.length ≤ 18) (hd : s.all isDig = true) : Ret Tryz.prog 98 [.string (tx s)] H (I (valB s)) H := by
 refine fn_start Tryz.func98 rfl rfl rfl fun hc => ?_
 apply ct_seq
 apply ct_region
 apply seq_plain; exact do_assign rfl; exact rfl
 apply seq_nil
 apply ct_seq
 apply ct_region
 apply seq_plain; exact do_assign rfl; exact rfl
 apply seq_nil
 iterate 2 (apply ct_seq)
 apply ct_region
 apply seq_plain; exact do_assign rfl; exact rfl
 apply seq_nil
 apply ct_block
 apply ct_loop
 refine lt_up (fun i => [(0, .string (tx s)), (3, I (valB (s.take i))), (4, I i)]) (fun _ => True) s.length (fun i hi hJ ih => ?_) 0 (by omega) trivial (by repeat (first | exact sub_nil | apply sub_cons rfl))
 iterate 2 (apply ct_seq)
 apply ct_region
 iterate 2 (apply seq_plain; exact do_move rfl; exact rfl)
 apply seq_plain; exact do_lenB rfl rfl rfl; exact rfl
 apply seq_plain; exact do_binInt rfl rfl rfl trivial; exact rfl
 apply seq_nil
 refine ct_cond rfl (fun h1 => ?_) (fun h1 => ?_)
 ·simp only [decide_eq_true_eq, Int.ofNat_lt] at h1
  have hb := isDig_iff.1 (List.all_eq_true.1 hd s[i] (List.getElem_mem h1))
  obtain ⟨b1, b2⟩ := valB_small hn hd h1
  have ih := ih (i + 1) (by omega) (by omega) trivial
  rw [valB_take h1] at ih
  obtain ⟨v, hv⟩ : ∃ v, v = valB (s.take i) := ⟨_, rfl⟩
  rw [← hv] at ih b1 b2 ⊢
  apply ct_skip
  apply ct_seq
  apply ct_block
  apply ct_region
  apply seq_plain; exact do_move rfl; exact rfl
  apply seq_plain; exact do_binInt rfl rfl rfl trivial; exact rfl
  iterate 2 (apply seq_plain; exact do_move rfl; exact rfl)
  apply seq_plain; exact do_indexB rfl rfl rfl (by exact idx_nat (by omega)) (by omega); exact rfl
  apply seq_plain; exact do_convInt rfl rfl rfl; exact rfl
  iterate 2 (apply seq_plain; exact do_binInt rfl rfl rfl trivial; exact rfl)
  apply seq_plain; exact do_assign rfl; exact rfl
  apply seq_nil
  apply ct_region
  apply seq_plain; exact do_move rfl; exact rfl
  apply seq_plain; exact do_succ rfl (by omega); exact rfl
  apply seq_plain; exact do_assign rfl; exact rfl
  apply seq_nil
  have e : wrapI IntKind.i64 (IntKind.i64.wrap (IntKind.i64.wrap (10 * v) + IntKind.i64.wrap (s[i].toNat : Int)) - 48) = I (10 * v + (s[i].toNat : Int) - 48) := by
   rw [wrap_i64 (n := 10 * v) (by omega), wrap_i64 (n := (s[i].toNat : Int)) (by omega), wrap_i64 (by omega), wrapI, wrap_i64 (by omega)]
  rw [e]
  exact lt_sub (by repeat (first | exact sub_nil | apply sub_cons rfl)) ih
 ·have h1 : i = s.length := by simp at h1; omega
  subst h1
  rw [List.take_length]
  apply ct_exit
  apply exit_eq; exact rfl
  apply ct_seq
  apply ct_region
  apply seq_plain; exact do_move rfl; exact rfl
  apply seq_plain; exact do_assign rfl; exact rfl
  apply seq_nil
  apply ct_ret
  exact fin_flat hc rfl rfl ⟨rfl, rfl⟩
end Go.Proofs.YtmcecjplgalcgaaGreatDoor
