/- Contracts: measured points of a table. -/
import Derived.Test.YtmcecjplgalcgaaGreatDoorHaB
import Derived.Test.YtmcecjplgalcgaaGreatDoorSrL
import Derived.Test.YtmcecjplgalcgaaGreatDoorSxK
import Derived.Test.YtmcecjplgalcgaaGreatDoorHkA
noncomputable section
namespace Go.Proofs.YtmcecjplgalcgaaGreatDoor
open Go Go.Den
set_option maxRecDepth 100000
structure Mk where
 x : Int
 y : Int
 h : Int
abbrev mk (m : Mk) : List Value := [I m.x, I m.y, I m.h]
theorem mk_len (m : Mk) : (mk m).length = 3 := rfl
structure GoodM (m : Mk) : Prop where
 x1 : -10000 ≤ m.x
 x2 : m.x ≤ 10000
 y1 : -10000 ≤ m.y
 y2 : m.y ≤ 10000
 h1 : -999999999 ≤ m.h
 h2 : m.h ≤ 999999999
theorem examMk_c {H : AHeap} {q : Option Addr} {c g : Nat} {caps : List Value} {l : List Mk} {most : Nat} {err : List Mk → Mk → Int} (hs : SlAt H 3 mk q l) (hlow : LowS q c l.length) (hn : l.length < 1000000000000)
  (hp : ∀ i (hi : i < l.length), ∀ H', Ext H H' → Ret Tryz.prog g (.agg ⟨mk l[i]⟩ :: .slice q i c :: caps) H' (I (err (l.take i) l[i])) H') :
  Ret Tryz.prog 42 [.slice q l.length c, I most, .func (.func g) #[] ⟨caps⟩] H (I (if l.length > most then 5 else restG err l)) H := by
 refine fn_start Tryz.func42 rfl rfl rfl fun hc => ?_
 apply ct_seq
 apply ct_region
 apply seq_plain; exact do_assign rfl; exact rfl
 apply seq_nil
 iterate 2 (apply ct_seq)
 apply ct_region
 apply seq_plain; exact do_move rfl; exact rfl
 apply seq_plain; exact do_lenS rfl rfl rfl; exact rfl
 apply seq_plain; exact do_move rfl; exact rfl
 apply seq_plain; exact do_binInt rfl rfl rfl trivial; exact rfl
 apply seq_nil
 refine ct_cond rfl (fun h0 => ?_) (fun h0 => ?_)
 ·have h0 : l.length > most := by simp at h0; omega
  apply ct_seq
  apply ct_region
  apply seq_plain; exact do_assign rfl; exact rfl
  apply seq_nil
  apply ct_ret
  refine fin_flat hc rfl rfl ⟨?_, rfl⟩
  rw [if_pos h0]; rfl
 have h0 : ¬ l.length > most := by simp at h0; omega
 rw [if_neg h0]
 apply ct_skip
 iterate 2 (apply ct_seq)
 apply ct_region
 apply seq_plain; exact do_move rfl; exact rfl
 apply seq_plain; exact do_lenS rfl rfl rfl; exact rfl
 apply seq_plain; exact do_move rfl; exact rfl
 apply seq_nil
 apply ct_block
 apply ct_loop
 refine lt_meas (α := Nat × List (Option ABlk)) (fun a => [(0, .slice q l.length c), (2, .func (.func g) #[] ⟨caps⟩), (14, .slice q l.length c), (15, I l.length), (16, I a.1)]) (fun a => ext H H.fresh a.2) (fun a => a.1 ≤ l.length ∧ ∀ j, j < a.1 → errG err l j = 0) (fun a => l.length - a.1) (fun a ha ih => ?_) (0, []) ⟨by simp, fun j hj => by simp at hj⟩ (by repeat (first | exact sub_nil | apply sub_cons rfl)) (.refl _)
 obtain ⟨i, L⟩ := a
 obtain ⟨hi, hJ⟩ := ha
 simp only at hi hJ ih ⊢
 have ih' := fun i' L' a1 a2 a3 => ih (i', L') a1 ⟨a2, a3⟩
 simp only at ih'
 clear ih
 apply ct_seq
 apply ct_region
 apply seq_plain; exact do_binInt rfl rfl rfl trivial; exact rfl
 apply seq_nil
 apply ct_seq
 refine ct_cond rfl (fun h1 => ?_) (fun h1 => ?_)
 ·simp only [decide_eq_true_eq, Int.ofNat_lt] at h1
  obtain ⟨b, o, cs, z, s, ro, rfl, hg, hw⟩ := hs.out (by intro e; rw [e] at h1; simp at h1)
  have hcap := hlow.cap
  apply ct_skip
  apply ct_seq
  apply ct_block
  apply ct_seq
  apply ct_region
  apply seq_plain; exact do_move rfl; exact rfl
  apply seq_plain; exact do_indexAddrS rfl rfl rfl (by exact idx_nat (by omega)); exact rfl
  apply seq_plain; exact do_load rfl (by exact ext_get_old (by assumption) (by assumption)) rfl (by exact pt_sl (by assumption) (by omega)); exact rfl
  apply seq_newP; exact do_alloc rfl rfl; exact rfl
  apply seq_plain; exact do_assign rfl; exact rfl
  apply seq_putC (hc := by assumption); rotate_left; exact do_store rfl rfl (by exact ext_get_new List.getElem?_concat_length) rfl rfl (nb_own _); rotate_left; exact (by simp)
  apply ct_seq
  apply ct_draw (by assumption); decide +kernel
  apply sd_plain (hfree := rfl); intro _; exact do_move rfl; exact rfl
  apply sd_look (hfree := rfl); exact do_load rfl (by exact ext_get_new (getApp getSetLast)) rfl (by exact rfl); exact rfl
  iterate 2 (apply sd_plain (hfree := rfl); intro _; exact do_move rfl; exact rfl)
  apply sd_look (hfree := rfl); exact do_sliceTo rfl rfl rfl (by intro e; cases e) (by rintro _ ⟨⟩; rfl) (by omega); exact rfl
  skip
  apply sd_call (ht := rfl); exact hp i h1 _ (ext_Ext hc); exact rfl
  apply sd_plain (hfree := rfl); intro _; exact do_assign rfl; exact rfl
  apply sd_nil
  apply ct_seq
  apply ct_region
  apply seq_plain; exact do_move rfl; exact rfl
  apply seq_plain; exact do_binInt rfl rfl rfl trivial; exact rfl
  apply seq_nil
  refine ct_cond rfl (fun h2 => ?_) (fun h2 => ?_)
  ·have h2 : err (l.take i) l[i] ≠ 0 := by simpa using h2
   apply ct_seq
   apply ct_region
   apply seq_plain; exact do_move rfl; exact rfl
   apply seq_plain; exact do_assign rfl; exact rfl
   apply seq_nil
   apply ct_ret
   refine fin_flat hc rfl rfl ⟨?_, rfl⟩
   rw [restG_at h1 hJ (by rw [errG_at h1]; exact h2), errG_at h1]; rfl
  ·have h2 : err (l.take i) l[i] = 0 := by simpa using h2
   apply ct_skip
   apply ct_region
   apply seq_plain; exact do_succ rfl (by omega); exact rfl
   apply seq_plain; exact do_move rfl; exact rfl
   apply seq_nil
   refine lt_to (by repeat (first | exact sub_nil | apply sub_cons rfl)) (.refl _) (ih' (i + 1) _ (by omega) (by omega) fun j hj => ?_)
   rcases Nat.lt_or_ge j i with h | h
   ·exact hJ j h
   ·obtain rfl : j = i := by omega
    rw [errG_at h1]; exact h2
 ·have h1 : i = l.length := by simp at h1; omega
  subst h1
  apply ct_exit
  apply exit_eq; exact rfl
  apply ct_seq
  apply ct_region
  apply seq_plain; exact do_assign rfl; exact rfl
  apply seq_nil
  apply ct_ret
  refine fin_flat hc rfl rfl ⟨?_, rfl⟩
  rw [restG_none hJ]; rfl
theorem indexMk_c {H : AHeap} {q : Option Addr} {c g : Nat} {caps : List Value} {l : List Mk} {p : Mk → Bool} (hs : SlAt H 3 mk q l) (hn : l.length < 1000000000000)
  (hp : ∀ x ∈ l, ∀ H', Ext H H' → Ret Tryz.prog g (.agg ⟨mk x⟩ :: caps) H' (.bool (p x)) H') :
  Ret Tryz.prog 95 [.slice q l.length c, .func (.func g) #[] ⟨caps⟩] H (I (idxOf p l 0)) H := by
 refine fn_start Tryz.func95 rfl rfl rfl fun hc => ?_
 apply ct_seq
 apply ct_region
 apply seq_plain; exact do_assign rfl; exact rfl
 apply seq_nil
 iterate 2 (apply ct_seq)
 apply ct_region
 apply seq_plain; exact do_move rfl; exact rfl
 apply seq_plain; exact do_lenS rfl rfl rfl; exact rfl
 apply seq_plain; exact do_move rfl; exact rfl
 apply seq_nil
 apply ct_block
 apply ct_loop
 refine lt_up (fun i => [(0, .slice q l.length c), (1, .func (.func g) #[] ⟨caps⟩), (7, I l.length), (8, I i)]) (fun i => ∀ j (hj : j < l.length), j < i → p l[j] = false) l.length (fun i hi hJ ih => ?_) 0 (by omega) (by intros; omega) (by repeat (first | exact sub_nil | apply sub_cons rfl))
 apply ct_seq
 apply ct_region
 apply seq_plain; exact do_binInt rfl rfl rfl trivial; exact rfl
 apply seq_nil
 apply ct_seq
 refine ct_cond rfl (fun hb => ?_) (fun hb => ?_)
 ·simp only [decide_eq_true_eq, Int.ofNat_lt] at hb
  obtain ⟨b, o, cs, z, s, ro, rfl, hg, hw⟩ := hs.out (by intro e; rw [e] at hb; simp at hb)
  apply ct_skip
  apply ct_seq
  apply ct_block
  apply ct_seq
  apply ct_region
  apply seq_plain; exact do_move rfl; exact rfl
  apply seq_plain; exact do_assign rfl; exact rfl
  apply seq_nil
  apply ct_seq
  apply ct_region
  iterate 3 (apply seq_plain; exact do_move rfl; exact rfl)
  apply seq_plain; exact do_indexAddrS rfl rfl rfl (by exact idx_nat (by omega)); exact rfl
  apply seq_plain; exact do_load rfl (by exact ext_get_old (by assumption) (by assumption)) rfl (by exact pt_sl (by assumption) (by omega)); exact rfl
  apply seq_call (ht := rfl); exact hp _ (List.getElem_mem hb) _ (ext_Ext hc); exact rfl
  apply seq_nil
  refine ct_cond rfl (fun h2 => ?_) (fun h2 => ?_)
  ·apply ct_seq
   apply ct_region
   apply seq_plain; exact do_move rfl; exact rfl
   apply seq_plain; exact do_assign rfl; exact rfl
   apply seq_nil
   apply ct_ret
   refine fin_flat hc rfl rfl ⟨?_, rfl⟩
   rw [idxOf_at hb 0 hJ h2]; simp [packA]
  ·apply ct_skip
   apply ct_region
   apply seq_plain; exact do_succ rfl (by omega); exact rfl
   apply seq_plain; exact do_move rfl; exact rfl
   apply seq_nil
   refine lt_sub ?_ (ih (i + 1) (by omega) (by omega) fun j hj hji => ?_)
   ·(repeat (first | exact sub_nil | apply sub_cons rfl))
   ·rcases Nat.lt_or_ge j i with h | h
    ·exact hJ j hj h
    ·have : j = i := by omega
     subst this; exact h2
 ·simp only [decide_eq_false_iff_not, Int.ofNat_lt] at hb
  apply ct_exit
  apply exit_eq; exact rfl
  apply ct_seq
  apply ct_region
  apply seq_plain; exact do_assign rfl; exact rfl
  apply seq_nil
  apply ct_ret
  refine fin_flat hc rfl rfl ⟨?_, rfl⟩
  rw [idxOf_none 0 fun j hj => hJ j hj (by omega)]; rfl
theorem containsMk_c {H : AHeap} {q : Option Addr} {c g : Nat} {caps : List Value} {l : List Mk} {p : Mk → Bool} (hs : SlAt H 3 mk q l) (hn : l.length < 1000000000000)
  (hp : ∀ x ∈ l, ∀ H', Ext H H' → Ret Tryz.prog g (.agg ⟨mk x⟩ :: caps) H' (.bool (p x)) H') :
  Ret Tryz.prog 46 [.slice q l.length c, .func (.func g) #[] ⟨caps⟩] H (.bool (l.any p)) H := by
 refine fn_start Tryz.func46 rfl rfl rfl fun hc => ?_
 apply ct_seq
 apply ct_region
 apply seq_plain; exact do_assign rfl; exact rfl
 apply seq_nil
 apply ct_seq
 apply ct_region
 iterate 2 (apply seq_plain; exact do_move rfl; exact rfl)
 apply seq_call (ht := rfl); exact indexMk_c (l := l) (p := p) (hs.ext (ext_Ext hc)) hn fun x hx H' h' => hp x hx H' ((ext_Ext hc).trans h'); exact rfl
 apply seq_plain; exact do_binInt rfl rfl rfl trivial; exact rfl
 apply seq_plain; exact do_assign rfl; exact rfl
 apply seq_nil
 apply ct_ret
 refine fin_flat hc rfl rfl ⟨?_, rfl⟩
 rw [← idxOf_any l 0]; rfl
theorem outL_in {n a b : Int} (h1 : a ≤ n) (h2 : n ≤ b) : outL n a b = false := by
 unfold outL; simp; omega
theorem markCheck_c {H : AHeap} {q : Option Addr} {n c : Nat} {m : Mk} (g : GoodM m) : Ret Tryz.prog 43 [.agg ⟨mk m⟩, .slice q n c] H (I 0) H := by
 refine fn_start Tryz.func43 rfl rfl rfl fun hc => ?_
 apply ct_seq
 apply ct_region
 apply seq_newP; exact do_box rfl rfl rfl; exact rfl
 apply seq_plain; exact do_assign rfl; exact rfl
 apply seq_nil
 apply ct_seq
 apply ct_draw (by assumption); decide +kernel
 iterate 2 (apply sd_plain (hfree := rfl); intro _; exact do_fieldAddr rfl rfl; exact rfl)
 apply sd_look (hfree := rfl); exact do_load rfl (by exact ext_get_new rfl) rfl (by exact rfl); exact rfl
 apply sd_call (ht := rfl); exact within89; exact rfl
 iterate 2 (apply sd_plain (hfree := rfl); intro _; exact do_fieldAddr rfl rfl; exact rfl)
 apply sd_look (hfree := rfl); exact do_load rfl (by exact ext_get_new rfl) rfl (by exact rfl); exact rfl
 apply sd_call (ht := rfl); exact within89; exact rfl
 apply sd_plain (hfree := rfl); intro _; exact do_fieldAddr rfl rfl; exact rfl
 apply sd_look (hfree := rfl); exact do_load rfl (by exact ext_get_new rfl) rfl (by exact rfl); exact rfl
 apply sd_call (ht := rfl); exact within89; exact rfl
 apply sd_newS (hfree := rfl); exact do_buildSlice rfl rfl rfl rfl rfl rfl rfl; exact rfl
 apply sd_callM (ht := rfl) (hw := rfl); decide +kernel; exact first84 (l := [_, _, _]) (slAt_map (ext_get_new rfl)) (by simp); exact rfl
 apply sd_plain (hfree := rfl); intro _; exact do_assign rfl; exact rfl
 apply sd_nil
 apply ct_ret
 refine fin_flat hc rfl rfl ⟨?_, rfl⟩
 rw [outL_in g.x1 g.x2, outL_in g.y1 g.y2, outL_in g.h1 g.h2]; rfl
theorem restG_zeros {α : Type} {l : List α} : restG (fun (_ : List α) (_ : α) => (0 : Int)) l = 0 := restG_none fun j hj => by rw [errG_at hj]
theorem examMarks_c {H : AHeap} {q : Option Addr} {c : Nat} {l : List Mk} {most : Nat} (hs : SlAt H 3 mk q l) (hlow : LowS q c l.length) (hn : l.length ≤ most) (hm : l.length < 1000000000000) (g : ∀ x ∈ l, GoodM x) :
  Ret Tryz.prog 42 [.slice q l.length c, I most, .func (.func 43) #[] ⟨[]⟩] H (I 0) H := by
 have h := examMk_c (g := 43) (caps := []) (most := most) (err := fun _ _ => 0) hs hlow hm fun i hi H' hE => by
  have := markCheck_c (H := H') (q := q) (n := i) (c := c) (g _ (List.getElem_mem hi))
  exact this
 rw [if_neg (by omega), restG_zeros] at h
 exact h
theorem less_c {H : AHeap} {a b : Mk} (ga : GoodM a) (gb : GoodM b) : Ret Tryz.prog 44 [.agg ⟨mk a⟩, .agg ⟨mk b⟩] H (.agg ⟨mk ⟨a.x - b.x, a.y - b.y, a.h - b.h⟩⟩) H := by
 refine fn_start Tryz.func44 rfl rfl rfl fun hc => ?_
 have x1 := ga.x1; have x2 := ga.x2; have x3 := ga.y1; have x4 := ga.y2; have x5 := ga.h1; have x6 := ga.h2
 have y1 := gb.x1; have y2 := gb.x2; have y3 := gb.y1; have y4 := gb.y2; have y5 := gb.h1; have y6 := gb.h2
 apply ct_seq
 apply ct_region
 iterate 2 (apply seq_newP; exact do_box rfl rfl rfl; exact rfl)
 apply seq_newP; exact do_alloc rfl rfl; exact rfl
 apply seq_nil
 apply ct_seq
 apply ct_region
 iterate 2 (apply seq_plain; exact do_fieldAddr rfl rfl; exact rfl)
 apply seq_plain; exact do_load rfl (by exact ext_get_new rfl) rfl (by exact rfl); exact rfl
 iterate 2 (apply seq_plain; exact do_fieldAddr rfl rfl; exact rfl)
 apply seq_plain; exact do_load rfl (by exact ext_get_new rfl) rfl (by exact rfl); exact rfl
 apply seq_plain; exact do_sub rfl rfl (by omega); exact rfl
 iterate 2 (apply seq_plain; exact do_fieldAddr rfl rfl; exact rfl)
 apply seq_plain; exact do_load rfl (by exact ext_get_new rfl) rfl (by exact rfl); exact rfl
 iterate 2 (apply seq_plain; exact do_fieldAddr rfl rfl; exact rfl)
 apply seq_plain; exact do_load rfl (by exact ext_get_new rfl) rfl (by exact rfl); exact rfl
 apply seq_plain; exact do_sub rfl rfl (by omega); exact rfl
 apply seq_plain; exact do_build rfl rfl rfl rfl; exact rfl
 apply seq_plain; exact do_fieldAddr rfl rfl; exact rfl
 apply seq_plain; exact do_load rfl (by exact ext_get_new rfl) rfl (by exact rfl); exact rfl
 apply seq_plain; exact do_fieldAddr rfl rfl; exact rfl
 apply seq_plain; exact do_load rfl (by exact ext_get_new rfl) rfl (by exact rfl); exact rfl
 apply seq_plain; exact do_sub rfl rfl (by omega); exact rfl
 apply seq_plain; exact do_build rfl rfl rfl rfl; exact rfl
 apply seq_putC (hc := by assumption); rotate_left; exact do_store rfl rfl (by exact ext_get_new rfl) rfl rfl (nb_own _); rotate_left; exact Nat.le_of_ble_eq_true rfl
 apply ct_ret
 exact fin_cell hc rfl rfl (ext_get_new rfl) rfl rfl rfl ⟨rfl, rfl⟩
end Go.Proofs.YtmcecjplgalcgaaGreatDoor
