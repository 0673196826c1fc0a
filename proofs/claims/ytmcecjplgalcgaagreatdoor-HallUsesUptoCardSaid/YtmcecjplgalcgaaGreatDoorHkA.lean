/- Contracts: names, tables and bookings that are examined. -/
import Derived.Test.YtmcecjplgalcgaaGreatDoorPrL
import Derived.Test.YtmcecjplgalcgaaGreatDoorHaB
import Derived.Test.YtmcecjplgalcgaaGreatDoorSrL
import Derived.Test.YtmcecjplgalcgaaGreatDoorSxK
import Derived.Test.YtmcecjplgalcgaaGreatDoorStC
import Derived.Test.YtmcecjplgalcgaaGreatDoorSxZ
noncomputable section
namespace Go.Proofs.YtmcecjplgalcgaaGreatDoor
open Go Go.Den
set_option maxRecDepth 100000
structure Bk where
 name : ByteArray
 kind : ByteArray
 frm : Int
 to : Int
def bk (x : Bk) : List Value := [.string x.name, .string x.kind, I x.frm, I x.to]
theorem bk_len (x : Bk) : (bk x).length = 4 := rfl
structure Tb where
 name : ByteArray
 kind : ByteArray
def tb (x : Tb) : List Value := [.string x.name, .string x.kind]
theorem tb_len (x : Tb) : (tb x).length = 2 := rfl
structure Rq where
 name : ByteArray
 kind : ByteArray
 len : Int
 arr : Int
def rq (x : Rq) : List Value := [.string x.name, .string x.kind, I x.len, I x.arr]
theorem indexS_c {H : AHeap} {q : Option Addr} {c g : Nat} {caps : List Value} {l : List ByteArray} {p : ByteArray → Bool} (hs : SlAt H 1 s1 q l) (hn : l.length < 1000000000000)
  (hp : ∀ x ∈ l, ∀ H', Ext H H' → Ret Tryz.prog g (.string x :: caps) H' (.bool (p x)) H') :
  Ret Tryz.prog 152 [.slice q l.length c, .func (.func g) #[] ⟨caps⟩] H (I (idxOf p l 0)) H := by
 refine fn_start Tryz.func152 rfl rfl rfl fun hc => ?_
 apply ct_seq
 apply ct_region
 apply seq_plain; exact do_assign rfl; exact rfl
 apply seq_nil
 iterate 2 (apply ct_seq)
 apply ct_region
 apply seq_plain; exact do_move rfl; exact rfl
 apply seq_plain; exact do_lenS rfl rfl rfl; exact rfl
 apply seq_plain; exact do_move rfl; exact rfl
 apply seq_nil
 apply ct_block
 apply ct_loop
 refine lt_up (fun i => [(0, .slice q l.length c), (1, .func (.func g) #[] ⟨caps⟩), (7, I l.length), (8, I i)]) (fun i => ∀ j (hj : j < l.length), j < i → p l[j] = false) l.length (fun i hi hJ ih => ?_) 0 (by omega) (by intros; omega) (by repeat (first | exact sub_nil | apply sub_cons rfl))
 apply ct_seq
 apply ct_region
 apply seq_plain; exact do_binInt rfl rfl rfl trivial; exact rfl
 apply seq_nil
 apply ct_seq
 refine ct_cond rfl (fun hb => ?_) (fun hb => ?_)
 ·simp only [decide_eq_true_eq, Int.ofNat_lt] at hb
  obtain ⟨b, o, cs, z, s, ro, rfl, hg, hw⟩ := hs.out (by intro e; rw [e] at hb; simp at hb)
  apply ct_skip
  apply ct_seq
  apply ct_block
  apply ct_seq
  apply ct_region
  apply seq_plain; exact do_move rfl; exact rfl
  apply seq_plain; exact do_assign rfl; exact rfl
  apply seq_nil
  apply ct_seq
  apply ct_region
  iterate 3 (apply seq_plain; exact do_move rfl; exact rfl)
  apply seq_plain; exact do_indexAddrS rfl rfl rfl (by exact idx_nat (by omega)); exact rfl
  apply seq_plain; exact do_load rfl (by exact ext_get_old (by assumption) (by assumption)) rfl (by exact pt_sl0 (by assumption) (by omega)); exact rfl
  apply seq_call (ht := rfl); exact hp _ (List.getElem_mem hb) _ (ext_Ext hc); exact rfl
  apply seq_nil
  refine ct_cond rfl (fun h2 => ?_) (fun h2 => ?_)
  ·apply ct_seq
   apply ct_region
   apply seq_plain; exact do_move rfl; exact rfl
   apply seq_plain; exact do_assign rfl; exact rfl
   apply seq_nil
   apply ct_ret
   refine fin_flat hc rfl rfl ⟨?_, rfl⟩
   rw [idxOf_at hb 0 hJ h2]; simp [packA]
  ·apply ct_skip
   apply ct_region
   apply seq_plain; exact do_succ rfl (by omega); exact rfl
   apply seq_plain; exact do_move rfl; exact rfl
   apply seq_nil
   refine lt_sub ?_ (ih (i + 1) (by omega) (by omega) fun j hj hji => ?_)
   ·(repeat (first | exact sub_nil | apply sub_cons rfl))
   ·rcases Nat.lt_or_ge j i with h | h
    ·exact hJ j hj h
    ·have : j = i := by omega
     subst this; exact h2
 ·simp only [decide_eq_false_iff_not, Int.ofNat_lt] at hb
  apply ct_exit
  apply exit_eq; exact rfl
  apply ct_seq
  apply ct_region
  apply seq_plain; exact do_assign rfl; exact rfl
  apply seq_nil
  apply ct_ret
  refine fin_flat hc rfl rfl ⟨?_, rfl⟩
  rw [idxOf_none 0 fun j hj => hJ j hj (by omega)]; rfl
theorem containsS_c {H : AHeap} {q : Option Addr} {c g : Nat} {caps : List Value} {l : List ByteArray} {p : ByteArray → Bool} (hs : SlAt H 1 s1 q l) (hn : l.length < 1000000000000)
  (hp : ∀ x ∈ l, ∀ H', Ext H H' → Ret Tryz.prog g (.string x :: caps) H' (.bool (p x)) H') :
  Ret Tryz.prog 113 [.slice q l.length c, .func (.func g) #[] ⟨caps⟩] H (.bool (l.any p)) H := by
 refine fn_start Tryz.func113 rfl rfl rfl fun hc => ?_
 apply ct_seq
 apply ct_region
 apply seq_plain; exact do_assign rfl; exact rfl
 apply seq_nil
 apply ct_seq
 apply ct_region
 iterate 2 (apply seq_plain; exact do_move rfl; exact rfl)
 apply seq_call (ht := rfl); exact indexS_c (l := l) (p := p) (hs.ext (ext_Ext hc)) hn fun x hx H' h' => hp x hx H' ((ext_Ext hc).trans h'); exact rfl
 apply seq_plain; exact do_binInt rfl rfl rfl trivial; exact rfl
 apply seq_plain; exact do_assign rfl; exact rfl
 apply seq_nil
 apply ct_ret
 refine fin_flat hc rfl rfl ⟨?_, rfl⟩
 rw [← idxOf_any l 0]; rfl
def nameE (l : List ByteArray) : Int := whenL (l.any fun s => !nameB s) 8
theorem named1_c {H : AHeap} {s : ByteArray} : Ret Tryz.prog 114 [.string s] H (.bool (!nameB s)) H := by
 refine fn_start Tryz.func114 rfl rfl rfl fun hc => ?_
 apply ct_seq
 apply ct_region
 apply seq_plain; exact do_assign rfl; exact rfl
 apply seq_nil
 apply ct_seq
 apply ct_region
 apply seq_plain; exact do_move rfl; exact rfl
 apply seq_call (ht := rfl); exact isName_c; exact rfl
 apply seq_plain; exact do_unOp rfl rfl; exact rfl
 apply seq_plain; exact do_assign rfl; exact rfl
 apply seq_nil
 apply ct_ret
 exact fin_flat hc rfl rfl ⟨rfl, rfl⟩
theorem named_c {H : AHeap} {q : Option Addr} {c : Nat} {l : List ByteArray} (hs : SlAt H 1 s1 q l) (hn : l.length < 1000000000000) :
  Ret Tryz.prog 57 [.slice q l.length c] H (I (nameE l)) H := by
 refine fn_start Tryz.func57 rfl rfl rfl fun hc => ?_
 apply ct_seq
 apply ct_region
 apply seq_plain; exact do_assign rfl; exact rfl
 apply seq_nil
 apply ct_seq
 apply ct_region
 apply seq_plain; exact do_move rfl; exact rfl
 apply seq_call (ht := rfl); exact containsS_c (p := fun s => !nameB s) (hs.ext (ext_Ext hc)) hn fun x _ H' _ => named1_c; exact rfl
 apply seq_call (ht := rfl); exact when85; exact rfl
 apply seq_plain; exact do_assign rfl; exact rfl
 apply seq_nil
 apply ct_ret
 exact fin_flat hc rfl rfl ⟨rfl, rfl⟩
def bookE (x : Bk) : Int := firstL [nameE [x.name, x.kind], whenL (outL x.frm 0 99999) 3, whenL (outL x.to 0 99999) 3, whenL (decide (x.to ≤ x.frm)) 11]
theorem book_c {H : AHeap} {x : Bk} {v : Value} : Ret Tryz.prog 67 [.agg ⟨bk x⟩, v] H (I (bookE x)) H := by
 refine fn_start Tryz.func67 rfl rfl rfl fun hc => ?_
 apply ct_seq
 apply ct_region
 apply seq_newP; exact do_box rfl rfl rfl; exact rfl
 apply seq_plain; exact do_assign rfl; exact rfl
 apply seq_nil
 apply ct_seq
 apply ct_draw (by assumption); decide +kernel
 apply sd_plain (hfree := rfl); intro _; exact do_fieldAddr rfl rfl; exact rfl
 apply sd_look (hfree := rfl); exact do_load rfl (by exact ext_get_new rfl) rfl (by exact rfl); exact rfl
 apply sd_plain (hfree := rfl); intro _; exact do_fieldAddr rfl rfl; exact rfl
 apply sd_look (hfree := rfl); exact do_load rfl (by exact ext_get_new rfl) rfl (by exact rfl); exact rfl
 apply sd_newS (hfree := rfl); exact do_buildSlice rfl rfl rfl rfl rfl rfl rfl; exact rfl
 apply sd_callM (ht := rfl) (hw := rfl); decide +kernel; exact named_c (l := [_, _]) (slAt_map (ext_get_new rfl)) (by simp); exact rfl
 apply sd_plain (hfree := rfl); intro _; exact do_fieldAddr rfl rfl; exact rfl
 apply sd_look (hfree := rfl); exact do_load rfl (by exact ext_get_new rfl) rfl (by exact rfl); exact rfl
 apply sd_call (ht := rfl); exact day_c; exact rfl
 apply sd_plain (hfree := rfl); intro _; exact do_fieldAddr rfl rfl; exact rfl
 apply sd_look (hfree := rfl); exact do_load rfl (by exact ext_get_new rfl) rfl (by exact rfl); exact rfl
 apply sd_call (ht := rfl); exact day_c; exact rfl
 apply sd_plain (hfree := rfl); intro _; exact do_fieldAddr rfl rfl; exact rfl
 apply sd_look (hfree := rfl); exact do_load rfl (by exact ext_get_new rfl) rfl (by exact rfl); exact rfl
 apply sd_plain (hfree := rfl); intro _; exact do_fieldAddr rfl rfl; exact rfl
 apply sd_look (hfree := rfl); exact do_load rfl (by exact ext_get_new rfl) rfl (by exact rfl); exact rfl
 apply sd_plain (hfree := rfl); intro _; exact do_binInt rfl rfl rfl trivial; exact rfl
 apply sd_call (ht := rfl); exact when85; exact rfl
 apply sd_newS (hfree := rfl); exact do_buildSlice rfl rfl rfl rfl rfl rfl rfl; exact rfl
 apply sd_callM (ht := rfl) (hw := rfl); decide +kernel; exact first84 (l := [_, _, _, _]) (slAt_map (ext_get_new rfl)) (by simp); exact rfl
 apply sd_plain (hfree := rfl); intro _; exact do_assign rfl; exact rfl
 apply sd_nil
 apply ct_ret
 exact fin_flat hc rfl rfl ⟨rfl, rfl⟩
theorem examBk_c {H : AHeap} {q : Option Addr} {c g : Nat} {caps : List Value} {l : List Bk} {most : Nat} {err : List Bk → Bk → Int} (hs : SlAt H 4 bk q l) (hlow : LowS q c l.length) (hn : l.length < 1000000000000)
  (hp : ∀ i (hi : i < l.length), ∀ H', Ext H H' → Ret Tryz.prog g (.agg ⟨bk l[i]⟩ :: .slice q i c :: caps) H' (I (err (l.take i) l[i])) H') :
  Ret Tryz.prog 112 [.slice q l.length c, I most, .func (.func g) #[] ⟨caps⟩] H (I (if l.length > most then 5 else restG err l)) H := by
 refine fn_start Tryz.func112 rfl rfl rfl fun hc => ?_
 apply ct_seq
 apply ct_region
 apply seq_plain; exact do_assign rfl; exact rfl
 apply seq_nil
 iterate 2 (apply ct_seq)
 apply ct_region
 apply seq_plain; exact do_move rfl; exact rfl
 apply seq_plain; exact do_lenS rfl rfl rfl; exact rfl
 apply seq_plain; exact do_move rfl; exact rfl
 apply seq_plain; exact do_binInt rfl rfl rfl trivial; exact rfl
 apply seq_nil
 refine ct_cond rfl (fun h0 => ?_) (fun h0 => ?_)
 ·have h0 : l.length > most := by simp at h0; omega
  apply ct_seq
  apply ct_region
  apply seq_plain; exact do_assign rfl; exact rfl
  apply seq_nil
  apply ct_ret
  refine fin_flat hc rfl rfl ⟨?_, rfl⟩
  rw [if_pos h0]; rfl
 have h0 : ¬ l.length > most := by simp at h0; omega
 rw [if_neg h0]
 apply ct_skip
 iterate 2 (apply ct_seq)
 apply ct_region
 apply seq_plain; exact do_move rfl; exact rfl
 apply seq_plain; exact do_lenS rfl rfl rfl; exact rfl
 apply seq_plain; exact do_move rfl; exact rfl
 apply seq_nil
 apply ct_block
 apply ct_loop
 refine lt_meas (α := Nat × List (Option ABlk)) (fun a => [(0, .slice q l.length c), (2, .func (.func g) #[] ⟨caps⟩), (14, .slice q l.length c), (15, I l.length), (16, I a.1)]) (fun a => ext H H.fresh a.2) (fun a => a.1 ≤ l.length ∧ ∀ j, j < a.1 → errG err l j = 0) (fun a => l.length - a.1) (fun a ha ih => ?_) (0, []) ⟨by simp, fun j hj => by simp at hj⟩ (by repeat (first | exact sub_nil | apply sub_cons rfl)) (.refl _)
 obtain ⟨i, L⟩ := a
 obtain ⟨hi, hJ⟩ := ha
 simp only at hi hJ ih ⊢
 have ih' := fun i' L' a1 a2 a3 => ih (i', L') a1 ⟨a2, a3⟩
 simp only at ih'
 clear ih
 apply ct_seq
 apply ct_region
 apply seq_plain; exact do_binInt rfl rfl rfl trivial; exact rfl
 apply seq_nil
 apply ct_seq
 refine ct_cond rfl (fun h1 => ?_) (fun h1 => ?_)
 ·simp only [decide_eq_true_eq, Int.ofNat_lt] at h1
  obtain ⟨b, o, cs, z, s, ro, rfl, hg, hw⟩ := hs.out (by intro e; rw [e] at h1; simp at h1)
  have hcap := hlow.cap
  apply ct_skip
  apply ct_seq
  apply ct_block
  apply ct_seq
  apply ct_region
  apply seq_plain; exact do_move rfl; exact rfl
  apply seq_plain; exact do_indexAddrS rfl rfl rfl (by exact idx_nat (by omega)); exact rfl
  apply seq_plain; exact do_load rfl (by exact ext_get_old (by assumption) (by assumption)) rfl (by exact pt_sl (by assumption) (by omega)); exact rfl
  apply seq_newP; exact do_alloc rfl rfl; exact rfl
  apply seq_plain; exact do_assign rfl; exact rfl
  apply seq_putC (hc := by assumption); rotate_left; exact do_store rfl rfl (by exact ext_get_new List.getElem?_concat_length) rfl rfl (nb_own _); rotate_left; exact (by simp)
  apply ct_seq
  apply ct_draw (by assumption); decide +kernel
  apply sd_plain (hfree := rfl); intro _; exact do_move rfl; exact rfl
  apply sd_look (hfree := rfl); exact do_load rfl (by exact ext_get_new (getApp getSetLast)) rfl (by exact rfl); exact rfl
  iterate 2 (apply sd_plain (hfree := rfl); intro _; exact do_move rfl; exact rfl)
  apply sd_look (hfree := rfl); exact do_sliceTo rfl rfl rfl (by intro e; cases e) (by rintro _ ⟨⟩; rfl) (by omega); exact rfl
  skip
  apply sd_call (ht := rfl); exact hp i h1 _ (ext_Ext hc); exact rfl
  apply sd_plain (hfree := rfl); intro _; exact do_assign rfl; exact rfl
  apply sd_nil
  apply ct_seq
  apply ct_region
  apply seq_plain; exact do_move rfl; exact rfl
  apply seq_plain; exact do_binInt rfl rfl rfl trivial; exact rfl
  apply seq_nil
  refine ct_cond rfl (fun h2 => ?_) (fun h2 => ?_)
  ·have h2 : err (l.take i) l[i] ≠ 0 := by simpa using h2
   apply ct_seq
   apply ct_region
   apply seq_plain; exact do_move rfl; exact rfl
   apply seq_plain; exact do_assign rfl; exact rfl
   apply seq_nil
   apply ct_ret
   refine fin_flat hc rfl rfl ⟨?_, rfl⟩
   rw [restG_at h1 hJ (by rw [errG_at h1]; exact h2), errG_at h1]; rfl
  ·have h2 : err (l.take i) l[i] = 0 := by simpa using h2
   apply ct_skip
   apply ct_region
   apply seq_plain; exact do_succ rfl (by omega); exact rfl
   apply seq_plain; exact do_move rfl; exact rfl
   apply seq_nil
   refine lt_to (by repeat (first | exact sub_nil | apply sub_cons rfl)) (.refl _) (ih' (i + 1) _ (by omega) (by omega) fun j hj => ?_)
   rcases Nat.lt_or_ge j i with h | h
   ·exact hJ j h
   ·obtain rfl : j = i := by omega
    rw [errG_at h1]; exact h2
 ·have h1 : i = l.length := by simp at h1; omega
  subst h1
  apply ct_exit
  apply exit_eq; exact rfl
  apply ct_seq
  apply ct_region
  apply seq_plain; exact do_assign rfl; exact rfl
  apply seq_nil
  apply ct_ret
  refine fin_flat hc rfl rfl ⟨?_, rfl⟩
  rw [restG_none hJ]; rfl
def booksE (l : List Bk) : Int := if l.length > 256 then 5 else restG (fun _ x => bookE x) l
theorem checkBookings_c {H : AHeap} {q : Option Addr} {c : Nat} {l : List Bk} (hs : SlAt H 4 bk q l) (hlow : LowS q c l.length) (hn : l.length < 1000000000000) :
  Ret Tryz.prog 56 [.slice q l.length c] H (I (booksE l)) H := by
 refine fn_start Tryz.func56 rfl rfl rfl fun hc => ?_
 apply ct_seq
 apply ct_region
 apply seq_plain; exact do_assign rfl; exact rfl
 apply seq_nil
 apply ct_seq
 apply ct_region
 apply seq_plain; exact do_move rfl; exact rfl
 apply seq_call (ht := rfl); exact examBk_c (most := 256) (err := fun _ x => bookE x) (hs.ext (ext_Ext hc)) hlow hn fun i hi H' hE => book_c; exact rfl
 apply seq_plain; exact do_assign rfl; exact rfl
 apply seq_nil
 apply ct_ret
 exact fin_flat hc rfl rfl ⟨rfl, rfl⟩
theorem examTb_c {H : AHeap} {q : Option Addr} {c g : Nat} {caps : List Value} {l : List Tb} {most : Nat} {err : List Tb → Tb → Int} (hs : SlAt H 2 tb q l) (hlow : LowS q c l.length) (hn : l.length < 1000000000000)
  (hp : ∀ i (hi : i < l.length), ∀ H', Ext H H' → Ret Tryz.prog g (.agg ⟨tb l[i]⟩ :: .slice q i c :: caps) H' (I (err (l.take i) l[i])) H') :
  Ret Tryz.prog 155 [.slice q l.length c, I most, .func (.func g) #[] ⟨caps⟩] H (I (if l.length > most then 5 else restG err l)) H := by
 refine fn_start Tryz.func155 rfl rfl rfl fun hc => ?_
 apply ct_seq
 apply ct_region
 apply seq_plain; exact do_assign rfl; exact rfl
 apply seq_nil
 iterate 2 (apply ct_seq)
 apply ct_region
 apply seq_plain; exact do_move rfl; exact rfl
 apply seq_plain; exact do_lenS rfl rfl rfl; exact rfl
 apply seq_plain; exact do_move rfl; exact rfl
 apply seq_plain; exact do_binInt rfl rfl rfl trivial; exact rfl
 apply seq_nil
 refine ct_cond rfl (fun h0 => ?_) (fun h0 => ?_)
 ·have h0 : l.length > most := by simp at h0; omega
  apply ct_seq
  apply ct_region
  apply seq_plain; exact do_assign rfl; exact rfl
  apply seq_nil
  apply ct_ret
  refine fin_flat hc rfl rfl ⟨?_, rfl⟩
  rw [if_pos h0]; rfl
 have h0 : ¬ l.length > most := by simp at h0; omega
 rw [if_neg h0]
 apply ct_skip
 iterate 2 (apply ct_seq)
 apply ct_region
 apply seq_plain; exact do_move rfl; exact rfl
 apply seq_plain; exact do_lenS rfl rfl rfl; exact rfl
 apply seq_plain; exact do_move rfl; exact rfl
 apply seq_nil
 apply ct_block
 apply ct_loop
 refine lt_meas (α := Nat × List (Option ABlk)) (fun a => [(0, .slice q l.length c), (2, .func (.func g) #[] ⟨caps⟩), (14, .slice q l.length c), (15, I l.length), (16, I a.1)]) (fun a => ext H H.fresh a.2) (fun a => a.1 ≤ l.length ∧ ∀ j, j < a.1 → errG err l j = 0) (fun a => l.length - a.1) (fun a ha ih => ?_) (0, []) ⟨by simp, fun j hj => by simp at hj⟩ (by repeat (first | exact sub_nil | apply sub_cons rfl)) (.refl _)
 obtain ⟨i, L⟩ := a
 obtain ⟨hi, hJ⟩ := ha
 simp only at hi hJ ih ⊢
 have ih' := fun i' L' a1 a2 a3 => ih (i', L') a1 ⟨a2, a3⟩
 simp only at ih'
 clear ih
 apply ct_seq
 apply ct_region
 apply seq_plain; exact do_binInt rfl rfl rfl trivial; exact rfl
 apply seq_nil
 apply ct_seq
 refine ct_cond rfl (fun h1 => ?_) (fun h1 => ?_)
 ·simp only [decide_eq_true_eq, Int.ofNat_lt] at h1
  obtain ⟨b, o, cs, z, s, ro, rfl, hg, hw⟩ := hs.out (by intro e; rw [e] at h1; simp at h1)
  have hcap := hlow.cap
  apply ct_skip
  apply ct_seq
  apply ct_block
  apply ct_seq
  apply ct_region
  apply seq_plain; exact do_move rfl; exact rfl
  apply seq_plain; exact do_indexAddrS rfl rfl rfl (by exact idx_nat (by omega)); exact rfl
  apply seq_plain; exact do_load rfl (by exact ext_get_old (by assumption) (by assumption)) rfl (by exact pt_sl (by assumption) (by omega)); exact rfl
  apply seq_newP; exact do_alloc rfl rfl; exact rfl
  apply seq_plain; exact do_assign rfl; exact rfl
  apply seq_putC (hc := by assumption); rotate_left; exact do_store rfl rfl (by exact ext_get_new List.getElem?_concat_length) rfl rfl (nb_own _); rotate_left; exact (by simp)
  apply ct_seq
  apply ct_draw (by assumption); decide +kernel
  apply sd_plain (hfree := rfl); intro _; exact do_move rfl; exact rfl
  apply sd_look (hfree := rfl); exact do_load rfl (by exact ext_get_new (getApp getSetLast)) rfl (by exact rfl); exact rfl
  iterate 2 (apply sd_plain (hfree := rfl); intro _; exact do_move rfl; exact rfl)
  apply sd_look (hfree := rfl); exact do_sliceTo rfl rfl rfl (by intro e; cases e) (by rintro _ ⟨⟩; rfl) (by omega); exact rfl
  skip
  apply sd_call (ht := rfl); exact hp i h1 _ (ext_Ext hc); exact rfl
  apply sd_plain (hfree := rfl); intro _; exact do_assign rfl; exact rfl
  apply sd_nil
  apply ct_seq
  apply ct_region
  apply seq_plain; exact do_move rfl; exact rfl
  apply seq_plain; exact do_binInt rfl rfl rfl trivial; exact rfl
  apply seq_nil
  refine ct_cond rfl (fun h2 => ?_) (fun h2 => ?_)
  ·have h2 : err (l.take i) l[i] ≠ 0 := by simpa using h2
   apply ct_seq
   apply ct_region
   apply seq_plain; exact do_move rfl; exact rfl
   apply seq_plain; exact do_assign rfl; exact rfl
   apply seq_nil
   apply ct_ret
   refine fin_flat hc rfl rfl ⟨?_, rfl⟩
   rw [restG_at h1 hJ (by rw [errG_at h1]; exact h2), errG_at h1]; rfl
  ·have h2 : err (l.take i) l[i] = 0 := by simpa using h2
   apply ct_skip
   apply ct_region
   apply seq_plain; exact do_succ rfl (by omega); exact rfl
   apply seq_plain; exact do_move rfl; exact rfl
   apply seq_nil
   refine lt_to (by repeat (first | exact sub_nil | apply sub_cons rfl)) (.refl _) (ih' (i + 1) _ (by omega) (by omega) fun j hj => ?_)
   rcases Nat.lt_or_ge j i with h | h
   ·exact hJ j h
   ·obtain rfl : j = i := by omega
    rw [errG_at h1]; exact h2
 ·have h1 : i = l.length := by simp at h1; omega
  subst h1
  apply ct_exit
  apply exit_eq; exact rfl
  apply ct_seq
  apply ct_region
  apply seq_plain; exact do_assign rfl; exact rfl
  apply seq_nil
  apply ct_ret
  refine fin_flat hc rfl rfl ⟨?_, rfl⟩
  rw [restG_none hJ]; rfl
theorem indexTb_c {H : AHeap} {q : Option Addr} {c g : Nat} {caps : List Value} {l : List Tb} {p : Tb → Bool} (hs : SlAt H 2 tb q l) (hn : l.length < 1000000000000)
  (hp : ∀ x ∈ l, ∀ H', Ext H H' → Ret Tryz.prog g (.agg ⟨tb x⟩ :: caps) H' (.bool (p x)) H') :
  Ret Tryz.prog 197 [.slice q l.length c, .func (.func g) #[] ⟨caps⟩] H (I (idxOf p l 0)) H := by
 refine fn_start Tryz.func197 rfl rfl rfl fun hc => ?_
 apply ct_seq
 apply ct_region
 apply seq_plain; exact do_assign rfl; exact rfl
 apply seq_nil
 iterate 2 (apply ct_seq)
 apply ct_region
 apply seq_plain; exact do_move rfl; exact rfl
 apply seq_plain; exact do_lenS rfl rfl rfl; exact rfl
 apply seq_plain; exact do_move rfl; exact rfl
 apply seq_nil
 apply ct_block
 apply ct_loop
 refine lt_up (fun i => [(0, .slice q l.length c), (1, .func (.func g) #[] ⟨caps⟩), (7, I l.length), (8, I i)]) (fun i => ∀ j (hj : j < l.length), j < i → p l[j] = false) l.length (fun i hi hJ ih => ?_) 0 (by omega) (by intros; omega) (by repeat (first | exact sub_nil | apply sub_cons rfl))
 apply ct_seq
 apply ct_region
 apply seq_plain; exact do_binInt rfl rfl rfl trivial; exact rfl
 apply seq_nil
 apply ct_seq
 refine ct_cond rfl (fun hb => ?_) (fun hb => ?_)
 ·simp only [decide_eq_true_eq, Int.ofNat_lt] at hb
  obtain ⟨b, o, cs, z, s, ro, rfl, hg, hw⟩ := hs.out (by intro e; rw [e] at hb; simp at hb)
  apply ct_skip
  apply ct_seq
  apply ct_block
  apply ct_seq
  apply ct_region
  apply seq_plain; exact do_move rfl; exact rfl
  apply seq_plain; exact do_assign rfl; exact rfl
  apply seq_nil
  apply ct_seq
  apply ct_region
  iterate 3 (apply seq_plain; exact do_move rfl; exact rfl)
  apply seq_plain; exact do_indexAddrS rfl rfl rfl (by exact idx_nat (by omega)); exact rfl
  apply seq_plain; exact do_load rfl (by exact ext_get_old (by assumption) (by assumption)) rfl (by exact pt_sl (by assumption) (by omega)); exact rfl
  apply seq_call (ht := rfl); exact hp _ (List.getElem_mem hb) _ (ext_Ext hc); exact rfl
  apply seq_nil
  refine ct_cond rfl (fun h2 => ?_) (fun h2 => ?_)
  ·apply ct_seq
   apply ct_region
   apply seq_plain; exact do_move rfl; exact rfl
   apply seq_plain; exact do_assign rfl; exact rfl
   apply seq_nil
   apply ct_ret
   refine fin_flat hc rfl rfl ⟨?_, rfl⟩
   rw [idxOf_at hb 0 hJ h2]; simp [packA]
  ·apply ct_skip
   apply ct_region
   apply seq_plain; exact do_succ rfl (by omega); exact rfl
   apply seq_plain; exact do_move rfl; exact rfl
   apply seq_nil
   refine lt_sub ?_ (ih (i + 1) (by omega) (by omega) fun j hj hji => ?_)
   ·(repeat (first | exact sub_nil | apply sub_cons rfl))
   ·rcases Nat.lt_or_ge j i with h | h
    ·exact hJ j hj h
    ·have : j = i := by omega
     subst this; exact h2
 ·simp only [decide_eq_false_iff_not, Int.ofNat_lt] at hb
  apply ct_exit
  apply exit_eq; exact rfl
  apply ct_seq
  apply ct_region
  apply seq_plain; exact do_assign rfl; exact rfl
  apply seq_nil
  apply ct_ret
  refine fin_flat hc rfl rfl ⟨?_, rfl⟩
  rw [idxOf_none 0 fun j hj => hJ j hj (by omega)]; rfl
theorem containsTb_c {H : AHeap} {q : Option Addr} {c g : Nat} {caps : List Value} {l : List Tb} {p : Tb → Bool} (hs : SlAt H 2 tb q l) (hn : l.length < 1000000000000)
  (hp : ∀ x ∈ l, ∀ H', Ext H H' → Ret Tryz.prog g (.agg ⟨tb x⟩ :: caps) H' (.bool (p x)) H') :
  Ret Tryz.prog 157 [.slice q l.length c, .func (.func g) #[] ⟨caps⟩] H (.bool (l.any p)) H := by
 refine fn_start Tryz.func157 rfl rfl rfl fun hc => ?_
 apply ct_seq
 apply ct_region
 apply seq_plain; exact do_assign rfl; exact rfl
 apply seq_nil
 apply ct_seq
 apply ct_region
 iterate 2 (apply seq_plain; exact do_move rfl; exact rfl)
 apply seq_call (ht := rfl); exact indexTb_c (l := l) (p := p) (hs.ext (ext_Ext hc)) hn fun x hx H' h' => hp x hx H' ((ext_Ext hc).trans h'); exact rfl
 apply seq_plain; exact do_binInt rfl rfl rfl trivial; exact rfl
 apply seq_plain; exact do_assign rfl; exact rfl
 apply seq_nil
 apply ct_ret
 refine fin_flat hc rfl rfl ⟨?_, rfl⟩
 rw [← idxOf_any l 0]; rfl
def tabE (pre : List Tb) (x : Tb) : Int := firstL [nameE [x.name, x.kind], whenL (pre.any fun y => decide (y.name = x.name)) 9]
theorem table11_c {H : AHeap} {x y : Tb} {b z : Nat} {s ro : Bool} (hg : H.get b = some (.cells (tb x) z s ro)) : Ret Tryz.prog 158 [.agg ⟨tb y⟩, .pointer (some ⟨b, 0, none⟩)] H (.bool (decide (y.name = x.name))) H := by
 refine fn_start Tryz.func158 rfl rfl rfl fun hc => ?_
 apply ct_seq
 apply ct_region
 apply seq_newP; exact do_box rfl rfl rfl; exact rfl
 apply seq_plain; exact do_assign rfl; exact rfl
 apply seq_nil
 apply ct_seq
 apply ct_region
 apply seq_plain; exact do_fieldAddr rfl rfl; exact rfl
 apply seq_plain; exact do_load rfl (by exact ext_get_new rfl) rfl (by exact rfl); exact rfl
 apply seq_plain; exact do_fieldAddr rfl rfl; exact rfl
 apply seq_plain; exact do_load rfl (by exact ext_get_old (by assumption) (by assumption)) rfl (by exact rfl); exact rfl
 apply seq_plain; exact do_binStr rfl rfl rfl; exact rfl
 apply seq_plain; exact do_assign rfl; exact rfl
 apply seq_nil
 apply ct_ret
 refine fin_flat hc rfl rfl ⟨?_, rfl⟩
 rw [← bytes_eq]; rfl
theorem table1_c {H : AHeap} {q : Option Addr} {c : Nat} {pre : List Tb} {x : Tb} (hs : SlAt H 2 tb q pre) (hn : pre.length < 1000000000000) :
  Ret Tryz.prog 156 [.agg ⟨tb x⟩, .slice q pre.length c] H (I (tabE pre x)) H := by
 refine fn_start Tryz.func156 rfl rfl rfl fun hc => ?_
 apply ct_seq
 apply ct_region
 apply seq_newP; exact do_box rfl rfl rfl; exact rfl
 apply seq_plain; exact do_assign rfl; exact rfl
 apply seq_nil
 apply ct_seq
 apply ct_region
 apply seq_plain; exact do_move rfl; exact rfl
 apply seq_plain; exact do_makeFunc rfl rfl; exact rfl
 apply seq_call (ht := rfl); exact containsTb_c (p := fun y => decide (y.name = x.name)) (hs.ext (ext_Ext hc)) hn fun y _ H' hE => table11_c (hE _ _ (ext_get_new rfl)); exact rfl
 apply seq_plain; exact do_assign rfl; exact rfl
 apply seq_nil
 apply ct_seq
 apply ct_region
 apply seq_plain; exact do_fieldAddr rfl rfl; exact rfl
 apply seq_plain; exact do_load rfl (by exact ext_get_new rfl) rfl (by exact rfl); exact rfl
 apply seq_plain; exact do_fieldAddr rfl rfl; exact rfl
 apply seq_plain; exact do_load rfl (by exact ext_get_new rfl) rfl (by exact rfl); exact rfl
 apply seq_newS; exact do_buildSlice rfl rfl rfl rfl rfl rfl rfl; exact rfl
 apply seq_call (ht := rfl); exact named_c (l := [_, _]) (slAt_map (ext_get_new rfl)) (by simp); exact rfl
 apply seq_plain; exact do_move rfl; exact rfl
 apply seq_call (ht := rfl); exact when85; exact rfl
 apply seq_newS; exact do_buildSlice rfl rfl rfl rfl rfl rfl rfl; exact rfl
 apply seq_call (ht := rfl); exact first84 (l := [_, _]) (slAt_map (ext_get_new rfl)) (by simp); exact rfl
 apply seq_plain; exact do_assign rfl; exact rfl
 apply seq_nil
 apply ct_ret
 exact fin_flat hc rfl rfl ⟨rfl, rfl⟩
def tabsE (l : List Tb) : Int := if l.length > 64 then 5 else restG tabE l
theorem checkTables_c {H : AHeap} {q : Option Addr} {c : Nat} {l : List Tb} (hs : SlAt H 2 tb q l) (hlow : LowS q c l.length) (hn : l.length < 1000000000000) :
  Ret Tryz.prog 119 [.slice q l.length c] H (I (tabsE l)) H := by
 refine fn_start Tryz.func119 rfl rfl rfl fun hc => ?_
 have hp : ∀ i (hi : i < l.length), ∀ H', Ext (ext H H.fresh []) H' → Ret Tryz.prog 156 (.agg ⟨tb l[i]⟩ :: .slice q i c :: []) H' (I (tabE (l.take i) l[i])) H' := fun i hi H' hE => by
  have := table1_c (c := c) (x := l[i]) ((hs.ext ((ext_Ext hc).trans hE)).take i) (by rw [List.length_take]; omega)
  rwa [List.length_take, Nat.min_eq_left (by omega)] at this
 apply ct_seq
 apply ct_region
 apply seq_plain; exact do_assign rfl; exact rfl
 apply seq_nil
 apply ct_seq
 apply ct_region
 apply seq_plain; exact do_move rfl; exact rfl
 apply seq_call (ht := rfl); exact examTb_c (most := 64) (err := tabE) (hs.ext (ext_Ext hc)) hlow hn hp; exact rfl
 apply seq_plain; exact do_assign rfl; exact rfl
 apply seq_nil
 apply ct_ret
 exact fin_flat hc rfl rfl ⟨rfl, rfl⟩
def cntK (t : List Tb) (k : ByteArray) : Nat := t.countP fun x => decide (x.kind = k)
theorem cntK_le (t : List Tb) (k : ByteArray) : cntK t k ≤ t.length := List.countP_le_length
theorem cntK_snoc {t : List Tb} {k : ByteArray} {i : Nat} (h : i < t.length) : cntK (t.take (i + 1)) k = cntK (t.take i) k + if t[i].kind = k then 1 else 0 := by
 rw [take_snoc h]
 unfold cntK
 rw [List.countP_append, List.countP_singleton]
 simp only [decide_eq_true_eq]
theorem cntK_take {t : List Tb} {k : ByteArray} {i : Nat} : cntK (t.take i) k ≤ i := Nat.le_trans (cntK_le _ _) (by rw [List.length_take]; omega)
theorem count_c {H : AHeap} {q : Option Addr} {c : Nat} {l : List Tb} {k : ByteArray} (hs : SlAt H 2 tb q l) (hn : l.length < 1000000000000) :
  Ret Tryz.prog 68 [.slice q l.length c, .string k] H (I (cntK l k)) H := by
 refine fn_start Tryz.func68 rfl rfl rfl fun hc => ?_
 apply ct_seq
 apply ct_region
 apply seq_plain; exact do_assign rfl; exact rfl
 apply seq_nil
 apply ct_seq
 apply ct_region
 apply seq_plain; exact do_assign rfl; exact rfl
 apply seq_nil
 iterate 2 (apply ct_seq)
 apply ct_region
 apply seq_plain; exact do_move rfl; exact rfl
 apply seq_plain; exact do_lenS rfl rfl rfl; exact rfl
 apply seq_plain; exact do_move rfl; exact rfl
 apply seq_nil
 apply ct_block
 apply ct_loop
 refine lt_meas (α := Nat × List (Option ABlk)) (fun a => [(1, .string k), (5, I (cntK (l.take a.1) k)), (8, .slice q l.length c), (9, I l.length), (10, I a.1)]) (fun a => ext H H.fresh a.2) (fun a => a.1 ≤ l.length) (fun a => l.length - a.1) (fun a ha ih => ?_) (0, []) (by simp) (by repeat (first | exact sub_nil | apply sub_cons rfl)) (.refl _)
 obtain ⟨i, L⟩ := a
 simp only at ha ih ⊢
 have ih' := fun i' L' a1 a2 => ih (i', L') a1 a2
 simp only at ih'
 clear ih
 apply ct_seq
 apply ct_region
 apply seq_plain; exact do_binInt rfl rfl rfl trivial; exact rfl
 apply seq_nil
 apply ct_seq
 refine ct_cond rfl (fun h1 => ?_) (fun h1 => ?_)
 ·simp only [decide_eq_true_eq, Int.ofNat_lt] at h1
  obtain ⟨b, o, cs, z, s, ro, rfl, hg, hw⟩ := hs.out (by intro e; rw [e] at h1; simp at h1)
  have se := cntK_snoc (k := k) h1
  have sl := cntK_take (t := l) (k := k) (i := i)
  apply ct_skip
  apply ct_seq
  apply ct_block
  apply ct_seq
  apply ct_region
  apply seq_plain; exact do_indexAddrS rfl rfl rfl (by exact idx_nat (by omega)); exact rfl
  apply seq_plain; exact do_load rfl (by exact ext_get_old (by assumption) (by assumption)) rfl (by exact pt_sl (by assumption) (by omega)); exact rfl
  apply seq_newP; exact do_alloc rfl rfl; exact rfl
  apply seq_putC (hc := by assumption); rotate_left; exact do_store rfl rfl (by exact ext_get_new List.getElem?_concat_length) rfl rfl (nb_own _); rotate_left; exact (by simp)
  apply ct_seq
  apply ct_region
  apply seq_plain; exact do_fieldAddr rfl rfl; exact rfl
  apply seq_plain; exact do_load rfl (by exact ext_get_new getSetLast) rfl (by exact rfl); exact rfl
  apply seq_plain; exact do_move rfl; exact rfl
  apply seq_plain; exact do_binStr rfl rfl rfl; exact rfl
  apply seq_nil
  rw [set_mid rfl]
  refine ct_JE [(1, .string k), (5, I (cntK (l.take (i + 1)) k)), (8, .slice (some ⟨b, o, none⟩) l.length c), (9, I l.length), (10, I i)] (ds := []) (h := ext H H.fresh (L ++ [some (.cells (tb l[i]) 0 false false)])) ?_ ?_
  ·refine ct_cond rfl (fun h2 => ?_) (fun h2 => ?_)
   ·have h2 : byteL l[i].kind.data.toList k.data.toList = true := h2
    rw [bytes_eq] at h2
    have h2 := of_decide_eq_true h2
    rw [se, if_pos h2]
    apply ct_region
    apply seq_plain; exact do_move rfl; exact rfl
    apply seq_plain; exact do_succ rfl (by omega); exact rfl
    apply seq_plain; exact do_assign rfl; exact rfl
    apply seq_nil
    exact jp_of (by repeat (first | exact sub_nil | apply sub_cons rfl))
   ·have h2 : byteL l[i].kind.data.toList k.data.toList = false := h2
    rw [bytes_eq] at h2
    have h2 := of_decide_eq_false h2
    rw [se, if_neg h2]
    apply ct_skip
    exact jp_of (by repeat (first | exact sub_nil | apply sub_cons rfl))
  apply ct_region
  apply seq_plain; exact do_succ rfl (by omega); exact rfl
  apply seq_plain; exact do_move rfl; exact rfl
  apply seq_nil
  exact lt_to (by repeat (first | exact sub_nil | apply sub_cons rfl)) (.refl _) (ih' (i + 1) _ (by omega) (by omega))
 ·have h1 : i = l.length := by simp at h1; omega
  subst h1
  rw [List.take_length]
  apply ct_exit
  apply exit_eq; exact rfl
  apply ct_seq
  apply ct_region
  apply seq_plain; exact do_move rfl; exact rfl
  apply seq_plain; exact do_assign rfl; exact rfl
  apply seq_nil
  apply ct_ret
  exact fin_flat hc rfl rfl ⟨rfl, rfl⟩
theorem indexBk_c {H : AHeap} {q : Option Addr} {c g : Nat} {caps : List Value} {l : List Bk} {p : Bk → Bool} (hs : SlAt H 4 bk q l) (hn : l.length < 1000000000000)
  (hp : ∀ x ∈ l, ∀ H', Ext H H' → Ret Tryz.prog g (.agg ⟨bk x⟩ :: caps) H' (.bool (p x)) H') :
  Ret Tryz.prog 154 [.slice q l.length c, .func (.func g) #[] ⟨caps⟩] H (I (idxOf p l 0)) H := by
 refine fn_start Tryz.func154 rfl rfl rfl fun hc => ?_
 apply ct_seq
 apply ct_region
 apply seq_plain; exact do_assign rfl; exact rfl
 apply seq_nil
 iterate 2 (apply ct_seq)
 apply ct_region
 apply seq_plain; exact do_move rfl; exact rfl
 apply seq_plain; exact do_lenS rfl rfl rfl; exact rfl
 apply seq_plain; exact do_move rfl; exact rfl
 apply seq_nil
 apply ct_block
 apply ct_loop
 refine lt_up (fun i => [(0, .slice q l.length c), (1, .func (.func g) #[] ⟨caps⟩), (7, I l.length), (8, I i)]) (fun i => ∀ j (hj : j < l.length), j < i → p l[j] = false) l.length (fun i hi hJ ih => ?_) 0 (by omega) (by intros; omega) (by repeat (first | exact sub_nil | apply sub_cons rfl))
 apply ct_seq
 apply ct_region
 apply seq_plain; exact do_binInt rfl rfl rfl trivial; exact rfl
 apply seq_nil
 apply ct_seq
 refine ct_cond rfl (fun hb => ?_) (fun hb => ?_)
 ·simp only [decide_eq_true_eq, Int.ofNat_lt] at hb
  obtain ⟨b, o, cs, z, s, ro, rfl, hg, hw⟩ := hs.out (by intro e; rw [e] at hb; simp at hb)
  apply ct_skip
  apply ct_seq
  apply ct_block
  apply ct_seq
  apply ct_region
  apply seq_plain; exact do_move rfl; exact rfl
  apply seq_plain; exact do_assign rfl; exact rfl
  apply seq_nil
  apply ct_seq
  apply ct_region
  iterate 3 (apply seq_plain; exact do_move rfl; exact rfl)
  apply seq_plain; exact do_indexAddrS rfl rfl rfl (by exact idx_nat (by omega)); exact rfl
  apply seq_plain; exact do_load rfl (by exact ext_get_old (by assumption) (by assumption)) rfl (by exact pt_sl (by assumption) (by omega)); exact rfl
  apply seq_call (ht := rfl); exact hp _ (List.getElem_mem hb) _ (ext_Ext hc); exact rfl
  apply seq_nil
  refine ct_cond rfl (fun h2 => ?_) (fun h2 => ?_)
  ·apply ct_seq
   apply ct_region
   apply seq_plain; exact do_move rfl; exact rfl
   apply seq_plain; exact do_assign rfl; exact rfl
   apply seq_nil
   apply ct_ret
   refine fin_flat hc rfl rfl ⟨?_, rfl⟩
   rw [idxOf_at hb 0 hJ h2]; simp [packA]
  ·apply ct_skip
   apply ct_region
   apply seq_plain; exact do_succ rfl (by omega); exact rfl
   apply seq_plain; exact do_move rfl; exact rfl
   apply seq_nil
   refine lt_sub ?_ (ih (i + 1) (by omega) (by omega) fun j hj hji => ?_)
   ·(repeat (first | exact sub_nil | apply sub_cons rfl))
   ·rcases Nat.lt_or_ge j i with h | h
    ·exact hJ j hj h
    ·have : j = i := by omega
     subst this; exact h2
 ·simp only [decide_eq_false_iff_not, Int.ofNat_lt] at hb
  apply ct_exit
  apply exit_eq; exact rfl
  apply ct_seq
  apply ct_region
  apply seq_plain; exact do_assign rfl; exact rfl
  apply seq_nil
  apply ct_ret
  refine fin_flat hc rfl rfl ⟨?_, rfl⟩
  rw [idxOf_none 0 fun j hj => hJ j hj (by omega)]; rfl
theorem containsBk_c {H : AHeap} {q : Option Addr} {c g : Nat} {caps : List Value} {l : List Bk} {p : Bk → Bool} (hs : SlAt H 4 bk q l) (hn : l.length < 1000000000000)
  (hp : ∀ x ∈ l, ∀ H', Ext H H' → Ret Tryz.prog g (.agg ⟨bk x⟩ :: caps) H' (.bool (p x)) H') :
  Ret Tryz.prog 117 [.slice q l.length c, .func (.func g) #[] ⟨caps⟩] H (.bool (l.any p)) H := by
 refine fn_start Tryz.func117 rfl rfl rfl fun hc => ?_
 apply ct_seq
 apply ct_region
 apply seq_plain; exact do_assign rfl; exact rfl
 apply seq_nil
 apply ct_seq
 apply ct_region
 iterate 2 (apply seq_plain; exact do_move rfl; exact rfl)
 apply seq_call (ht := rfl); exact indexBk_c (l := l) (p := p) (hs.ext (ext_Ext hc)) hn fun x hx H' h' => hp x hx H' ((ext_Ext hc).trans h'); exact rfl
 apply seq_plain; exact do_binInt rfl rfl rfl trivial; exact rfl
 apply seq_plain; exact do_assign rfl; exact rfl
 apply seq_nil
 apply ct_ret
 refine fin_flat hc rfl rfl ⟨?_, rfl⟩
 rw [← idxOf_any l 0]; rfl
theorem both1_c {H : AHeap} {q : Option Addr} {c : Nat} {t : List Tb} {x : Bk} {b z : Nat} {s ro : Bool} (hs : SlAt H 2 tb q t) (hn : t.length < 1000000000000) (hg : H.get b = some (.cells [.slice q t.length c] z s ro)) :
  Ret Tryz.prog 118 [.agg ⟨bk x⟩, .pointer (some ⟨b, 0, none⟩)] H (.bool ((cntK t x.kind : Int) == 0)) H := by
 refine fn_start Tryz.func118 rfl rfl rfl fun hc => ?_
 apply ct_seq
 apply ct_region
 apply seq_newP; exact do_box rfl rfl rfl; exact rfl
 apply seq_plain; exact do_assign rfl; exact rfl
 apply seq_nil
 apply ct_seq
 apply ct_region
 apply seq_plain; exact do_load rfl (by exact ext_get_old (by assumption) (by assumption)) rfl (by exact rfl); exact rfl
 apply seq_plain; exact do_fieldAddr rfl rfl; exact rfl
 apply seq_plain; exact do_load rfl (by exact ext_get_new rfl) rfl (by exact rfl); exact rfl
 apply seq_call (ht := rfl); exact count_c (hs.ext (ext_Ext hc)) hn; exact rfl
 apply seq_plain; exact do_binInt rfl rfl rfl trivial; exact rfl
 apply seq_plain; exact do_assign rfl; exact rfl
 apply seq_nil
 apply ct_ret
 exact fin_flat hc rfl rfl ⟨rfl, rfl⟩
def unkB (t : List Tb) (l : List Bk) : Bool := l.any fun x => (cntK t x.kind : Int) == 0
def bothE (t : List Tb) (l : List Bk) : Int := firstL [tabsE t, booksE l, whenL (unkB t l) 10]
theorem checkBoth_c {H : AHeap} {q r : Option Addr} {c d : Nat} {t : List Tb} {l : List Bk} (hs : SlAt H 2 tb q t) (hlow : LowS q c t.length) (hn : t.length < 1000000000000) (hr : SlAt H 4 bk r l) (hlow2 : LowS r d l.length) (hm : l.length < 1000000000000) :
  Ret Tryz.prog 59 [.slice q t.length c, .slice r l.length d] H (I (bothE t l)) H := by
 refine fn_start Tryz.func59 rfl rfl rfl fun hc => ?_
 apply ct_seq
 apply ct_region
 apply seq_newP; exact do_box rfl rfl rfl; exact rfl
 apply seq_plain; exact do_assign rfl; exact rfl
 apply seq_nil
 apply ct_seq
 apply ct_region
 apply seq_plain; exact do_move rfl; exact rfl
 apply seq_plain; exact do_makeFunc rfl rfl; exact rfl
 apply seq_call (ht := rfl); exact containsBk_c (p := fun x => (cntK t x.kind : Int) == 0) (hr.ext (ext_Ext hc)) hm fun x _ H' hE => both1_c (hs.ext ((ext_Ext hc).trans hE)) hn (hE _ _ (ext_get_new rfl)); exact rfl
 apply seq_plain; exact do_assign rfl; exact rfl
 apply seq_nil
 apply ct_seq
 apply ct_region
 apply seq_plain; exact do_load rfl (by exact ext_get_new rfl) rfl (by exact rfl); exact rfl
 apply seq_call (ht := rfl); exact checkTables_c (hs.ext (ext_Ext hc)) hlow hn; exact rfl
 apply seq_plain; exact do_move rfl; exact rfl
 apply seq_call (ht := rfl); exact checkBookings_c (hr.ext (ext_Ext hc)) hlow2 hm; exact rfl
 apply seq_plain; exact do_move rfl; exact rfl
 apply seq_call (ht := rfl); exact when85; exact rfl
 apply seq_newS; exact do_buildSlice rfl rfl rfl rfl rfl rfl rfl; exact rfl
 apply seq_call (ht := rfl); exact first84 (l := [_, _, _]) (slAt_map (ext_get_new rfl)) (by simp); exact rfl
 apply seq_plain; exact do_assign rfl; exact rfl
 apply seq_nil
 apply ct_ret
 exact fin_flat hc rfl rfl ⟨rfl, rfl⟩
def isAt (k : ByteArray) (q : Int) (x : Bk) : Bool := decide (x.kind = k) && (decide (x.frm ≤ q) && decide (q < x.to))
def cntD (l : List Bk) (k : ByteArray) (q : Int) : Nat := l.countP (isAt k q)
end Go.Proofs.YtmcecjplgalcgaaGreatDoor
