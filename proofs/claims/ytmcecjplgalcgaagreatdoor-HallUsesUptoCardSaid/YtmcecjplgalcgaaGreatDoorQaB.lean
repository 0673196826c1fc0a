/- The reference's numbers: trim, signed, whole. -/
import Derived.Test.YtmcecjplgalcgaaGreatDoorQaA
import Derived.Test.YtmcecjplgalcgaaGreatDoorPrL
import Derived.Test.YtmcecjplgalcgaaGreatDoorWoA
import Derived.Test.YtmcecjplgalcgaaGreatDoorBgB
noncomputable section
namespace Go.Proofs.YtmcecjplgalcgaaGreatDoor
open Go Go.Den
set_option maxRecDepth 100000
def trimAt (l : List Int) : Nat → Nat
 | 0 => 0
 | k + 1 => if l[k]? = some 0 then trimAt l k else k + 1
def trimN (l : List Int) : Nat := trimAt l l.length
theorem trimAt_le (l : List Int) : ∀ k, trimAt l k ≤ k
 | 0 => Nat.le_refl _
 | k + 1 => by
  have := trimAt_le l k
  simp only [trimAt]
  split <;> omega
theorem trimN_le (l : List Int) : trimN l ≤ l.length := trimAt_le l _
theorem trim_c {H : AHeap} {q : Option Addr} {c : Nat} {l : List Int} (hs : SlAt H 1 i1 q l) (hq : OldS H q) (hlow : LowS q c l.length) (hn : l.length < 1000000000000) :
  Ret Tryz.prog 149 [.slice q l.length c] H (.slice q (trimN l) c) H := by
 refine fn_start Tryz.func149 rfl rfl rfl fun hc => ?_
 have hcap := hlow.cap
 apply ct_seq
 apply ct_region
 apply seq_plain; exact do_assign rfl; exact rfl
 apply seq_nil
 apply ct_seq
 apply ct_block
 apply ct_loop
 refine lt_meas (α := Nat) (fun k => [(0, .slice q k c)]) (fun _ => ext H H.fresh []) (fun k => k ≤ l.length ∧ trimAt l k = trimN l) (fun k => k) (fun k ha ih => ?_) l.length ⟨Nat.le_refl _, rfl⟩ (by repeat (first | exact sub_nil | apply sub_cons rfl)) (.refl _)
 obtain ⟨hk, ht⟩ := ha
 rcases k with _ | k
 ·apply ct_seq
  apply ct_seq
  apply ct_region
  apply seq_plain; exact do_move rfl; exact rfl
  apply seq_plain; exact do_lenS rfl rfl rfl; exact rfl
  apply seq_plain; exact do_binInt rfl rfl rfl trivial; exact rfl
  apply seq_plain; exact do_move rfl; exact rfl
  iterate 7 (apply seq_passed (hd := rfl) (hl := rfl) (hb := rfl); exact rfl)
  apply seq_plain; exact do_pick_f rfl rfl; exact rfl
  apply seq_nil
  refine ct_cond_f rfl rfl ?_
  apply ct_exit
  apply exit_eq; exact rfl
  apply ct_seq
  apply ct_region
  apply seq_plain; exact do_move rfl; exact rfl
  apply seq_plain; exact do_assign rfl; exact rfl
  apply seq_nil
  apply ct_ret
  refine fin_keep hc rfl (by exact hq.ren) ?_
  rw [← ht]; exact ⟨rfl, rfl⟩
 ·have e1 : decide (((k + 1 : Nat) : Int) > 0) = true := decide_eq_true (by omega)
  obtain ⟨b, o, cs, z, s, ro, rfl, hg, hw⟩ := hs.out (by intro e; rw [e] at hk; simp at hk)
  have hk1 : k < l.length := by omega
  have ih' := ih k (by omega)
  iterate 2 (apply ct_seq)
  apply ct_region
  apply seq_plain; exact do_move rfl; exact rfl
  apply seq_plain; exact do_lenS rfl rfl rfl; exact rfl
  apply seq_plain; exact do_binInt rfl rfl rfl trivial; exact rfl
  apply seq_plain; exact do_move rfl; exact rfl
  rw [e1]
  iterate 2 (apply seq_guard (hd := rfl) (hl := rfl); exact do_move rfl; exact rfl)
  apply seq_guard (hd := rfl) (hl := rfl); exact do_lenS rfl rfl rfl; exact rfl
  apply seq_guard (hd := rfl) (hl := rfl); exact do_predB rfl (by omega); exact rfl
  apply seq_guard (hd := rfl) (hl := rfl); exact do_indexAddrS rfl rfl rfl (by exact idx_nat (by omega)); exact rfl
  apply seq_guard (hd := rfl) (hl := rfl); exact do_load rfl (by exact ext_get_old (by assumption) (by assumption)) rfl (by exact pt_sl0 (by assumption) (by omega)); exact rfl
  apply seq_guard (hd := rfl) (hl := rfl); exact do_binInt rfl rfl rfl trivial; exact rfl
  apply seq_plain; exact do_pick_t rfl rfl; exact rfl
  apply seq_nil
  refine ct_cond rfl (fun h2 => ?_) (fun h2 => ?_)
  ·have h2 : l[k] = 0 := by simpa using h2
   have e : trimAt l k = trimN l := by
    rw [← ht]
    simp only [trimAt]
    rw [if_pos (by rw [List.getElem?_eq_getElem hk1, h2])]
   apply ct_skip
   apply ct_block
   apply ct_region
   iterate 2 (apply seq_plain; exact do_move rfl; exact rfl)
   apply seq_plain; exact do_lenS rfl rfl rfl; exact rfl
   apply seq_plain; exact do_predB rfl (by omega); exact rfl
   apply seq_plain; exact do_sliceTo (i := k) rfl rfl rfl (by intro e; cases e) (by rintro _ ⟨⟩; rfl) (by omega); exact rfl
   apply seq_plain; exact do_assign rfl; exact rfl
   apply seq_nil
   exact lt_to (by repeat (first | exact sub_nil | apply sub_cons rfl)) (.refl _) (ih' ⟨by omega, e⟩)
  ·have h2 : l[k] ≠ 0 := by simpa using h2
   have e : trimN l = k + 1 := by
    rw [← ht]
    simp only [trimAt]
    rw [if_neg (by rw [List.getElem?_eq_getElem hk1]; simpa using h2)]
   apply ct_exit
   apply exit_eq; exact rfl
   apply ct_seq
   apply ct_region
   apply seq_plain; exact do_move rfl; exact rfl
   apply seq_plain; exact do_assign rfl; exact rfl
   apply seq_nil
   apply ct_ret
   refine fin_keep hc rfl (by exact hq.ren) ?_
   rw [e]; exact ⟨rfl, rfl⟩
abbrev intQ (neg : Bool) (q : Option Addr) (n c : Nat) : Value := .agg ⟨[.bool neg, .slice q n c]⟩
theorem ren_intQ {H : AHeap} {q : Option Addr} (h : OldS H q) {lb : List Nat} {neg : Bool} {n c : Nat} : renV (renOf H lb) 8 (intQ neg q n c) = some (intQ neg q n c) := by
 have := h.ren (lb := lb) (n := n) (c := c) (d := 6)
 simp [renV, renL] at this ⊢
 rw [this]
theorem signed_c {H : AHeap} {neg : Bool} {q : Option Addr} {c : Nat} {l : List Int} (hs : SlAt H 1 i1 q l) (hq : OldS H q) (hlow : LowS q c l.length) (hn : l.length < 1000000000000) :
  Ret Tryz.prog 107 [.bool neg, .slice q l.length c] H (intQ (neg && decide (0 < trimN l)) q (trimN l) c) H := by
 refine fn_start Tryz.func107 rfl rfl rfl fun hc => ?_
 have ct := fun lo L => trim_c (H := ext H lo L) (hs.ext (ext_Ext hc)) hq.ext hlow hn
 have eg : decide (((trimN l : Nat) : Int) > 0) = decide (0 < trimN l) := by
  rw [Bool.eq_iff_iff, decide_eq_true_iff, decide_eq_true_iff]; omega
 cases neg
 ·apply ct_seq
  apply ct_region
  apply seq_newP; exact do_alloc rfl rfl; exact rfl
  apply seq_nil
  apply ct_seq
  apply ct_region
  apply seq_plain; exact do_move rfl; exact rfl
  apply seq_call (ht := rfl); exact ct _ _; exact rfl
  apply seq_plain; exact do_assign rfl; exact rfl
  apply seq_nil
  apply ct_seq
  apply ct_region
  iterate 2 (apply seq_plain; exact do_move rfl; exact rfl)
  iterate 3 (apply seq_passed (hd := rfl) (hl := rfl) (hb := rfl); exact rfl)
  apply seq_plain; exact do_pick_f rfl rfl; exact rfl
  apply seq_plain; exact do_move rfl; exact rfl
  apply seq_plain; exact do_build rfl rfl rfl rfl; exact rfl
  apply seq_putC (hc := by assumption); rotate_left; exact do_store rfl rfl (by exact ext_get_new rfl) rfl rfl (nb_own _); rotate_left; exact Nat.le_of_ble_eq_true rfl
  apply ct_ret
  exact fin_keepR hc (res_cell rfl rfl (ext_get_new rfl) rfl rfl) (ren_intQ hq) ⟨rfl, rfl⟩
 ·apply ct_seq
  apply ct_region
  apply seq_newP; exact do_alloc rfl rfl; exact rfl
  apply seq_nil
  apply ct_seq
  apply ct_region
  apply seq_plain; exact do_move rfl; exact rfl
  apply seq_call (ht := rfl); exact ct _ _; exact rfl
  apply seq_plain; exact do_assign rfl; exact rfl
  apply seq_nil
  apply ct_seq
  apply ct_region
  iterate 2 (apply seq_plain; exact do_move rfl; exact rfl)
  apply seq_guard (hd := rfl) (hl := rfl); exact do_move rfl; exact rfl
  apply seq_guard (hd := rfl) (hl := rfl); exact do_lenS rfl rfl rfl; exact rfl
  apply seq_guard (hd := rfl) (hl := rfl); exact do_binInt rfl rfl rfl trivial; exact rfl
  apply seq_plain; exact do_pick_t rfl rfl; exact rfl
  apply seq_plain; exact do_move rfl; exact rfl
  apply seq_plain; exact do_build rfl rfl rfl rfl; exact rfl
  apply seq_putC (hc := by assumption); rotate_left; exact do_store rfl rfl (by exact ext_get_new rfl) rfl rfl (nb_own _); rotate_left; exact Nat.le_of_ble_eq_true rfl
  apply ct_ret
  rw [eg]
  exact fin_keepR hc (res_cell rfl rfl (ext_get_new rfl) rfl rfl) (ren_intQ hq) ⟨rfl, rfl⟩
def mOne : Memo := ⟨99, [I 1], [], intQ false (some ⟨0, 0, none⟩) 1 1, [.cells [I 1] 1 true false]⟩
theorem runOne : memoIs Tryz.prog (ctxOf Tryz.prog) [] [] 100000 mOne = true := by kernel_rfl
theorem whole1_c {H : AHeap} : Ret Tryz.prog 99 [I 1] H (intQ false (some ⟨H.fresh, 0, none⟩) 1 1) (H.add (.cells [I 1] 1 true false)) := by
 have hr := memo_one (P := Tryz.prog) blO_ok memo_nil runOne
 refine ret_emb (τ := tauS []) (v0 := mOne.v) (zs := [.cells [I 1] 1 true false]) hr (emb_small (bOf_ok blO_ok) gloO lies_nil) ?_ ?_ ?_ fun c d hd => ?_
 ·simp [mOne, renL, renV]
 ·have e : tauN (tauS []) (smallH (bOf []) mOne.blks) H 0 = some H.fresh := by
   unfold tauN
   rw [if_neg (by omega), if_pos (by show 0 ≤ 0; omega)]
   show some (0 - 0 + H.fresh) = _
   simp
  simp [mOne, renV, renL] at e ⊢
  rw [e]
 ·rfl
 ·unfold tauN
  unfold tauS at hd
  split
  ·rename_i h1; unfold tauS; exact hd
  ·rename_i h1; rw [if_neg h1] at hd; simp at hd
end Go.Proofs.YtmcecjplgalcgaaGreatDoor
