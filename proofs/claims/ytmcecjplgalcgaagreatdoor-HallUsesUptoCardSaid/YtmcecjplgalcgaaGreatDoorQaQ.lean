/- The reference's numbers: 0 over a number. -/
import Derived.Test.YtmcecjplgalcgaaGreatDoorQaP
noncomputable section
namespace Go.Proofs.YtmcecjplgalcgaaGreatDoor
open Go Go.Den
set_option maxRecDepth 100000
theorem cmpW_nil {w : List Int} (h : w ≠ []) : cmpW [] w = -1 := by
 have : 0 < w.length := List.length_pos_iff.2 h
 unfold cmpW
 rw [if_pos (by simp; omega), if_pos (by simpa using this)]
theorem renV_sl {H : AHeap} {q : Option Addr} (h : OldS H q) {n c : Nat} : renV (renOf H []) 8 (packA [.slice q n c]) = some (packA [.slice q n c]) := h.ren
theorem common0_c {H : AHeap} {p q : Option Addr} {c e : Nat} {w : List Int} (hp' : OldS H p) (hq : SlAt H 1 i1 q w) (hq' : OldS H q) (hn : w.length ≤ 1000) (hne : w ≠ []) :
  Ret Tryz.prog 104 [.slice p 0 c, .slice q w.length e] H (.slice q w.length e) H := by
 refine fn_start Tryz.func104 rfl rfl rfl fun hc => ?_
 have hpos : 0 < w.length := List.length_pos_iff.2 hne
 have cl := fun lo L => divLess_c (H := ext H lo L) (p := p) (c := c) (e := e) (a := []) (b := w) SlAt.nil hp'.ext (hq.ext (ext_Ext hc)) (by simp) hn (by rw [cmpW_nil hne]; decide)
 apply ct_seq
 apply ct_region
 apply seq_plain; exact do_assign rfl; exact rfl
 apply seq_nil
 apply ct_seq
 apply ct_block
 apply ct_loop
 apply lt_step
 iterate 2 (apply ct_seq)
 apply ct_region
 apply seq_plain; exact do_move rfl; exact rfl
 apply seq_plain; exact do_lenS rfl rfl rfl; exact rfl
 apply seq_plain; exact do_binInt rfl rfl rfl trivial; exact rfl
 apply seq_nil
 refine ct_cond_t rfl (decide_eq_true (by omega)) ?_
 apply ct_skip
 apply ct_block
 apply ct_seq
 apply ct_region
 iterate 2 (apply seq_plain; exact do_move rfl; exact rfl)
 apply seq_call (ht := rfl); exact cl _ _; exact rfl
 apply seq_plain; exact do_move rfl; exact rfl
 iterate 2 (apply seq_plain; exact do_extract rfl rfl; exact rfl)
 iterate 2 (apply seq_plain; exact do_assign rfl; exact rfl)
 apply seq_nil
 apply ct_region
 iterate 2 (apply seq_plain; exact do_move rfl; exact rfl)
 iterate 2 (apply seq_plain; exact do_assign rfl; exact rfl)
 apply seq_nil
 apply lt_step
 iterate 2 (apply ct_seq)
 apply ct_region
 apply seq_plain; exact do_move rfl; exact rfl
 apply seq_plain; exact do_lenS rfl rfl rfl; exact rfl
 apply seq_plain; exact do_binInt rfl rfl rfl trivial; exact rfl
 apply seq_nil
 refine ct_cond_f rfl rfl ?_
 apply ct_exit
 apply exit_eq; exact rfl
 apply ct_seq
 apply ct_region
 apply seq_plain; exact do_move rfl; exact rfl
 apply seq_plain; exact do_assign rfl; exact rfl
 apply seq_nil
 apply ct_ret
 exact fin_keep hc rfl (renV_sl hq') ⟨rfl, rfl⟩
theorem text0_c {H : AHeap} {ng : Bool} {q : Option Addr} {c : Nat} : Ret Tryz.prog 106 [intQ ng q 0 c] H (.string (tx [48])) H := by
 refine fn_start Tryz.func106 rfl rfl rfl fun hc => ?_
 apply ct_seq
 apply ct_region
 apply seq_newP; exact do_box rfl rfl rfl; exact rfl
 apply seq_plain; exact do_assign rfl; exact rfl
 apply seq_nil
 iterate 2 (apply ct_seq)
 apply ct_region
 apply seq_plain; exact do_fieldAddr rfl rfl; exact rfl
 apply seq_plain; exact do_load rfl (by exact ext_get_new rfl) rfl (by exact rfl); exact rfl
 apply seq_plain; exact do_lenS rfl rfl rfl; exact rfl
 apply seq_plain; exact do_binInt rfl rfl rfl trivial; exact rfl
 apply seq_nil
 refine ct_cond_t rfl rfl ?_
 apply ct_seq
 apply ct_region
 apply seq_plain; exact do_assign rfl; exact rfl
 apply seq_nil
 apply ct_ret
 exact fin_flat hc rfl rfl ⟨rfl, rfl⟩
def DivSame (w : List Int) : Prop := ∀ (H : AHeap) (p q : Option Addr) (c e : Nat), SlAt H 1 i1 p w → SlAt H 1 i1 q w → CallT Tryz.prog 105 [.slice p w.length c, .slice q w.length e] H (fun v H' => ∃ k x, v = .tuple ⟨[.slice (some ⟨H.fresh, 0, none⟩) 1 1, .slice (some ⟨H.fresh + 2, 0, none⟩) 0 k]⟩ ∧ H' = (H.add (.cells [I 1] 1 false false)).add x)
theorem divSame1 {y : Int} (h1 : 1 ≤ y) (h2 : y < 1000000000) : DivSame [y] := by
 intro H p q c e hp hq
 have hd : DigL [y] := ⟨fun z hz => by rw [List.mem_singleton] at hz; omega⟩
 have h := divOne_c (c := c) (e := e) hp hq (by simp) hd (by omega) h2 (by rw [cmpW_self]; decide)
 have e1 : dvQ [y] y 1 = [1] := by
  simp only [dvQ, List.length_singleton, dvS, dvR, List.getElem?_cons_zero, Option.getD_some, Nat.sub_self]
  rw [Int.zero_mul, Int.zero_add, Int.ediv_self (by omega)]; rfl
 have e2 : dvR [y] y 1 = 0 := by
  simp only [dvR, List.length_singleton, List.getElem?_cons_zero, Option.getD_some, Nat.sub_self]
  rw [Int.zero_mul, Int.zero_add, Int.emod_self]
 rw [show ([y] : List Int).length = 1 from rfl, e1, e2] at h
 refine h.mono fun v H' hv => ?_
 exact ⟨1, _, hv.1, hv.2⟩
set_option maxHeartbeats 4000000 in
theorem fraction0_c {H : AHeap} {p q : Option Addr} {c e : Nat} {w : List Int} (hp' : OldS H p) (hq : SlAt H 1 i1 q w) (hq' : OldS H q) (hn : w.length ≤ 1000) (hne : w ≠ []) (hw : DivSame w) :
  Ret Tryz.prog 53 [intQ false p 0 c, intQ false q w.length e] H (.string (tx [48])) H := by
 refine fn_start Tryz.func53 rfl rfl rfl fun hc => ?_
 have cc := fun lo L => common0_c (H := ext H lo L) (p := p) (c := c) (e := e) hp'.ext (hq.ext (ext_Ext hc)) hq'.ext hn hne
 have cl := fun lo L => divLess_c (H := ext H lo L) (p := p) (c := c) (e := e) (a := []) (b := w) SlAt.nil hp'.ext (hq.ext (ext_Ext hc)) (by simp) hn (by rw [cmpW_nil hne]; decide)
 have cs := fun lo L => signed_c (H := ext H lo L) (neg := false) (q := none) (c := 0) (l := []) SlAt.nil OldS.nil ⟨Nat.le_refl _, (fun _ => ⟨rfl, rfl⟩), (fun _ e => by cases e)⟩ (by simp)
 have ct := fun lo L => text0_c (H := ext H lo L) (ng := false) (q := none) (c := 0)
 have cd := fun lo L => hw (ext H lo L) q q e e (hq.ext (ext_Ext hc)) (hq.ext (ext_Ext hc))
 apply ct_seq
 apply ct_region
 iterate 2 (apply seq_newP; exact do_box rfl rfl rfl; exact rfl)
 apply seq_plain; exact do_assign rfl; exact rfl
 apply seq_nil
 iterate 2 (apply ct_seq)
 apply ct_region
 apply seq_plain; exact do_fieldAddr rfl rfl; exact rfl
 apply seq_plain; exact do_load rfl (by exact ext_get_new rfl) rfl (by exact rfl); exact rfl
 apply seq_nil
 refine ct_cond_f rfl rfl ?_
 apply ct_skip
 apply ct_seq
 apply ct_region
 apply seq_plain; exact do_fieldAddr rfl rfl; exact rfl
 apply seq_plain; exact do_load rfl (by exact ext_get_new rfl) rfl (by exact rfl); exact rfl
 apply seq_plain; exact do_fieldAddr rfl rfl; exact rfl
 apply seq_plain; exact do_load rfl (by exact ext_get_new rfl) rfl (by exact rfl); exact rfl
 apply seq_call (ht := rfl); exact cc _ _; exact rfl
 apply seq_plain; exact do_assign rfl; exact rfl
 apply seq_nil
 apply ct_seq
 apply ct_region
 apply seq_plain; exact do_fieldAddr rfl rfl; exact rfl
 apply seq_plain; exact do_load rfl (by exact ext_get_new rfl) rfl (by exact rfl); exact rfl
 apply seq_plain; exact do_move rfl; exact rfl
 apply seq_call (ht := rfl); exact cl _ _; exact rfl
 apply seq_plain; exact do_move rfl; exact rfl
 iterate 2 (apply seq_plain; exact do_extract rfl rfl; exact rfl)
 iterate 2 (apply seq_plain; exact do_assign rfl; exact rfl)
 apply seq_nil
 apply ct_seq
 apply ct_region
 apply seq_plain; exact do_fieldAddr rfl rfl; exact rfl
 apply seq_plain; exact do_load rfl (by exact ext_get_new rfl) rfl (by exact rfl); exact rfl
 apply seq_plain; exact do_move rfl; exact rfl
 refine seq_callQ rfl (cd _ _) rfl (fun v h' hR => ?_)
 obtain ⟨k, x, rfl, rfl⟩ := hR
 rw [ext_add, ext_add, ext_fresh]
 apply seq_plain; exact do_move rfl; exact rfl
 iterate 2 (apply seq_plain; exact do_extract rfl rfl; exact rfl)
 iterate 2 (apply seq_plain; exact do_assign rfl; exact rfl)
 apply seq_nil
 apply ct_seq
 apply ct_region
 apply seq_plain; exact do_fieldAddr rfl rfl; exact rfl
 apply seq_plain; exact do_load rfl (by exact ext_get_new rfl) rfl (by exact rfl); exact rfl
 apply seq_plain; exact do_move rfl; exact rfl
 apply seq_call (ht := rfl); exact cs _ _; exact rfl
 skip
 apply seq_call (ht := rfl); exact ct _ _; exact rfl
 apply seq_plain; exact do_assign rfl; exact rfl
 apply seq_nil
 iterate 2 (apply ct_seq)
 apply ct_region
 apply seq_plain; exact do_move rfl; exact rfl
 apply seq_plain; exact do_lenS rfl rfl rfl; exact rfl
 apply seq_plain; exact do_binInt rfl rfl rfl trivial; exact rfl
 apply seq_plain; exact do_move rfl; exact rfl
 apply seq_guard (hd := rfl) (hl := rfl); exact do_move rfl; exact rfl
 apply seq_guard (hd := rfl) (hl := rfl); exact do_indexAddrS rfl rfl rfl (by exact rfl); exact rfl
 apply seq_guard (hd := rfl) (hl := rfl); exact do_load rfl (by exact ext_get_new rfl) rfl (by exact rfl); exact rfl
 apply seq_guard (hd := rfl) (hl := rfl); exact do_binInt rfl rfl rfl trivial; exact rfl
 apply seq_plain; exact do_pick_t rfl rfl; exact rfl
 apply seq_nil
 refine ct_cond_t rfl rfl ?_
 apply ct_seq
 apply ct_region
 apply seq_plain; exact do_move rfl; exact rfl
 apply seq_plain; exact do_assign rfl; exact rfl
 apply seq_nil
 apply ct_ret
 exact fin_flat hc rfl rfl ⟨rfl, rfl⟩
end Go.Proofs.YtmcecjplgalcgaaGreatDoor
