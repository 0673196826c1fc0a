/- Contracts: what a cancellation posts. -/
import Derived.Test.YtfegloadbajbhaaGreatDoorHpC
noncomputable section
namespace Go.Proofs.YtfegloadbajbhaaGreatDoor
open Go Go.Den
set_option maxRecDepth 100000

def cancE (l : List Ra) (dep note : Int) (b : Bk) (quarter : Int) : Int := firstL [chargeE l dep note, bookE b, whenL (outL quarter 0 99999) 3, whenL (decide (quarter > b.frm)) 11]
def accQ (note : Int) (b : Bk) (quarter : Int) : Nat := if quarter + note ≤ b.frm then 0 else 3
def cancL (dep note : Int) (b : Bk) (quarter : Int) : List Po := postL (postL [] ⟨acc 0, acc 1, dep⟩) ⟨acc 1, acc (accQ note b quarter), dep⟩
def cancB (l : List Ra) (dep note : Int) (b : Bk) (quarter : Int) : List Po := if cancE l dep note b quarter ≠ 0 then [] else cancL dep note b quarter
theorem cancE_ok {l : List Ra} {dep note : Int} {b : Bk} {quarter : Int} (h : cancE l dep note b quarter = 0) : chargeE l dep note = 0 ∧ bookE b = 0 ∧ 0 ≤ quarter ∧ quarter ≤ 99999 ∧ quarter ≤ b.frm := by
  have t := firstL_allZ h
  have t3 := whenL_z (t _ (List.mem_cons_of_mem _ (List.mem_cons_of_mem _ (List.mem_cons_self ..)))) (by decide)
  have t4 := whenL_z (t _ (List.mem_cons_of_mem _ (List.mem_cons_of_mem _ (List.mem_cons_of_mem _ (List.mem_cons_self ..))))) (by decide)
  simp only [outL, decide_eq_false_iff_not] at t3 t4
  exact ⟨t _ (List.mem_cons_self ..), t _ (List.mem_cons_of_mem _ (List.mem_cons_self ..)), by omega, by omega, by omega⟩
set_option maxHeartbeats 8000000 in
theorem cancel_c {H : AHeap} {q : Option Addr} {c : Nat} {l : List Ra} {dep note quarter : Int} {b : Bk} (hs : SlAt H 3 ra q l) (hlow : LowS q c l.length) (hn : l.length < 1000000000000) :
    Ret Tryz.prog 62 [chV q l.length c dep note, .agg ⟨bk b⟩, I quarter] H (.tuple ⟨[lstV H.fresh (cancB l dep note b quarter), I (cancE l dep note b quarter)]⟩) (lstH H 3 po (cancB l dep note b quarter)) := by
  refine fn_start Tryz.func62 rfl rfl rfl fun hc => ?_
  have cC := fun L' => charge_c (dep := dep) (note := note) (hs.ext (ext_Ext hc (lo := H.fresh) (L := L'))) hlow hn
  apply ct_seq
  apply ct_region
  apply seq_newP; exact do_box rfl rfl rfl; exact rfl
  apply seq_newP; exact do_box rfl rfl rfl; exact rfl
  apply seq_plain; exact do_assign rfl; exact rfl
  apply seq_plain; exact do_assign rfl; exact rfl
  apply seq_nil
  apply ct_seq
  apply ct_seq
  apply ct_draw (by assumption); decide +kernel
  apply sd_look (hfree := rfl); exact do_load rfl (by exact ext_get_new rfl) rfl (by exact rfl); exact rfl
  apply sd_call (ht := rfl); exact cC _; exact rfl
  apply sd_look (hfree := rfl); exact do_load rfl (by exact ext_get_new rfl) rfl (by exact rfl); exact rfl
  apply sd_call (ht := rfl); exact book_c; exact rfl
  apply sd_plain (hfree := rfl); intro _; exact do_move rfl; exact rfl
  apply sd_call (ht := rfl); exact day_c; exact rfl
  apply sd_plain (hfree := rfl); intro _; exact do_move rfl; exact rfl
  apply sd_plain (hfree := rfl); intro _; exact do_fieldAddr rfl rfl; exact rfl
  apply sd_look (hfree := rfl); exact do_load rfl (by exact ext_get_new rfl) rfl (by exact rfl); exact rfl
  apply sd_plain (hfree := rfl); intro _; exact do_binInt rfl rfl rfl trivial; exact rfl
  apply sd_call (ht := rfl); exact when85; exact rfl
  apply sd_newS (hfree := rfl); exact do_buildSlice rfl rfl rfl rfl rfl rfl rfl; exact rfl
  apply sd_callM (ht := rfl) (hw := rfl); decide +kernel; exact first84 (l := [_, _, _, _]) (slAt_map (ext_get_new rfl)) (by simp); exact rfl
  apply sd_plain (hfree := rfl); intro _; exact do_assign rfl; exact rfl
  apply sd_nil
  apply ct_seq
  apply ct_region
  apply seq_plain; exact do_move rfl; exact rfl
  apply seq_plain; exact do_binInt rfl rfl rfl trivial; exact rfl
  apply seq_nil
  refine ct_cond rfl (fun h1 => ?_) (fun h1 => ?_)
  · have h1 : cancE l dep note b quarter ≠ 0 := by unfold cancE; simpa using h1
    have hB : cancB l dep note b quarter = [] := by unfold cancB; rw [if_pos h1]
    rw [hB]
    apply ct_seq
    apply ct_region
    apply seq_plain; exact do_move rfl; exact rfl
    apply seq_plain; exact do_assign rfl; exact rfl
    apply seq_plain; exact do_assign rfl; exact rfl
    apply seq_nil
    apply ct_ret
    exact fin_flat hc rfl rfl ⟨rfl, rfl⟩
  have h1 : cancE l dep note b quarter = 0 := by unfold cancE; simpa using h1
  have hB : cancB l dep note b quarter = cancL dep note b quarter := by unfold cancB; rw [h1]; rfl
  rw [hB, h1]
  obtain ⟨hE1, hE2, q1, q2, q3⟩ := cancE_ok h1
  obtain ⟨hr, d1, d2, d3, d4⟩ := charge_ok hE1
  clear cC
  refine ct_box2 (x := .cells [.slice q l.length c, I dep, I note] 0 false false) (y := .cells [.string b.name, .string b.kind, I b.frm, I b.to] 0 false false) rfl rfl fun L hL2 f0 f1 => ?_
  apply ct_skip
  apply ct_seq
  apply ct_region
  apply seq_plain; exact do_assign rfl; exact rfl
  apply seq_nil
  apply ct_seq
  apply ct_seq
  apply ct_region
  apply seq_plain; exact do_move rfl; exact rfl
  apply seq_plain; exact do_fieldAddr rfl rfl; exact rfl
  apply seq_plain; exact do_load rfl (by exact ext_get_new (by assumption)) rfl (by exact rfl); exact rfl
  apply seq_plain; exact do_add rfl rfl (by omega); exact rfl
  apply seq_plain; exact do_fieldAddr rfl rfl; exact rfl
  apply seq_plain; exact do_load rfl (by exact ext_get_new (by assumption)) rfl (by exact rfl); exact rfl
  apply seq_plain; exact do_binInt rfl rfl rfl trivial; exact rfl
  apply seq_nil
  refine ct_J [(3, .pointer (some ⟨nb H 0, 0, none⟩)), (9, I (accQ note b quarter : Nat))] (ds := []) (h := ext H H.fresh L) ?_ ?_
  · refine ct_cond rfl (fun h2 => ?_) (fun h2 => ?_)
    · have h2 : quarter + note ≤ b.frm := by simpa using h2
      have e : accQ note b quarter = 0 := if_pos h2
      rw [e]
      apply ct_region
      apply seq_plain; exact do_assign rfl; exact rfl
      apply seq_nil
      exact jp_of (by repeat (first | exact sub_nil | apply sub_cons rfl))
    · have h2 : ¬ quarter + note ≤ b.frm := by simpa using h2
      have e : accQ note b quarter = 3 := if_neg h2
      rw [e]
      apply ct_skip
      exact jp_of (by repeat (first | exact sub_nil | apply sub_cons rfl))
  have hk4 : accQ note b quarter < 4 := by unfold accQ; split <;> omega
  obtain ⟨k, hk⟩ : ∃ k, k = accQ note b quarter := ⟨_, rfl⟩
  rw [← hk] at hk4 ⊢
  by_cases hd : dep ≤ 0
  · have hC : cancL dep note b quarter = [] := by
      unfold cancL postL
      simp only [if_pos hd]
    rw [hC]
    have cN := fun (L : List (Option ABlk)) (k : Nat) => post_no (H := ext H H.fresh L) (p := none) (n := 0) (c := 0) (d := 0) (k := k) (a := dep) (fun _ h => by cases h) hd
    have cN1 := fun (L : List (Option ABlk)) (k : Nat) => post_no (H := ext H H.fresh L) (p := none) (n := 0) (c := 0) (d := 1) (k := k) (a := dep) (fun _ h => by cases h) hd
    apply ct_seq
    apply ct_draw (by assumption); decide +kernel
    apply sd_plain (hfree := rfl); intro _; exact do_fieldAddr rfl rfl; exact rfl
    apply sd_look (hfree := rfl); exact do_load rfl (by exact ext_get_new (getApp (by assumption))) rfl (by exact rfl); exact rfl
    refine sd_call rfl (cN _ 1) rfl ?_
    apply sd_plain (hfree := rfl); intro _; exact do_move rfl; exact rfl
    apply sd_plain (hfree := rfl); intro _; exact do_fieldAddr rfl rfl; exact rfl
    apply sd_look (hfree := rfl); exact do_load rfl (by exact ext_get_new (getApp (by assumption))) rfl (by exact rfl); exact rfl
    refine sd_call rfl (cN1 _ k) rfl ?_
    apply sd_plain (hfree := rfl); intro _; exact do_assign rfl; exact rfl
    apply sd_plain (hfree := rfl); intro _; exact do_assign rfl; exact rfl
    apply sd_nil
    apply ct_ret
    exact fin_flat hc rfl rfl ⟨rfl, rfl⟩
  · have hC : cancL dep note b quarter = [⟨acc 0, acc 1, dep⟩, ⟨acc 1, acc k, dep⟩] := by
      unfold cancL postL
      simp only [if_neg hd]
      rw [hk]; rfl
    rw [hC]
    have cN := fun (L : List (Option ABlk)) => post_nil (H := ext H H.fresh L) (d := 0) (k := 1) (a := dep) (by omega) (by omega) hd
    have cA : ∀ L : List (Option ABlk), ∀ K, L[K]? = some (some (.cells (po ⟨acc 0, acc 1, dep⟩) 3 true false)) → Ret Tryz.prog 128 [.slice (some ⟨nb H K, 0, none⟩) 1 1, I 1, I k, I dep] (ext H H.fresh L) (.slice (some ⟨nb H L.length, 0, none⟩) 2 2) (((ext H H.fresh L).kill (nb H K)).add (.cells (po ⟨acc 0, acc 1, dep⟩ ++ po ⟨acc 1, acc k, dep⟩) 3 true false)) := fun L K hK => by
      have hlt := (List.getElem?_eq_some_iff.1 hK).1
      have := post_app (H := ext H H.fresh L) (b := nb H K) (l := [⟨acc 0, acc 1, dep⟩]) (d := 1) (k := k) (a := dep) (nb_own _) (by rw [ext_fresh]; simp only [nb]; omega) (by rw [ext_get_new hK]; rfl) (by simp) (by omega) hk4 hd
      rwa [ext_fresh] at this
    apply ct_seq
    apply ct_draw (by assumption); decide +kernel
    apply sd_plain (hfree := rfl); intro _; exact do_fieldAddr rfl rfl; exact rfl
    apply sd_look (hfree := rfl); exact do_load rfl (by exact ext_get_new (getApp (by assumption))) rfl (by exact rfl); exact rfl
    refine sd_callN (v := fun b => .slice (some ⟨b, 0, none⟩) 1 1) (x := .cells (po ⟨acc 0, acc 1, dep⟩) 3 true false) rfl rfl rfl (cN _) rfl ?_
    apply sd_plain (hfree := rfl); intro _; exact do_move rfl; exact rfl
    apply sd_plain (hfree := rfl); intro _; exact do_fieldAddr rfl rfl; exact rfl
    apply sd_look (hfree := rfl); exact do_load rfl (by exact ext_get_new (getApp (by assumption))) rfl (by exact rfl); exact rfl
    refine sd_callH (by decide +kernel) hc rfl (cA _ L.length (by simp)) (ext_push hc (by simp) _) (by simp) rfl ?_
    apply sd_plain (hfree := rfl); intro _; exact do_assign rfl; exact rfl
    apply sd_plain (hfree := rfl); intro _; exact do_assign rfl; exact rfl
    apply sd_nil
    apply ct_ret
    refine fin_lst2 (k0 := 0) (lst := [⟨acc 0, acc 1, dep⟩, ⟨acc 1, acc k, dep⟩]) (f := po) (m := 3) hc ⟨.inr ⟨by simp, L.length + 1, Nat.zero_le _, by simp, ?_⟩⟩ rfl (fun _ => rfl) ⟨rfl, rfl⟩
    simp
end Go.Proofs.YtfegloadbajbhaaGreatDoor
