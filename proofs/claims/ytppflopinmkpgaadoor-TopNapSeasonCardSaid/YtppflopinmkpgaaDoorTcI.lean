/- Contracts: the stable sort of few rows; how the program compares rows. -/
import Derived.Test.YtppflopinmkpgaaDoorTcH
noncomputable section
namespace Go.Proofs.YtppflopinmkpgaaDoor
open Go Go.Den
set_option maxRecDepth 100000

set_option maxHeartbeats 4000000 in
theorem stable_c {H : AHeap} {T : List Rw} {b z c g : Nat} {s : Bool} {caps : List Value} {cm : Rw → Rw → Int} (hb : own b = true) (hlt : b < H.fresh) (hg : H.get b = some (rwB T z s)) (hn : T.length ≤ 8)
    (hcm : ∀ x ∈ T, ∀ y ∈ T, ∀ H', (∀ c v, c ≠ b → H.get c = some v → H'.get c = some v) → Ret Tryd.prog g (.agg ⟨rw9 x⟩ :: .agg ⟨rw9 y⟩ :: caps) H' (I (cm x y)) H') :
    Ret Tryd.prog 61 [.slice (some ⟨b, 0, none⟩) T.length c, I T.length, .func (.func g) #[] ⟨caps⟩] H (packA []) (H.put b (rwB (insA (fun x y => decide (cm x y < 0)) 0 T (T.length - 1)) z s)) := by
  refine fn_start Tryd.func61 rfl rfl rfl fun hc => ?_
  apply ct_seq
  apply ct_region
  apply seq_plain; exact do_assign rfl; exact rfl
  apply seq_nil
  apply ct_seq
  apply ct_region
  apply seq_plain; exact do_move rfl; exact rfl
  apply seq_plain; exact do_assign rfl; exact rfl
  apply seq_plain; exact do_assign rfl; exact rfl
  apply seq_nil
  apply ct_seq
  apply ct_block
  apply ct_loop
  apply lt_step
  apply ct_seq
  apply ct_seq
  apply ct_region
  apply seq_plain; exact do_move rfl; exact rfl
  apply seq_plain; exact do_move rfl; exact rfl
  apply seq_plain; exact do_binInt rfl rfl rfl trivial; exact rfl
  apply seq_nil
  refine ct_cond_f rfl (by simp; omega) ?_
  apply ct_exit
  apply exit_eq; exact rfl
  apply ct_seq
  apply ct_region
  apply seq_plain; exact do_move rfl; exact rfl
  apply seq_plain; exact do_move rfl; exact rfl
  apply seq_plain; exact do_move rfl; exact rfl
  apply seq_plain; exact do_move rfl; exact rfl
  refine seq_callPOC hc hb hlt rfl (insertion_c (T := T) hb (by rw [ext_fresh]; exact Nat.lt_of_lt_of_le hlt (nb_ge _)) (ext_get_old hc hg) (by omega) fun x hx y hy H' h' => hcm x hx y hy H' fun c v hne hv => h' c v hne (ext_get_old hc hv)) rfl ?_
  have c1 := (Cg.refl hc hg).put (z := z) (s := s) (ro := false) hb hlt (rw_flat (insA (fun x y => decide (cm x y < 0)) 0 T (T.length - 1)))
  apply ct_block
  apply ct_loop
  apply lt_step
  apply ct_seq
  apply ct_seq
  apply ct_region
  apply seq_plain; exact do_move rfl; exact rfl
  apply seq_plain; exact do_move rfl; exact rfl
  apply seq_plain; exact do_binInt rfl rfl rfl trivial; exact rfl
  apply seq_nil
  refine ct_cond_f rfl (by simp; omega) ?_
  apply ct_exit
  apply exit_eq; exact rfl
  exact fin_cg hb hlt ⟨_, _, _, _, rfl, rw_flat _⟩ c1 rfl rfl ⟨rfl, rfl⟩
theorem sortStable_c {H : AHeap} {T : List Rw} {b z c g : Nat} {s : Bool} {caps : List Value} {cm : Rw → Rw → Int} (hb : own b = true) (hlt : b < H.fresh) (hg : H.get b = some (rwB T z s)) (hn : T.length ≤ 8)
    (hcm : ∀ x ∈ T, ∀ y ∈ T, ∀ H', (∀ c v, c ≠ b → H.get c = some v → H'.get c = some v) → Ret Tryd.prog g (.agg ⟨rw9 x⟩ :: .agg ⟨rw9 y⟩ :: caps) H' (I (cm x y)) H') :
    Ret Tryd.prog 30 [.slice (some ⟨b, 0, none⟩) T.length c, .func (.func g) #[] ⟨caps⟩] H (packA []) (H.put b (rwB (insA (fun x y => decide (cm x y < 0)) 0 T (T.length - 1)) z s)) := by
  refine fn_start Tryd.func30 rfl rfl rfl fun hc => ?_
  apply ct_region
  apply seq_plain; exact do_move rfl; exact rfl
  apply seq_plain; exact do_move rfl; exact rfl
  apply seq_plain; exact do_lenS rfl rfl rfl; exact rfl
  apply seq_plain; exact do_move rfl; exact rfl
  refine seq_call rfl (stable_c (T := T) hb (by rw [ext_fresh]; exact Nat.lt_of_lt_of_le hlt (nb_ge _)) (ext_get_old hc hg) hn fun x hx y hy H' h' => hcm x hx y hy H' fun c v hne hv => h' c v hne (ext_get_old hc hv)) rfl ?_
  apply seq_nil
  exact fin_cgP hc hb hlt ⟨_, _, _, _, rfl, rw_flat _⟩ ⟨_, hg⟩ rfl rfl ⟨rfl, rfl⟩

theorem all_c {H : AHeap} {k : Int} : Ret Tryd.prog 23 [I k] H (.bool true) H := by
  refine fn_start Tryd.func23 rfl rfl rfl fun hc => ?_
  apply ct_seq
  apply ct_region
  apply seq_plain; exact do_assign rfl; exact rfl
  apply seq_nil
  apply ct_seq
  apply ct_region
  apply seq_plain; exact do_assign rfl; exact rfl
  apply seq_nil
  apply ct_ret
  exact fin_flat hc rfl rfl ⟨rfl, rfl⟩
/-- the figures of teams among those with the same ones -/
abbrev fgB (A : List Fg) : ABlk := .cells (A.flatMap fg) 3 false false
theorem fg_len (a : Fg) : (fg a).length = 3 := rfl
set_option maxHeartbeats 4000000 in
theorem cmpRows_c {H : AHeap} {x y : Rw} {bv ba n c zv : Nat} {sv rv : Bool} {A : List Fg} (hv : H.get bv = some (.cells [.slice (some ⟨ba, 0, none⟩) n c] zv sv rv)) (ha : H.get ba = some (fgB A)) (hA : A.length = n)
    (hx : 0 ≤ x.team ∧ x.team < n) (hy : 0 ≤ y.team ∧ y.team < n) (b1 : (0 ≤ x.fr ∧ x.fr ≤ 99000000) ∧ (0 ≤ x.ag ∧ x.ag ≤ 99000000)) (b2 : (0 ≤ y.fr ∧ y.fr ≤ 99000000) ∧ (0 ≤ y.ag ∧ y.ag ≤ 99000000)) :
    Ret Tryd.prog 27 [.agg ⟨rw9 x⟩, .agg ⟨rw9 y⟩, .pointer (some ⟨bv, 0, none⟩)] H (I (betterL (fun i => A[i]?.getD (0, 0, 0)) x y)) H := by
  refine fn_start Tryd.func27 rfl rfl rfl fun hc => ?_
  have hx1 : x.team.toNat < A.length := by omega
  have hy1 : y.team.toNat < A.length := by omega
  apply ct_seq
  apply ct_region
  apply seq_newP; exact do_box rfl rfl rfl; exact rfl
  apply seq_newP; exact do_box rfl rfl rfl; exact rfl
  apply seq_plain; exact do_assign rfl; exact rfl
  apply seq_nil
  apply ct_seq
  apply ct_draw (by assumption); decide +kernel
  apply sd_look (hfree := rfl); exact do_load rfl (by exact ext_get_new rfl) rfl (by exact rfl); exact rfl
  apply sd_call (ht := rfl); exact figures_c (x := x) (by omega) (by omega); exact rfl
  apply sd_look (hfree := rfl); exact do_load rfl (by exact ext_get_new rfl) rfl (by exact rfl); exact rfl
  apply sd_call (ht := rfl); exact figures_c (x := y) (by omega) (by omega); exact rfl
  apply sd_call (ht := rfl); exact better_c; exact rfl
  apply sd_look (hfree := rfl); exact do_load rfl (by exact ext_get_old (by assumption) (by assumption)) rfl (by exact rfl); exact rfl
  apply sd_plain (hfree := rfl); intro _; exact do_fieldAddr rfl rfl; exact rfl
  apply sd_look (hfree := rfl); exact do_load rfl (by exact ext_get_new rfl) rfl (by exact rfl); exact rfl
  apply sd_plain (hfree := rfl); intro _; exact do_indexAddrS rfl rfl rfl (by exact idx_int (by omega)); exact rfl
  apply sd_look (hfree := rfl); exact do_load rfl (by exact ext_get_old (by assumption) (by assumption)) rfl (by exact pt_flat fg_len (by omega)); exact rfl
  apply sd_look (hfree := rfl); exact do_load rfl (by exact ext_get_old (by assumption) (by assumption)) rfl (by exact rfl); exact rfl
  apply sd_plain (hfree := rfl); intro _; exact do_fieldAddr rfl rfl; exact rfl
  apply sd_look (hfree := rfl); exact do_load rfl (by exact ext_get_new rfl) rfl (by exact rfl); exact rfl
  apply sd_plain (hfree := rfl); intro _; exact do_indexAddrS rfl rfl rfl (by exact idx_int (by omega)); exact rfl
  apply sd_look (hfree := rfl); exact do_load rfl (by exact ext_get_old (by assumption) (by assumption)) rfl (by exact pt_flat fg_len (by omega)); exact rfl
  apply sd_call (ht := rfl); exact better_c; exact rfl
  apply sd_newS (hfree := rfl); exact do_buildSlice rfl rfl rfl rfl rfl rfl rfl; exact rfl
  apply sd_callM (ht := rfl) (hw := rfl); decide +kernel; exact cmpOr_c (l := [_, _]) (slAt_map (ext_get_new rfl)) (by simp); exact rfl
  apply sd_plain (hfree := rfl); intro _; exact do_assign rfl; exact rfl
  apply sd_nil
  apply ct_ret
  refine fin_flat hc rfl rfl ⟨?_, rfl⟩
  have e1 : A[x.team.toNat]?.getD (0, 0, 0) = A[x.team.toNat] := by simp [hx1]
  have e2 : A[y.team.toNat]?.getD (0, 0, 0) = A[y.team.toNat] := by simp [hy1]
  simp only [betterL, e1, e2]
  have key : ∀ a b : Int, firstL [a, b] = orL a b := by
    intro a b
    unfold firstL orL
    by_cases h1 : a = 0
    · by_cases h2 : b = 0 <;> simp [h1, h2]
    · simp [h1]
  rw [← key]; rfl
end Go.Proofs.YtppflopinmkpgaaDoor
