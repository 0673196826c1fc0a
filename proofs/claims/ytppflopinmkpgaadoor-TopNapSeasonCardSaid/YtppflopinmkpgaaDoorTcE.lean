/- Contracts: figures compared. -/
import Derived.Test.YtppflopinmkpgaaDoorTcD
noncomputable section
namespace Go.Proofs.YtppflopinmkpgaaDoor
open Go Go.Den
set_option maxRecDepth 100000

theorem cmpOr_c {H : AHeap} {q : Option Addr} {c : Nat} {l : List Int} (hs : SlAt H 1 i1 q l) (hn : l.length < 1000000000000) :
    Ret Tryd.prog 28 [.slice q l.length c] H (I (firstL l)) H := by
  refine fn_start Tryd.func28 rfl rfl rfl fun hc => ?_
  apply ct_seq
  apply ct_region
  apply seq_plain; exact do_assign rfl; exact rfl
  apply seq_nil
  apply ct_seq
  apply ct_region
  apply seq_plain; exact do_assign rfl; exact rfl
  apply seq_nil
  apply ct_seq
  apply ct_seq
  apply ct_region
  apply seq_plain; exact do_move rfl; exact rfl
  apply seq_plain; exact do_lenS rfl rfl rfl; exact rfl
  apply seq_plain; exact do_move rfl; exact rfl
  apply seq_nil
  apply ct_block
  apply ct_loop
  refine lt_up (fun i => [(3, I 0), (6, .slice q l.length c), (7, I l.length), (8, I i)]) (fun i => ∀ j (hj : j < l.length), j < i → l[j] = 0) l.length (fun i hi hJ ih => ?_) 0 (by omega) (by intros; omega) (by repeat (first | exact sub_nil | apply sub_cons rfl))
  apply ct_seq
  apply ct_region
  apply seq_plain; exact do_binInt rfl rfl rfl trivial; exact rfl
  apply seq_nil
  apply ct_seq
  refine ct_cond rfl (fun h1 => ?_) (fun h1 => ?_)
  · simp only [decide_eq_true_eq, Int.ofNat_lt] at h1
    obtain ⟨b, o, cs, z, s, ro, rfl, hg, hw⟩ := hs.out (by intro e; rw [e] at h1; simp at h1)
    apply ct_skip
    apply ct_seq
    apply ct_block
    apply ct_seq
    apply ct_region
    apply seq_plain; exact do_indexAddrS rfl rfl rfl (by exact idx_nat (by omega)); exact rfl
    apply seq_plain; exact do_load rfl (by exact ext_get_old (by assumption) (by assumption)) rfl (by exact pt_sl0 (by assumption) (by omega)); exact rfl
    apply seq_plain; exact do_assign rfl; exact rfl
    apply seq_nil
    apply ct_seq
    apply ct_region
    apply seq_plain; exact do_move rfl; exact rfl
    apply seq_plain; exact do_move rfl; exact rfl
    apply seq_plain; exact do_binInt rfl rfl rfl trivial; exact rfl
    apply seq_nil
    refine ct_cond rfl (fun h2 => ?_) (fun h2 => ?_)
    · have h2 : l[i] ≠ 0 := by simpa using h2
      apply ct_seq
      apply ct_region
      apply seq_plain; exact do_move rfl; exact rfl
      apply seq_plain; exact do_assign rfl; exact rfl
      apply seq_nil
      apply ct_ret
      refine fin_flat hc rfl rfl ⟨?_, rfl⟩
      rw [firstL_at h1 hJ h2]; rfl
    · have h2 : l[i] = 0 := by simpa using h2
      apply ct_skip
      apply ct_region
      apply seq_plain; exact do_succ rfl (by omega); exact rfl
      apply seq_plain; exact do_move rfl; exact rfl
      apply seq_nil
      refine lt_sub (by repeat (first | exact sub_nil | apply sub_cons rfl)) (ih (i + 1) (by omega) (by omega) fun j hj hji => ?_)
      rcases Nat.lt_or_ge j i with h | h
      · exact hJ j hj h
      · have : j = i := by omega
        subst this; exact h2
  · have h1 : i = l.length := by simp at h1; omega
    subst h1
    apply ct_exit
    apply exit_eq; exact rfl
    apply ct_seq
    apply ct_region
    apply seq_plain; exact do_move rfl; exact rfl
    apply seq_plain; exact do_assign rfl; exact rfl
    apply seq_nil
    apply ct_ret
    refine fin_flat hc rfl rfl ⟨?_, rfl⟩
    rw [firstL_none fun j hj => hJ j hj hj]; rfl
def fg (f : Fg) : List Value := [I f.1, I f.2.1, I f.2.2]
theorem fgCmp_first {a b : Fg} : firstL [cmpL b.1 a.1, cmpL b.2.1 a.2.1, cmpL b.2.2 a.2.2] = fgCmp a b := by
  unfold fgCmp orL firstL
  by_cases h1 : cmpL b.1 a.1 = 0
  · by_cases h2 : cmpL b.2.1 a.2.1 = 0
    · by_cases h3 : cmpL b.2.2 a.2.2 = 0 <;> simp [h1, h2, h3]
    · simp [h1, h2]
  · simp [h1]
theorem better_c {H : AHeap} {a b : Fg} : Ret Tryd.prog 29 [.agg ⟨fg a⟩, .agg ⟨fg b⟩] H (I (fgCmp a b)) H := by
  refine fn_start Tryd.func29 rfl rfl rfl fun hc => ?_
  apply ct_seq
  apply ct_region
  apply seq_newP; exact do_box rfl rfl rfl; exact rfl
  apply seq_newP; exact do_box rfl rfl rfl; exact rfl
  apply seq_plain; exact do_assign rfl; exact rfl
  apply seq_nil
  apply ct_seq
  apply ct_draw (by assumption); decide +kernel
  apply sd_plain (hfree := rfl); intro _; exact do_fieldAddr rfl rfl; exact rfl
  apply sd_look (hfree := rfl); exact do_load rfl (by exact ext_get_new rfl) rfl (by exact rfl); exact rfl
  apply sd_plain (hfree := rfl); intro _; exact do_fieldAddr rfl rfl; exact rfl
  apply sd_look (hfree := rfl); exact do_load rfl (by exact ext_get_new rfl) rfl (by exact rfl); exact rfl
  apply sd_call (ht := rfl); exact compare_c; exact rfl
  apply sd_plain (hfree := rfl); intro _; exact do_fieldAddr rfl rfl; exact rfl
  apply sd_look (hfree := rfl); exact do_load rfl (by exact ext_get_new rfl) rfl (by exact rfl); exact rfl
  apply sd_plain (hfree := rfl); intro _; exact do_fieldAddr rfl rfl; exact rfl
  apply sd_look (hfree := rfl); exact do_load rfl (by exact ext_get_new rfl) rfl (by exact rfl); exact rfl
  apply sd_call (ht := rfl); exact compare_c; exact rfl
  apply sd_plain (hfree := rfl); intro _; exact do_fieldAddr rfl rfl; exact rfl
  apply sd_look (hfree := rfl); exact do_load rfl (by exact ext_get_new rfl) rfl (by exact rfl); exact rfl
  apply sd_plain (hfree := rfl); intro _; exact do_fieldAddr rfl rfl; exact rfl
  apply sd_look (hfree := rfl); exact do_load rfl (by exact ext_get_new rfl) rfl (by exact rfl); exact rfl
  apply sd_call (ht := rfl); exact compare_c; exact rfl
  apply sd_newS (hfree := rfl); exact do_buildSlice rfl rfl rfl rfl rfl rfl rfl; exact rfl
  apply sd_callM (ht := rfl) (hw := rfl); decide +kernel; exact cmpOr_c (l := [_, _, _]) (slAt_map (ext_get_new rfl)) (by simp); exact rfl
  apply sd_plain (hfree := rfl); intro _; exact do_assign rfl; exact rfl
  apply sd_nil
  apply ct_ret
  refine fin_flat hc rfl rfl ⟨?_, rfl⟩
  rw [← fgCmp_first]; rfl
theorem figures_c {H : AHeap} {x : Rw} (h1 : -9223372036854775808 ≤ x.fr - x.ag) (h2 : x.fr - x.ag ≤ 9223372036854775807) : Ret Tryd.prog 24 [.agg ⟨rw9 x⟩] H (.agg ⟨fg (figL x)⟩) H := by
  refine fn_start Tryd.func24 rfl rfl rfl fun hc => ?_
  apply ct_seq
  apply ct_region
  apply seq_newP; exact do_box rfl rfl rfl; exact rfl
  apply seq_newP; exact do_alloc rfl rfl; exact rfl
  apply seq_nil
  apply ct_seq
  apply ct_region
  apply seq_plain; exact do_fieldAddr rfl rfl; exact rfl
  apply seq_plain; exact do_load rfl (by exact ext_get_new rfl) rfl (by exact rfl); exact rfl
  apply seq_plain; exact do_fieldAddr rfl rfl; exact rfl
  apply seq_plain; exact do_load rfl (by exact ext_get_new rfl) rfl (by exact rfl); exact rfl
  apply seq_plain; exact do_fieldAddr rfl rfl; exact rfl
  apply seq_plain; exact do_load rfl (by exact ext_get_new rfl) rfl (by exact rfl); exact rfl
  apply seq_plain; exact do_sub rfl rfl (by omega); exact rfl
  apply seq_plain; exact do_fieldAddr rfl rfl; exact rfl
  apply seq_plain; exact do_load rfl (by exact ext_get_new rfl) rfl (by exact rfl); exact rfl
  apply seq_plain; exact do_build rfl rfl rfl rfl; exact rfl
  apply seq_putC (hc := by assumption); rotate_left; exact do_store rfl rfl (by exact ext_get_new rfl) rfl rfl (nb_own _); rotate_left; exact Nat.le_of_ble_eq_true rfl
  apply ct_ret
  refine fin_cell hc rfl rfl (by exact ext_get_new rfl) (by exact rfl) (by exact rfl) (by exact rfl) (by exact ⟨rfl, rfl⟩)
end Go.Proofs.YtppflopinmkpgaaDoor
