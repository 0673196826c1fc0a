/- Contracts: shares of equal weights. -/
import Derived.Test.YtfjihdlpohljbaaGreatHaC
import Derived.Test.YtfjihdlpohljbaaGreatTcH
noncomputable section
namespace Go.Proofs.YtfjihdlpohljbaaGreat
open Go Go.Den
set_option maxRecDepth 100000

theorem whenN_c {H : AHeap} {b : Bool} {e : Int} : Ret Tryz.prog 40 [.bool b, I e] H (I (whenL b e)) H := by
  refine fn_start Tryz.func40 rfl rfl rfl fun hc => ?_
  apply ct_seq
  apply ct_region
  apply seq_plain; exact do_assign rfl; exact rfl
  apply seq_nil
  apply ct_seq
  apply ct_seq
  apply ct_region
  apply seq_plain; exact do_move rfl; exact rfl
  apply seq_nil
  refine ct_cond rfl (fun hb => ?_) (fun hb => ?_)
  · apply ct_seq
    apply ct_region
    apply seq_plain; exact do_move rfl; exact rfl
    apply seq_plain; exact do_assign rfl; exact rfl
    apply seq_nil
    apply ct_ret
    refine fin_flat hc rfl rfl ⟨?_, rfl⟩
    rw [hb]; rfl
  · apply ct_skip
    apply ct_seq
    apply ct_region
    apply seq_plain; exact do_assign rfl; exact rfl
    apply seq_nil
    apply ct_ret
    refine fin_flat hc rfl rfl ⟨?_, rfl⟩
    rw [hb]; rfl
theorem firstN_c {H : AHeap} {q : Option Addr} {c : Nat} {l : List Int} (hs : SlAt H 1 i1 q l) (hn : l.length < 1000000000000) :
    Ret Tryz.prog 39 [.slice q l.length c] H (I (firstL l)) H := by
  refine fn_start Tryz.func39 rfl rfl rfl fun hc => ?_
  apply ct_seq
  apply ct_region
  apply seq_plain; exact do_assign rfl; exact rfl
  apply seq_nil
  apply ct_seq
  apply ct_seq
  apply ct_region
  apply seq_plain; exact do_move rfl; exact rfl
  apply seq_plain; exact do_lenS rfl rfl rfl; exact rfl
  apply seq_plain; exact do_move rfl; exact rfl
  apply seq_nil
  apply ct_block
  apply ct_loop
  refine lt_up (fun i => [(5, .slice q l.length c), (6, I l.length), (7, I i)]) (fun i => ∀ j (hj : j < l.length), j < i → l[j] = 0) l.length (fun i hi hJ ih => ?_) 0 (by omega) (by intros; omega) (by repeat (first | exact sub_nil | apply sub_cons rfl))
  apply ct_seq
  apply ct_region
  apply seq_plain; exact do_binInt rfl rfl rfl trivial; exact rfl
  apply seq_nil
  apply ct_seq
  refine ct_cond rfl (fun hb => ?_) (fun hb => ?_)
  · simp only [decide_eq_true_eq, Int.ofNat_lt] at hb
    obtain ⟨b, o, cs, z, s, ro, rfl, hg, hw⟩ := hs.out (by intro e; rw [e] at hb; simp at hb)
    apply ct_skip
    apply ct_seq
    apply ct_block
    apply ct_seq
    apply ct_region
    apply seq_plain; exact do_indexAddrS rfl rfl rfl (by exact idx_nat (by omega)); exact rfl
    apply seq_plain; exact do_load rfl (by exact ext_get_old (by assumption) (by assumption)) rfl (by exact pt_sl0 (by assumption) (by omega)); exact rfl
    apply seq_plain; exact do_assign rfl; exact rfl
    apply seq_nil
    apply ct_seq
    apply ct_region
    apply seq_plain; exact do_move rfl; exact rfl
    apply seq_plain; exact do_binInt rfl rfl rfl trivial; exact rfl
    apply seq_nil
    refine ct_cond rfl (fun h2 => ?_) (fun h2 => ?_)
    · apply ct_seq
      apply ct_region
      apply seq_plain; exact do_move rfl; exact rfl
      apply seq_plain; exact do_assign rfl; exact rfl
      apply seq_nil
      apply ct_ret
      refine fin_flat hc rfl rfl ⟨?_, rfl⟩
      rw [firstL_at hb hJ (by simpa using h2)]; rfl
    · apply ct_skip
      apply ct_region
      apply seq_plain; exact do_succ rfl (by omega); exact rfl
      apply seq_plain; exact do_move rfl; exact rfl
      apply seq_nil
      refine lt_sub ?_ (ih (i + 1) (by omega) (by omega) fun j hj hji => ?_)
      · (repeat (first | exact sub_nil | apply sub_cons rfl))
      · rcases Nat.lt_or_ge j i with h | h
        · exact hJ j hj h
        · have : j = i := by omega
          subst this; simpa using h2
  · simp only [decide_eq_false_iff_not, Int.ofNat_lt] at hb
    apply ct_exit
    apply exit_eq; exact rfl
    apply ct_seq
    apply ct_region
    apply seq_plain; exact do_assign rfl; exact rfl
    apply seq_nil
    apply ct_ret
    refine fin_flat hc rfl rfl ⟨?_, rfl⟩
    rw [firstL_none fun j hj => hJ j hj (by omega)]; rfl

/-- nothing moves while all are alike -/
theorem insertion0_c {H : AHeap} {T : List Int} {b z c g : Nat} {s ro : Bool} {caps : List Value} (hg : H.get b = some (.cells (T.map I) z s ro)) (hn : T.length ≤ 1000000)
    (hcm : ∀ x ∈ T, ∀ y ∈ T, ∀ H', Ext H H' → Ret Tryz.prog g (I x :: I y :: caps) H' (I 0) H') :
    Ret Tryz.prog 105 [.slice (some ⟨b, 0, none⟩) T.length c, I 0, I T.length, .func (.func g) #[] ⟨caps⟩] H (packA []) H := by
  refine fn_start Tryz.func105 rfl rfl rfl fun hc => ?_
  apply ct_seq
  apply ct_region
  apply seq_plain; exact do_move rfl; exact rfl
  apply seq_plain; exact do_add rfl rfl (by omega); exact rfl
  apply seq_plain; exact do_assign rfl; exact rfl
  apply seq_nil
  apply ct_block
  apply ct_loop
  refine lt_up (fun i => [(0, .slice (some ⟨b, 0, none⟩) T.length c), (1, I 0), (2, I T.length), (3, .func (.func g) #[] ⟨caps⟩), (8, I ((i + 1 : Nat) : Int))]) (fun _ => True) T.length (fun i hi _ ih => ?_) 0 (by omega) trivial (by repeat (first | exact sub_nil | apply sub_cons rfl))
  apply ct_seq
  apply ct_seq
  apply ct_region
  apply seq_plain; exact do_move rfl; exact rfl
  apply seq_plain; exact do_move rfl; exact rfl
  apply seq_plain; exact do_binInt rfl rfl rfl trivial; exact rfl
  apply seq_nil
  refine ct_cond rfl (fun h1 => ?_) (fun h1 => ?_)
  · have h1 : i + 1 < T.length := by simp at h1; omega
    have e0 : decide (((i + 1 : Nat) : Int) > 0) = true := decide_eq_true (by omega)
    apply ct_skip
    apply ct_seq
    apply ct_block
    apply ct_seq
    apply ct_region
    apply seq_plain; exact do_move rfl; exact rfl
    apply seq_plain; exact do_assign rfl; exact rfl
    apply seq_nil
    apply ct_block
    apply ct_loop
    refine lt_up (fun _ => [(0, .slice (some ⟨b, 0, none⟩) T.length c), (1, I 0), (2, I T.length), (3, .func (.func g) #[] ⟨caps⟩), (8, I ((i + 1 : Nat) : Int)), (9, I ((i + 1 : Nat) : Int))]) (fun _ => True) 0 (fun j hj _ ih2 => ?_) 0 (by omega) trivial (by repeat (first | exact sub_nil | apply sub_cons rfl))
    apply ct_seq
    apply ct_seq
    apply ct_draw (by assumption); decide +kernel
    apply sd_plain (hfree := rfl); intro _; exact do_move rfl; exact rfl
    apply sd_plain (hfree := rfl); intro _; exact do_move rfl; exact rfl
    apply sd_plain (hfree := rfl); intro _; exact do_binInt rfl rfl rfl trivial; exact rfl
    apply sd_plain (hfree := rfl); intro _; exact do_move rfl; exact rfl
    rw [e0]
    apply sd_guard (hfree := rfl) (hg := rfl) (hl := rfl); intro _; exact do_move rfl; exact rfl
    apply sd_guard (hfree := rfl) (hg := rfl) (hl := rfl); intro _; exact do_move rfl; exact rfl
    apply sd_guard (hfree := rfl) (hg := rfl) (hl := rfl); intro _; exact do_move rfl; exact rfl
    apply sd_guard (hfree := rfl) (hg := rfl) (hl := rfl); intro _; exact do_indexAddrS rfl rfl rfl (by exact idx_nat (by omega)); exact rfl
    apply sd_guardL (hfree := rfl) (hg := rfl) (hl := rfl); exact do_load rfl (by exact ext_get_old (by assumption) (by assumption)) rfl (by exact pt_map (by omega)); exact rfl
    apply sd_guard (hfree := rfl) (hg := rfl) (hl := rfl); intro _; exact do_move rfl; exact rfl
    apply sd_guard (hfree := rfl) (hg := rfl) (hl := rfl); intro _; exact do_move rfl; exact rfl
    apply sd_guard (hfree := rfl) (hg := rfl) (hl := rfl); intro _; exact do_pred rfl (by omega); exact rfl
    apply sd_guard (hfree := rfl) (hg := rfl) (hl := rfl); intro _; exact do_indexAddrS rfl rfl rfl (by exact idx_nat (by omega)); exact rfl
    apply sd_guardL (hfree := rfl) (hg := rfl) (hl := rfl); exact do_load rfl (by exact ext_get_old (by assumption) (by assumption)) rfl (by exact pt_map (by omega)); exact rfl
    apply sd_gcall (hg := rfl) (hl := rfl) (ht := rfl); exact hcm T[i + 1] (List.getElem_mem _) T[i] (List.getElem_mem _) _ (ext_Ext hc); exact rfl
    apply sd_guard (hfree := rfl) (hg := rfl) (hl := rfl); intro _; exact do_binInt rfl rfl rfl trivial; exact rfl
    apply sd_plain (hfree := rfl); intro _; exact do_pick_t rfl rfl; exact rfl
    apply sd_nil
    refine ct_cond_f rfl rfl ?_
    apply ct_exit
    apply exit_eq; exact rfl
    apply ct_region
    apply seq_plain; exact do_move rfl; exact rfl
    apply seq_plain; exact do_succ rfl (by omega); exact rfl
    apply seq_plain; exact do_assign rfl; exact rfl
    apply seq_nil
    exact lt_sub (by repeat (first | exact sub_nil | apply sub_cons rfl)) (ih (i + 1) (by omega) (by omega) trivial)
  · have h1 : T.length ≤ i + 1 := by simp at h1; omega
    apply ct_exit
    apply exit_eq; exact rfl
    exact fin_flat hc rfl rfl ⟨rfl, rfl⟩
theorem stable0_c {H : AHeap} {T : List Int} {b z c g : Nat} {s ro : Bool} {caps : List Value} (hg : H.get b = some (.cells (T.map I) z s ro)) (hn : T.length ≤ 16)
    (hcm : ∀ x ∈ T, ∀ y ∈ T, ∀ H', Ext H H' → Ret Tryz.prog g (I x :: I y :: caps) H' (I 0) H') :
    Ret Tryz.prog 75 [.slice (some ⟨b, 0, none⟩) T.length c, I T.length, .func (.func g) #[] ⟨caps⟩] H (packA []) H := by
  refine fn_start Tryz.func75 rfl rfl rfl fun hc => ?_
  have e1 : decide ((20 : Int) ≤ (T.length : Int)) = false := decide_eq_false (by omega)
  have e2 : decide ((20 : Int) < (T.length : Int)) = false := decide_eq_false (by omega)
  apply ct_seq
  apply ct_region
  apply seq_plain; exact do_assign rfl; exact rfl
  apply seq_nil
  apply ct_seq
  apply ct_region
  apply seq_plain; exact do_move rfl; exact rfl
  apply seq_plain; exact do_assign rfl; exact rfl
  apply seq_plain; exact do_assign rfl; exact rfl
  apply seq_nil
  apply ct_seq
  apply ct_block
  apply ct_loop
  refine lt_up (fun _ => [(0, .slice (some ⟨b, 0, none⟩) T.length c), (1, I T.length), (2, .func (.func g) #[] ⟨caps⟩), (6, I 20), (7, I 0), (8, I 20)]) (fun _ => True) 0 (fun j hj _ ih2 => ?_) 0 (by omega) trivial (by repeat (first | exact sub_nil | apply sub_cons rfl))
  apply ct_seq
  apply ct_seq
  apply ct_region
  apply seq_plain; exact do_move rfl; exact rfl
  apply seq_plain; exact do_move rfl; exact rfl
  apply seq_plain; exact do_binInt rfl rfl rfl trivial; exact rfl
  apply seq_nil
  rw [e1]
  refine ct_cond_f rfl rfl ?_
  apply ct_exit
  apply exit_eq; exact rfl
  apply ct_seq
  apply ct_region
  apply seq_plain; exact do_move rfl; exact rfl
  apply seq_plain; exact do_move rfl; exact rfl
  apply seq_plain; exact do_move rfl; exact rfl
  apply seq_plain; exact do_move rfl; exact rfl
  apply seq_call (ht := rfl); exact insertion0_c (T := T) (ext_get_old hc hg) (by omega) (fun x hx y hy H' hE => hcm x hx y hy H' ((ext_Ext hc).trans hE)); exact rfl
  apply seq_nil
  apply ct_block
  apply ct_loop
  refine lt_up (fun _ => [(0, .slice (some ⟨b, 0, none⟩) T.length c), (1, I T.length), (2, .func (.func g) #[] ⟨caps⟩), (6, I 20)]) (fun _ => True) 0 (fun j hj _ ih2 => ?_) 0 (by omega) trivial (by repeat (first | exact sub_nil | apply sub_cons rfl))
  apply ct_seq
  apply ct_seq
  apply ct_region
  apply seq_plain; exact do_move rfl; exact rfl
  apply seq_plain; exact do_move rfl; exact rfl
  apply seq_plain; exact do_binInt rfl rfl rfl trivial; exact rfl
  apply seq_nil
  rw [e2]
  refine ct_cond_f rfl rfl ?_
  apply ct_exit
  apply exit_eq; exact rfl
  exact fin_flat hc rfl rfl ⟨rfl, rfl⟩
theorem sortStable0_c {H : AHeap} {T : List Int} {b z c g : Nat} {s ro : Bool} {caps : List Value} (hg : H.get b = some (.cells (T.map I) z s ro)) (hn : T.length ≤ 16)
    (hcm : ∀ x ∈ T, ∀ y ∈ T, ∀ H', Ext H H' → Ret Tryz.prog g (I x :: I y :: caps) H' (I 0) H') :
    Ret Tryz.prog 42 [.slice (some ⟨b, 0, none⟩) T.length c, .func (.func g) #[] ⟨caps⟩] H (packA []) H := by
  refine fn_start Tryz.func42 rfl rfl rfl fun hc => ?_
  apply ct_region
  apply seq_plain; exact do_move rfl; exact rfl
  apply seq_plain; exact do_move rfl; exact rfl
  apply seq_plain; exact do_lenS rfl rfl rfl; exact rfl
  apply seq_plain; exact do_move rfl; exact rfl
  apply seq_call (ht := rfl); exact stable0_c (T := T) (ext_get_old hc hg) (by omega) (fun x hx y hy H' hE => hcm x hx y hy H' ((ext_Ext hc).trans hE)); exact rfl
  apply seq_nil
  exact fin_flat hc rfl rfl ⟨rfl, rfl⟩
end Go.Proofs.YtfjihdlpohljbaaGreat
