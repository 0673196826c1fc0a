/- Contracts: rows are sorted by insertion. -/
import Derived.Test.YtppflopinmkpgaaDoorTcG
noncomputable section
namespace Go.Proofs.YtppflopinmkpgaaDoor
open Go Go.Den
set_option maxRecDepth 100000

theorem do_pred {P : Program} {l : EL} {h : AHeap} {x : Operand} {t t' : TypeId} {i : Nat} (hx : ev l x = some (.int .i64 ((i + 1 : Nat) : Int))) (hr : i < 9223372036854775807) : Does P l (.binOp .sub t x (.const (.int .i64 1)) t') h (.int .i64 (i : Int)) h := by
  have := do_sub (P := P) (l := l) (h := h) (t := t) (t' := t') (y := .const (.int .i64 1)) hx rfl (by omega)
  have e : ((i + 1 : Nat) : Int) - 1 = (i : Int) := by omega
  rw [e] at this
  exact this
theorem swapA_mem {l : List Rw} {i j : Nat} (hi : i < l.length) (hj : j < l.length) {x : Rw} (h : x ∈ swapA l i j) : x ∈ l := by
  rw [swapA_eq hi hj] at h
  rcases List.mem_or_eq_of_mem_set h with h | rfl
  · rcases List.mem_or_eq_of_mem_set h with h | rfl
    · exact h
    · exact List.getElem_mem _
  · exact List.getElem_mem _
theorem downA_t {lt : Rw → Rw → Bool} {T : List Rw} {k : Nat} (h : k + 1 < T.length) (hl : lt T[k + 1] T[k] = true) : downA lt 0 T (k + 1) = downA lt 0 (swapA T (k + 1) k) k := by
  simp only [downA, List.getElem?_eq_getElem h, List.getElem?_eq_getElem (Nat.lt_of_succ_lt h)]
  rw [if_pos ⟨by omega, hl⟩]
theorem downA_f {lt : Rw → Rw → Bool} {T : List Rw} {k : Nat} (h : k + 1 < T.length) (hl : lt T[k + 1] T[k] = false) : downA lt 0 T (k + 1) = T := by
  simp only [downA, List.getElem?_eq_getElem h, List.getElem?_eq_getElem (Nat.lt_of_succ_lt h)]
  rw [if_neg (by rw [hl]; simp)]
set_option maxHeartbeats 8000000 in
theorem insertion_c {H : AHeap} {T : List Rw} {b z c g : Nat} {s : Bool} {caps : List Value} {cm : Rw → Rw → Int} (hb : own b = true) (hlt : b < H.fresh) (hg : H.get b = some (rwB T z s)) (hn : T.length ≤ 1000000)
    (hcm : ∀ x ∈ T, ∀ y ∈ T, ∀ H', (∀ c v, c ≠ b → H.get c = some v → H'.get c = some v) → Ret Tryd.prog g (.agg ⟨rw9 x⟩ :: .agg ⟨rw9 y⟩ :: caps) H' (I (cm x y)) H') :
    Ret Tryd.prog 74 [.slice (some ⟨b, 0, none⟩) T.length c, I 0, I T.length, .func (.func g) #[] ⟨caps⟩] H (packA []) (H.put b (rwB (insA (fun x y => decide (cm x y < 0)) 0 T (T.length - 1)) z s)) := by
  refine fn_start Tryd.func74 rfl rfl rfl fun hc => ?_
  apply ct_seq
  apply ct_region
  apply seq_plain; exact do_move rfl; exact rfl
  apply seq_plain; exact do_add rfl rfl (by omega); exact rfl
  apply seq_plain; exact do_assign rfl; exact rfl
  apply seq_nil
  apply ct_block
  apply ct_loop
  refine lt_meas (α := Nat × List Rw × AHeap × Nat) (fun a => [(0, .slice (some ⟨b, 0, none⟩) T.length c), (1, I 0), (2, I T.length), (3, .func (.func g) #[] ⟨caps⟩), (8, I ((a.1 + 1 : Nat) : Int))]) (fun a => ext a.2.2.1 a.2.2.2 [])
    (fun a => (a.1 = 0 ∨ a.1 + 1 ≤ T.length) ∧ a.2.1 = insA (fun x y => decide (cm x y < 0)) 0 T a.1 ∧ (∀ x ∈ a.2.1, x ∈ T) ∧ Cg H a.2.2.1 b (rwB a.2.1 z s)) (fun a => T.length - a.1) (fun a ha ih => ?_) (0, T, H, H.fresh) ⟨.inl rfl, rfl, fun _ h => h, Cg.refl hc hg⟩ (by repeat (first | exact sub_nil | apply sub_cons rfl)) (.refl _)
  obtain ⟨i, T1, H1, lo1⟩ := a
  obtain ⟨hi, hT1, hm1, c1⟩ := ha
  simp only at hi hT1 hm1 c1 ih ⊢
  have ih' := fun i' T' H' lo' a1 a2 a3 a4 a5 => ih (i', T', H', lo') a1 ⟨a2, a3, a4, a5⟩
  simp only at ih'
  clear ih
  have hl1 : T1.length = T.length := by rw [hT1, insA_len]
  apply ct_seq
  apply ct_seq
  apply ct_region
  apply seq_plain; exact do_move rfl; exact rfl
  apply seq_plain; exact do_move rfl; exact rfl
  apply seq_plain; exact do_binInt rfl rfl rfl trivial; exact rfl
  apply seq_nil
  refine ct_cond rfl (fun h1 => ?_) (fun h1 => ?_)
  · have h1 : i + 1 < T.length := by simp at h1; omega
    apply ct_skip
    apply ct_seq
    apply ct_block
    apply ct_seq
    apply ct_region
    apply seq_plain; exact do_move rfl; exact rfl
    apply seq_plain; exact do_assign rfl; exact rfl
    apply seq_nil
    apply ct_block
    apply ct_loop
    refine lt_meas (α := Nat × List Rw × AHeap × Nat) (fun a => [(0, .slice (some ⟨b, 0, none⟩) T.length c), (1, I 0), (2, I T.length), (3, .func (.func g) #[] ⟨caps⟩), (8, I ((i + 1 : Nat) : Int)), (9, I a.1)]) (fun a => ext a.2.2.1 a.2.2.2 [])
      (fun a => a.1 ≤ i + 1 ∧ downA (fun x y => decide (cm x y < 0)) 0 a.2.1 a.1 = insA (fun x y => decide (cm x y < 0)) 0 T (i + 1) ∧ (∀ x ∈ a.2.1, x ∈ T) ∧ a.2.1.length = T.length ∧ Cg H a.2.2.1 b (rwB a.2.1 z s)) (fun a => a.1) (fun a ha ih2 => ?_) (i + 1, T1, H1, lo1) ⟨by simp, by simp only [insA, ← hT1]; simp, hm1, hl1, c1⟩ (by repeat (first | exact sub_nil | apply sub_cons rfl)) (.refl _)
    obtain ⟨j, T2, H2, lo2⟩ := a
    obtain ⟨hj, hT2, hm2, hl2, c2⟩ := ha
    simp only at hj hT2 hm2 hl2 c2 ih2 ⊢
    have ih2' := fun i' T' H' lo' a1 a2 a3 a4 a5 a6 => ih2 (i', T', H', lo') a1 ⟨a2, a3, a4, a5, a6⟩
    simp only at ih2'
    clear ih2
    have hc2 := c2.puts.closed
    have hg2 := c2.at_
    have hf2 : b < H2.fresh := by rw [c2.puts.fresh]; exact hlt
    apply ct_seq
    apply ct_seq
    apply ct_draw (by assumption); decide +kernel
    apply sd_plain (hfree := rfl); intro _; exact do_move rfl; exact rfl
    apply sd_plain (hfree := rfl); intro _; exact do_move rfl; exact rfl
    apply sd_plain (hfree := rfl); intro _; exact do_binInt rfl rfl rfl trivial; exact rfl
    apply sd_plain (hfree := rfl); intro _; exact do_move rfl; exact rfl
    refine sd_gsplit rfl rfl (fun u => ?_) (fun u => ?_)
    · have u : 0 < j := by simp at u; omega
      obtain ⟨k, rfl⟩ : ∃ k, j = k + 1 := ⟨j - 1, by omega⟩
      have hk1 : k + 1 < T2.length := by omega
      have hk0 : k < T2.length := by omega
      apply sd_guard (hfree := rfl) (hg := rfl) (hl := rfl); intro _; exact do_move rfl; exact rfl
      apply sd_guard (hfree := rfl) (hg := rfl) (hl := rfl); intro _; exact do_move rfl; exact rfl
      apply sd_guard (hfree := rfl) (hg := rfl) (hl := rfl); intro _; exact do_move rfl; exact rfl
      apply sd_guard (hfree := rfl) (hg := rfl) (hl := rfl); intro _; exact do_indexAddrS rfl rfl rfl (by exact idx_nat (by omega)); exact rfl
      apply sd_guardL (hfree := rfl) (hg := rfl) (hl := rfl); exact do_load rfl (by exact ext_get_old (by assumption) (by assumption)) rfl (by exact pt_flat rw9_len (by omega)); exact rfl
      apply sd_guard (hfree := rfl) (hg := rfl) (hl := rfl); intro _; exact do_move rfl; exact rfl
      apply sd_guard (hfree := rfl) (hg := rfl) (hl := rfl); intro _; exact do_move rfl; exact rfl
      apply sd_guard (hfree := rfl) (hg := rfl) (hl := rfl); intro _; exact do_pred rfl (by omega); exact rfl
      apply sd_guard (hfree := rfl) (hg := rfl) (hl := rfl); intro _; exact do_indexAddrS rfl rfl rfl (by exact idx_nat (by omega)); exact rfl
      apply sd_guardL (hfree := rfl) (hg := rfl) (hl := rfl); exact do_load rfl (by exact ext_get_old (by assumption) (by assumption)) rfl (by exact pt_flat rw9_len (by omega)); exact rfl
      apply sd_gcall (hg := rfl) (hl := rfl) (ht := rfl); exact hcm T2[k + 1] (hm2 _ (List.getElem_mem _)) T2[k] (hm2 _ (List.getElem_mem _)) _ (fun c v hne hv => ext_get_old hc2 (by rw [c2.off c hne]; exact hv)); exact rfl
      apply sd_guard (hfree := rfl) (hg := rfl) (hl := rfl); intro _; exact do_binInt rfl rfl rfl trivial; exact rfl
      apply sd_plain (hfree := rfl); intro _; exact do_pick_t rfl rfl; exact rfl
      apply sd_nil
      refine ct_cond rfl (fun h2 => ?_) (fun h2 => ?_)
      · have h2 : decide (cm T2[k + 1] T2[k] < 0) = true := by simpa using h2
        apply ct_skip
        apply ct_seq
        apply ct_block
        apply ct_draw (by assumption); decide +kernel
        apply sd_plain (hfree := rfl); intro _; exact do_move rfl; exact rfl
        apply sd_plain (hfree := rfl); intro _; exact do_move rfl; exact rfl
        apply sd_plain (hfree := rfl); intro _; exact do_move rfl; exact rfl
        apply sd_plain (hfree := rfl); intro _; exact do_move rfl; exact rfl
        apply sd_plain (hfree := rfl); intro _; exact do_pred rfl (by omega); exact rfl
        apply sd_plain (hfree := rfl); intro _; exact do_move rfl; exact rfl
        apply sd_plain (hfree := rfl); intro _; exact do_move rfl; exact rfl
        apply sd_plain (hfree := rfl); intro _; exact do_pred rfl (by omega); exact rfl
        apply sd_plain (hfree := rfl); intro _; exact do_indexAddrS rfl rfl rfl (by exact idx_nat (by omega)); exact rfl
        apply sd_look (hfree := rfl); exact do_load rfl (by exact ext_get_old (by assumption) (by assumption)) rfl (by exact pt_flat rw9_len (by omega)); exact rfl
        apply sd_plain (hfree := rfl); intro _; exact do_move rfl; exact rfl
        apply sd_plain (hfree := rfl); intro _; exact do_move rfl; exact rfl
        apply sd_plain (hfree := rfl); intro _; exact do_indexAddrS rfl rfl rfl (by exact idx_nat (by omega)); exact rfl
        apply sd_look (hfree := rfl); exact do_load rfl (by exact ext_get_old (by assumption) (by assumption)) rfl (by exact pt_flat rw9_len (by omega)); exact rfl
        apply sd_plain (hfree := rfl); intro _; exact do_indexAddrS rfl rfl rfl (by exact idx_nat (by omega)); exact rfl
        refine sd_putO0 (b := b) (x := rwB (T2.set (k + 1) T2[k]) z s) rfl (by decide +kernel) hc2 hb hf2 (do_store rfl rfl (ext_get_old hc2 hg2) rfl (stl_elem rw9_len (fun _ => rfl) hk1) hb) ?_
        have c3 := c2.put (z := z) (s := s) (ro := false) hb hlt (rw_flat (T2.set (k + 1) T2[k]))
        have hc3 := c3.puts.closed
        have hf3 : b < (H2.put b (rwB (T2.set (k + 1) T2[k]) z s)).fresh := by rw [c3.puts.fresh]; exact hlt
        apply sd_plain (hfree := rfl); intro _; exact do_indexAddrS rfl rfl rfl (by exact idx_nat (by omega)); exact rfl
        refine sd_putO0 (b := b) (x := rwB ((T2.set (k + 1) T2[k]).set k T2[k + 1]) z s) rfl (by decide +kernel) hc3 hb hf3 (do_store rfl rfl (ext_get_old hc3 c3.at_) rfl (stl_elem rw9_len (fun _ => rfl) (by simpa using hk0)) hb) ?_
        have c4 := c3.put (z := z) (s := s) (ro := false) hb hlt (rw_flat ((T2.set (k + 1) T2[k]).set k T2[k + 1]))
        rw [← swapA_eq hk1 hk0] at c4 ⊢
        apply sd_nil
        apply ct_region
        apply seq_plain; exact do_move rfl; exact rfl
        apply seq_plain; exact do_pred rfl (by omega); exact rfl
        apply seq_plain; exact do_assign rfl; exact rfl
        apply seq_nil
        refine lt_to (by repeat (first | exact sub_nil | apply sub_cons rfl)) (.refl _) (ih2' k (swapA T2 (k + 1) k) _ _ (by omega) (by omega) ?_ (fun x hx => hm2 x (swapA_mem hk1 hk0 hx)) (by rw [swapA_len]; exact hl2) c4)
        rw [← downA_t hk1 h2]; exact hT2
      · have h2 : decide (cm T2[k + 1] T2[k] < 0) = false := by simpa using h2
        rw [downA_f hk1 h2] at hT2
        apply ct_exit
        apply exit_eq; exact rfl
        apply ct_region
        apply seq_plain; exact do_move rfl; exact rfl
        apply seq_plain; exact do_succ rfl (by omega); exact rfl
        apply seq_plain; exact do_assign rfl; exact rfl
        apply seq_nil
        exact lt_to (by repeat (first | exact sub_nil | apply sub_cons rfl)) (.refl _) (ih' (i + 1) T2 H2 lo2 (by omega) (by omega) hT2 hm2 c2)
    · have u : j = 0 := by simp at u; omega
      subst u
      apply sd_passed (hg := rfl) (hl := rfl) (hb := rfl); exact rfl
      apply sd_passed (hg := rfl) (hl := rfl) (hb := rfl); exact rfl
      apply sd_passed (hg := rfl) (hl := rfl) (hb := rfl); exact rfl
      apply sd_passed (hg := rfl) (hl := rfl) (hb := rfl); exact rfl
      apply sd_passed (hg := rfl) (hl := rfl) (hb := rfl); exact rfl
      apply sd_passed (hg := rfl) (hl := rfl) (hb := rfl); exact rfl
      apply sd_passed (hg := rfl) (hl := rfl) (hb := rfl); exact rfl
      apply sd_passed (hg := rfl) (hl := rfl) (hb := rfl); exact rfl
      apply sd_passed (hg := rfl) (hl := rfl) (hb := rfl); exact rfl
      apply sd_passed (hg := rfl) (hl := rfl) (hb := rfl); exact rfl
      apply sd_passed (hg := rfl) (hl := rfl) (hb := rfl); exact rfl
      apply sd_passed (hg := rfl) (hl := rfl) (hb := rfl); exact rfl
      apply sd_plain (hfree := rfl); intro _; exact do_pick_f rfl rfl; exact rfl
      apply sd_nil
      refine ct_cond_f rfl rfl ?_
      apply ct_exit
      apply exit_eq; exact rfl
      apply ct_region
      apply seq_plain; exact do_move rfl; exact rfl
      apply seq_plain; exact do_succ rfl (by omega); exact rfl
      apply seq_plain; exact do_assign rfl; exact rfl
      apply seq_nil
      exact lt_to (by repeat (first | exact sub_nil | apply sub_cons rfl)) (.refl _) (ih' (i + 1) T2 H2 lo2 (by omega) (by omega) hT2 hm2 c2)
  · have h1 : i = T.length - 1 := by simp at h1; omega
    subst h1
    apply ct_exit
    apply exit_eq; exact rfl
    refine fin_cg hb hlt ⟨_, _, _, _, rfl, rw_flat _⟩ c1 rfl rfl ?_
    rw [hT1]; exact ⟨rfl, rfl⟩
end Go.Proofs.YtppflopinmkpgaaDoor
