/- Contract: two sorted parts are merged in place, the second one of one element. -/
import Derived.Test.YtflbffhahoblfaaGreatDoorSmB
noncomputable section
namespace Go.Proofs.YtflbffhahoblfaaGreatDoor
open Go Go.Den
set_option maxRecDepth 100000
set_option maxHeartbeats 16000000 in
theorem symBack_c {H : AHeap} {P S1 Q : List Int} {y : Int} {a m e b z c g N : Nat} {s : Bool} {caps : List Value} {cm : Int → Int → Int} (hb : own b = true) (hlt : b < H.fresh) (hg : H.get b = some (inZ (P ++ S1 ++ [y] ++ Q) z s)) (hN : (P ++ S1 ++ [y] ++ Q).length = N) (hT : N ≤ 1000000) (ha : P.length = a) (hm : a + S1.length = m) (he : m + 1 = e) (h1s : 1 < S1.length)
    (w : Weak (ltC cm)) (hs1 : StW (ltC cm) S1) (hx0 : ∀ x ∈ S1, x < y) (hcm : CmpOk g caps cm b (P ++ S1 ++ [y] ++ Q) H) :
    Ret Tryz.prog 123 [.slice (some ⟨b, 0, none⟩) N c, I a, I m, I e, .func (.func g) #[] ⟨caps⟩] H (packA []) (H.put b (inZ (P ++ srtW (ltC cm) (S1 ++ [y]) ++ Q) z s)) := by
  refine fn_start Tryz.func123 rfl rfl rfl fun hc => ?_
  have hNl : P.length + S1.length + 1 + Q.length = N := by rw [← hN]; simp only [List.length_append, List.length_singleton]
  obtain ⟨T, hTe⟩ : ∃ T, T = P ++ S1 ++ [y] ++ Q := ⟨_, rfl⟩
  have hTl : T.length = N := by rw [hTe]; exact hN
  have gB : ∀ h : m < T.length, T[m] = y := fun h => by
    subst hTe
    have := get_mid (P := P ++ S1) (S := [y]) (Q := Q) (a := m) (k := 0) (by rw [List.length_append]; omega) (by simp) (by simp only [List.length_append, List.length_singleton]; omega)
    simpa [List.append_assoc] using this
  have gA : ∀ k (hk : k < S1.length) (h : a + k < T.length), T[a + k] = S1[k] := fun k hk h => by
    subst hTe
    have := get_mid (P := P) (S := S1) (Q := [y] ++ Q) (a := a) (k := k) ha hk (by simp only [List.length_append, List.length_singleton]; omega)
    simp only [← List.append_assoc] at this
    exact this
  rw [← hTe] at hcm
  have hgT : H.get b = some (inZ T z s) := by rw [hTe]; exact hg
  iterate 2 (apply ct_seq)
  apply ct_region
  iterate 2 (apply seq_plain; exact do_move rfl; exact rfl)
  apply seq_plain; exact do_subN rfl rfl (by omega) (by omega); exact rfl
  apply seq_plain; exact do_binInt rfl rfl rfl trivial; exact rfl
  apply seq_nil
  refine ct_cond_f rfl (by rw [beq_eq_false_iff_ne]; omega) ?_
  apply ct_skip
  iterate 2 (apply ct_seq)
  apply ct_region
  iterate 2 (apply seq_plain; exact do_move rfl; exact rfl)
  apply seq_plain; exact do_subN rfl rfl (by omega) (by omega); exact rfl
  apply seq_plain; exact do_binInt rfl rfl rfl trivial; exact rfl
  apply seq_nil
  refine ct_cond_t rfl (by rw [beq_iff_eq]; omega) ?_
  apply ct_seq
  apply ct_region
  apply seq_plain; exact do_move rfl; exact rfl
  apply seq_plain; exact do_assign rfl; exact rfl
  apply seq_nil
  apply ct_seq
  apply ct_region
  apply seq_plain; exact do_move rfl; exact rfl
  apply seq_plain; exact do_assign rfl; exact rfl
  apply seq_nil
  apply ct_seq
  apply ct_block
  apply ct_loop
  refine lt_meas (α := Nat × Nat) (fun x => [(0, .slice (some ⟨b, 0, none⟩) N c), (2, I m), (4, .func (.func g) #[] ⟨caps⟩), (14, I ((a + x.1 : Nat) : Int)), (15, I ((a + x.2 : Nat) : Int))]) (fun _ => ext H H.fresh []) (fun x => (x.1 ≤ x.2 ∧ x.2 ≤ S1.length) ∧ (∀ (g : 0 < x.1) (h : x.1 - 1 < S1.length), ltC cm y S1[x.1 - 1] = false) ∧ ∀ h : x.2 < S1.length, ltC cm y S1[x.2] = true) (fun x => x.2 - x.1) (fun x hx ih => ?_) (0, S1.length) ⟨⟨Nat.zero_le _, Nat.le_refl _⟩, fun h => absurd h (Nat.lt_irrefl _), fun h => absurd h (Nat.lt_irrefl _)⟩ (by simp only [Nat.add_zero, hm]; (repeat (first | exact sub_nil | apply sub_cons rfl))) (.refl _)
  obtain ⟨i, j⟩ := x
  obtain ⟨⟨h1, h2⟩, h3, h4⟩ := hx
  simp only at h1 h2 h3 h4 ih ⊢
  have ih' := fun i' j' a1 a2 a3 a4 => ih (i', j') a1 ⟨a2, a3, a4⟩
  simp only at ih'
  clear ih
  iterate 2 (apply ct_seq)
  apply ct_region
  iterate 2 (apply seq_plain; exact do_move rfl; exact rfl)
  apply seq_plain; exact do_binInt rfl rfl rfl trivial; exact rfl
  apply seq_nil
  refine ct_cond rfl (fun u => ?_) (fun u => ?_)
  · have u : i < j := by
      have u := of_decide_eq_true u
      omega
    obtain ⟨k, hk⟩ : ∃ k, (a + i + (a + j)) / 2 = a + k := ⟨(a + i + (a + j)) / 2 - a, by omega⟩
    have k1 : i ≤ k := by omega
    have k2 : k < j := by omega
    have e1 := gB (by omega)
    have hmk : (a + i + (a + j)) / 2 < T.length := by omega
    have e2 : T[(a + i + (a + j)) / 2] = S1[k] := by
      have := gA k (by omega) (by omega)
      simp only [hk]; exact this
    rw [← hTl]
    have haT : m < T.length := by omega
    apply ct_skip
    apply ct_block
    apply ct_seq
    apply ct_region
    iterate 2 (apply seq_plain; exact do_move rfl; exact rfl)
    apply seq_plain; exact do_addN rfl rfl (by omega); exact rfl
    apply seq_plain; exact do_toU rfl (by omega) rfl rfl; exact rfl
    apply seq_plain; exact do_half rfl; exact rfl
    apply seq_plain; exact do_ofU rfl (by omega) rfl rfl; exact rfl
    apply seq_plain; exact do_assign rfl; exact rfl
    apply seq_nil
    apply ct_seq
    apply ct_draw (by assumption); decide +kernel
    iterate 3 (apply sd_plain (hfree := rfl); intro _; exact do_move rfl; exact rfl)
    apply sd_plain (hfree := rfl); intro _; exact do_indexAddrS rfl rfl rfl (by exact idx_nat (by omega)); exact rfl
    apply sd_look (hfree := rfl); exact do_load rfl (by exact ext_get_old (by assumption) (by assumption)) rfl (by exact pt_map (by omega)); exact rfl
    iterate 2 (apply sd_plain (hfree := rfl); intro _; exact do_move rfl; exact rfl)
    apply sd_plain (hfree := rfl); intro _; exact do_indexAddrS rfl rfl rfl (by exact idx_nat (by omega)); exact rfl
    apply sd_look (hfree := rfl); exact do_load rfl (by exact ext_get_old (by assumption) (by assumption)) rfl (by exact pt_map (by omega)); exact rfl
    apply sd_call (ht := rfl); exact hcm T[m] (List.getElem_mem _) T[(a + i + (a + j)) / 2] (List.getElem_mem _) _ (fun c v hne hv => ext_get_old hc hv); exact rfl
    apply sd_plain (hfree := rfl); intro _; exact do_binInt rfl rfl rfl trivial; exact rfl
    apply sd_plain (hfree := rfl); intro _; exact do_unOp rfl rfl; exact rfl
    apply sd_nil
    rw [hTl]
    refine ct_cond rfl (fun v => ?_) (fun v => ?_)
    · have v : ltC cm y S1[k] = false := by rw [← e1, ← e2]; simpa using v
      apply ct_region
      apply seq_plain; exact do_move rfl; exact rfl
      apply seq_plain; exact do_succ rfl (by omega); exact rfl
      apply seq_plain; exact do_assign rfl; exact rfl
      apply seq_nil
      exact lt_sub (by simp only [hk]; (repeat (first | exact sub_nil | apply sub_cons rfl))) (ih' (k + 1) j (by omega) ⟨by omega, h2⟩ (fun _ _ => v) h4)
    · have v : ltC cm y S1[k] = true := by rw [← e1, ← e2]; simpa using v
      apply ct_region
      apply seq_plain; exact do_move rfl; exact rfl
      apply seq_plain; exact do_assign rfl; exact rfl
      apply seq_nil
      exact lt_sub (by simp only [hk]; (repeat (first | exact sub_nil | apply sub_cons rfl))) (ih' i k (by omega) ⟨by omega, by omega⟩ h3 (fun _ => v))
  have u : i = j := by
    have u := of_decide_eq_false u
    omega
  subst u
  clear ih'
  obtain ⟨f1, f2⟩ := found_back w hs1 h2 h3 h4
  have es := srt_back w hs1 hx0 h2 f1 f2
  rw [← es]
  clear es f1 f2 h3 h4 h1 gA gB hcm hTe hgT hTl T
  apply ct_exit
  apply exit_eq; exact rfl
  iterate 2 (apply ct_seq)
  apply ct_region
  apply seq_plain; exact do_move rfl; exact rfl
  apply seq_plain; exact do_assign rfl; exact rfl
  apply seq_nil
  apply ct_block
  apply ct_loop
  refine lt_meas (α := Nat × AHeap × Nat) (fun x => [(0, .slice (some ⟨b, 0, none⟩) N c), (14, I ((a + i : Nat) : Int)), (17, I ((a + x.1 : Nat) : Int))]) (fun x => ext x.2.1 x.2.2 []) (fun x => (i ≤ x.1 ∧ x.1 ≤ S1.length) ∧ Cg H x.2.1 b (inZ (P ++ (S1.take x.1 ++ y :: S1.drop x.1) ++ Q) z s)) (fun x => x.1) (fun x hx ih => ?_) (S1.length, H, H.fresh) ⟨⟨h2, Nat.le_refl _⟩, Cg.refl hc (by simpa using hg)⟩ (by simp only [hm]; (repeat (first | exact sub_nil | apply sub_cons rfl))) (.refl _)
  obtain ⟨k, H1, lo1⟩ := x
  obtain ⟨⟨hk, hkl⟩, c1⟩ := hx
  simp only at hk hkl c1 ih ⊢
  have ih' := fun i' H' lo' a1 a2 a3 => ih (i', H', lo') a1 ⟨a2, a3⟩
  simp only at ih'
  clear ih
  have hc1 := c1.puts.closed
  have hg1 := c1.at_
  have hf1 : b < H1.fresh := by rw [c1.puts.fresh]; exact hlt
  obtain ⟨T1, hT1⟩ : ∃ T1, T1 = P ++ (S1.take k ++ y :: S1.drop k) ++ Q := ⟨_, rfl⟩
  have hl1 : T1.length = N := by rw [hT1]; simp only [List.length_append, List.length_cons, List.length_take, List.length_drop]; omega
  rw [← hT1] at c1 hg1
  iterate 2 (apply ct_seq)
  apply ct_region
  iterate 2 (apply seq_plain; exact do_move rfl; exact rfl)
  apply seq_plain; exact do_binInt rfl rfl rfl trivial; exact rfl
  apply seq_nil
  refine ct_cond rfl (fun u => ?_) (fun u => ?_)
  · have u : i < k := by
      have u := of_decide_eq_true u
      omega
    obtain ⟨k', rfl⟩ : ∃ k', k = k' + 1 := ⟨k - 1, by omega⟩
    have k1 : a + (k' + 1) < T1.length := by omega
    have k2 : a + k' < T1.length := by omega
    have ek : a + (k' + 1) - 1 = a + k' := by omega
    have es : swapA T1 (a + (k' + 1)) (a + k') = P ++ (S1.take k' ++ y :: S1.drop k') ++ Q := by
      have hd : S1.drop k' = S1[k'] :: S1.drop (k' + 1) := List.drop_eq_getElem_cons (by omega)
      have := swap_adj (U := P ++ S1.take k') (u := S1[k']) (v := y) (V := S1.drop (k' + 1) ++ Q) (k := a + k') (by rw [List.length_append, List.length_take]; omega)
      have hcom : swapA T1 (a + (k' + 1)) (a + k') = swapA T1 (a + k') (a + (k' + 1)) := by
        rw [swapA_eq k1 k2, swapA_eq k2 k1, List.set_comm _ _ (by omega)]
      rw [hcom, hT1, hd, take_snoc (by omega)]
      simp only [List.append_assoc, List.cons_append, List.nil_append] at this ⊢
      exact this
    rw [← hl1]
    apply ct_skip
    apply ct_seq
    apply ct_block
    apply ct_draw (by assumption); decide +kernel
    iterate 4 (apply sd_plain (hfree := rfl); intro _; exact do_move rfl; exact rfl)
    apply sd_plain (hfree := rfl); intro _; exact do_predN rfl rfl (by omega) (by omega); exact rfl
    iterate 2 (apply sd_plain (hfree := rfl); intro _; exact do_move rfl; exact rfl)
    apply sd_plain (hfree := rfl); intro _; exact do_predN rfl rfl (by omega) (by omega); exact rfl
    apply sd_plain (hfree := rfl); intro _; exact do_indexAddrS rfl rfl rfl (by exact idx_nat (by omega)); exact rfl
    apply sd_look (hfree := rfl); exact do_load rfl (by exact ext_get_old (by assumption) (by assumption)) rfl (by exact pt_map (by omega)); exact rfl
    iterate 2 (apply sd_plain (hfree := rfl); intro _; exact do_move rfl; exact rfl)
    apply sd_plain (hfree := rfl); intro _; exact do_indexAddrS rfl rfl rfl (by exact idx_nat (by omega)); exact rfl
    apply sd_look (hfree := rfl); exact do_load rfl (by exact ext_get_old (by assumption) (by assumption)) rfl (by exact pt_map (by omega)); exact rfl
    apply sd_plain (hfree := rfl); intro _; exact do_indexAddrS rfl rfl rfl (by exact idx_nat (by omega)); exact rfl
    refine sd_putO0 (b := b) (x := inZ (T1.set (a + (k' + 1)) T1[a + k']) z s) rfl (by decide +kernel) hc1 hb hf1 (do_store rfl rfl (ext_get_old hc1 hg1) rfl (stl_map (g := I) (v := T1[a + k']) k1 rfl rfl) hb) ?_
    have c3 := c1.put (z := z) (s := s) (ro := false) hb hlt (in_flat (T1.set (a + (k' + 1)) T1[a + k']))
    have hc3 := c3.puts.closed
    have hf3 : b < (H1.put b (inZ (T1.set (a + (k' + 1)) T1[a + k']) z s)).fresh := by rw [c3.puts.fresh]; exact hlt
    apply sd_plain (hfree := rfl); intro _; exact do_indexAddrS rfl rfl rfl (by exact idx_nat (by omega)); exact rfl
    refine sd_putO0 (b := b) (x := inZ ((T1.set (a + (k' + 1)) T1[a + k']).set (a + k') T1[a + (k' + 1)]) z s) rfl (by decide +kernel) hc3 hb hf3 (do_store rfl rfl (ext_get_old hc3 c3.at_) rfl (stl_map (g := I) (v := T1[a + (k' + 1)]) (by simpa using k2) rfl rfl) hb) ?_
    have c4 := c3.put (z := z) (s := s) (ro := false) hb hlt (in_flat ((T1.set (a + (k' + 1)) T1[a + k']).set (a + k') T1[a + (k' + 1)]))
    rw [← swapA_eq k1 k2, es] at c4 ⊢
    apply sd_nil
    apply ct_region
    apply seq_plain; exact do_move rfl; exact rfl
    apply seq_plain; exact do_predN rfl rfl (by omega) (by omega); exact rfl
    apply seq_plain; exact do_assign rfl; exact rfl
    apply seq_nil
    refine lt_sub (l' := [(0, .slice (some ⟨b, 0, none⟩) T1.length c), (14, I ((a + i : Nat) : Int)), (17, I ((a + k' : Nat) : Int))]) (by repeat (first | exact sub_nil | apply sub_cons rfl)) ?_
    rw [hl1]
    exact lt_to (by repeat (first | exact sub_nil | apply sub_cons rfl)) (.refl _) (ih' k' _ _ (by omega) (by omega) c4)
  · have u : k = i := by
      have u := of_decide_eq_false u
      omega
    subst u
    apply ct_exit
    apply exit_eq; exact rfl
    apply ct_ret
    exact fin_cg hb hlt ⟨_, _, _, _, rfl, in_flat _⟩ c1 rfl rfl ⟨rfl, by rw [hT1]⟩
end Go.Proofs.YtflbffhahoblfaaGreatDoor
