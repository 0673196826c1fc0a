/- Contracts: numbers are sorted by insertion, in a stable way. -/
import Derived.Test.YtflbffhahoblfaaGreatDoorAsB
import Derived.Test.YtflbffhahoblfaaGreatDoorTcH
import Derived.Test.YtflbffhahoblfaaGreatDoorSxM
noncomputable section
namespace Go.Proofs.YtflbffhahoblfaaGreatDoor
open Go Go.Den
set_option maxRecDepth 100000
def StR (lt : Int → Int → Bool) (a b : Int) : Prop := lt b a = false ∧ (lt a b = false → a < b)
theorem insR_stab {lt : Int → Int → Bool} (w : Weak lt) {x : Int} : ∀ {s : List Int}, s.Pairwise (StR lt) → (∀ y ∈ s, y < x) → (insR lt x s).Pairwise (StR lt)
  | [], _, _ => by simp [insR]
  | y :: r, h, hx => by
    have h1 := List.pairwise_cons.1 h
    simp only [insR]
    split
    · rename_i ha
      rw [List.all_eq_true] at ha
      refine List.pairwise_cons.2 ⟨fun b hb => ⟨w.asymm _ _ (ha b hb), fun e => ?_⟩, h⟩
      rw [ha b hb] at e; cases e
    · rename_i ha
      refine List.pairwise_cons.2 ⟨fun b hb => ?_, insR_stab w h1.2 fun z hz => hx z (List.mem_cons_of_mem _ hz)⟩
      rcases List.mem_cons.1 ((insR_perm r).subset hb) with rfl | hb
      · refine ⟨?_, fun _ => hx y (by simp)⟩
        have hz : ∃ z ∈ y :: r, lt b z = false := by
          apply Classical.byContradiction
          intro hno
          apply ha
          rw [List.all_eq_true]
          intro z hz
          cases e : lt b z
          · exact absurd ⟨z, hz, e⟩ hno
          · rfl
        obtain ⟨z, hz, e⟩ := hz
        rcases List.mem_cons.1 hz with rfl | hz
        · exact e
        · exact w.trans _ _ _ (h1.1 z hz).1 e
      · exact h1.1 b hb
theorem isort_stab {lt : Int → Int → Bool} (w : Weak lt) {l : List Int} (hl : l.Pairwise (· < ·)) : ∀ i, i ≤ l.length → (isort lt (l.take i)).Pairwise (StR lt)
  | 0, _ => by simp [isort]
  | i + 1, h => by
    rw [take_snoc (by omega), isort_snoc]
    refine insR_stab w (isort_stab w hl i (by omega)) fun y hy => ?_
    have hy := (isort_perm (l.take i)).subset hy
    obtain ⟨j, hj, rfl⟩ := List.mem_take_iff_getElem.1 hy
    exact List.pairwise_iff_getElem.1 hl j i (by omega) (by omega) (by omega)
/-! ### the walk -/
abbrev inZ (T : List Int) (z : Nat) (s : Bool) : ABlk := .cells (T.map I) z s false
theorem in_flat (T : List Int) : (T.map I).all (flatD 8) = true := by
  rw [List.all_eq_true]
  intro x hx
  obtain ⟨y, _, rfl⟩ := List.mem_map.1 hx
  rfl
theorem swapI_mem {l : List Int} {i j : Nat} (hi : i < l.length) (hj : j < l.length) {x : Int} (h : x ∈ swapA l i j) : x ∈ l := by
  rw [swapA_eq hi hj] at h
  rcases List.mem_or_eq_of_mem_set h with h | rfl
  · rcases List.mem_or_eq_of_mem_set h with h | rfl
    · exact h
    · exact List.getElem_mem _
  · exact List.getElem_mem _
theorem downI_t {lt : Int → Int → Bool} {T : List Int} {a k : Nat} (h : k + 1 < T.length) (ha : a < k + 1) (hl : lt T[k + 1] T[k] = true) : downA lt a T (k + 1) = downA lt a (swapA T (k + 1) k) k := by
  simp only [downA, List.getElem?_eq_getElem h, List.getElem?_eq_getElem (Nat.lt_of_succ_lt h)]
  rw [if_pos ⟨ha, hl⟩]
theorem downI_f {lt : Int → Int → Bool} {T : List Int} {a k : Nat} (h : k + 1 < T.length) (hl : lt T[k + 1] T[k] = false) : downA lt a T (k + 1) = T := by
  simp only [downA, List.getElem?_eq_getElem h, List.getElem?_eq_getElem (Nat.lt_of_succ_lt h)]
  rw [if_neg (by rw [hl]; simp)]
theorem downI_a {lt : Int → Int → Bool} {T : List Int} : ∀ {a : Nat}, downA lt a T a = T
  | 0 => rfl
  | a + 1 => by
    simp only [downA]
    split
    · rw [if_neg (by omega)]
    · rfl
set_option maxHeartbeats 8000000 in
theorem insertionI_c {H : AHeap} {T : List Int} {a0 m b z c g : Nat} {s : Bool} {caps : List Value} {cm : Int → Int → Int} (hb : own b = true) (hlt : b < H.fresh) (hg : H.get b = some (inZ T z s)) (hn : T.length ≤ 1000000) (ham : a0 ≤ m) (hmT : m ≤ T.length)
    (hcm : ∀ x ∈ T, ∀ y ∈ T, ∀ H', (∀ c v, c ≠ b → H.get c = some v → H'.get c = some v) → Ret Tryz.prog g (I x :: I y :: caps) H' (I (cm x y)) H') :
    Ret Tryz.prog 122 [.slice (some ⟨b, 0, none⟩) T.length c, I a0, I m, .func (.func g) #[] ⟨caps⟩] H (packA []) (H.put b (inZ (insA (fun x y => decide (cm x y < 0)) a0 T (m - a0 - 1)) z s)) := by
  refine fn_start Tryz.func122 rfl rfl rfl fun hc => ?_
  apply ct_seq
  apply ct_region
  apply seq_plain; exact do_move rfl; exact rfl
  apply seq_plain; exact do_succ rfl (by omega); exact rfl
  apply seq_plain; exact do_assign rfl; exact rfl
  apply seq_nil
  apply ct_block
  apply ct_loop
  refine lt_meas (α := Nat × List Int × AHeap × Nat) (fun a => [(0, .slice (some ⟨b, 0, none⟩) T.length c), (1, I a0), (2, I m), (3, .func (.func g) #[] ⟨caps⟩), (8, I ((a0 + a.1 + 1 : Nat) : Int))]) (fun a => ext a.2.2.1 a.2.2.2 [])
    (fun a => (a.1 = 0 ∨ a0 + a.1 + 1 ≤ m) ∧ a.2.1 = insA (fun x y => decide (cm x y < 0)) a0 T a.1 ∧ (∀ x ∈ a.2.1, x ∈ T) ∧ Cg H a.2.2.1 b (inZ a.2.1 z s)) (fun a => m - a.1) (fun a ha ih => ?_) (0, T, H, H.fresh) ⟨.inl rfl, rfl, fun _ h => h, Cg.refl hc hg⟩ (by repeat (first | exact sub_nil | apply sub_cons rfl)) (.refl _)
  obtain ⟨i, T1, H1, lo1⟩ := a
  obtain ⟨hi, hT1, hm1, c1⟩ := ha
  simp only at hi hT1 hm1 c1 ih ⊢
  have ih' := fun i' T' H' lo' a1 a2 a3 a4 a5 => ih (i', T', H', lo') a1 ⟨a2, a3, a4, a5⟩
  simp only at ih'
  clear ih
  have hl1 : T1.length = T.length := by rw [hT1, insA_len]
  iterate 2 (apply ct_seq)
  apply ct_region
  iterate 2 (apply seq_plain; exact do_move rfl; exact rfl)
  apply seq_plain; exact do_binInt rfl rfl rfl trivial; exact rfl
  apply seq_nil
  refine ct_cond rfl (fun h1 => ?_) (fun h1 => ?_)
  · have h1 : a0 + i + 1 < m := by
      have h1 : decide (((a0 + i + 1 : Nat) : Int) < (m : Int)) = true := h1
      simp only [decide_eq_true_eq] at h1; omega
    apply ct_skip
    apply ct_seq
    apply ct_block
    apply ct_seq
    apply ct_region
    apply seq_plain; exact do_move rfl; exact rfl
    apply seq_plain; exact do_assign rfl; exact rfl
    apply seq_nil
    apply ct_block
    apply ct_loop
    refine lt_meas (α := Nat × List Int × AHeap × Nat) (fun a => [(0, .slice (some ⟨b, 0, none⟩) T.length c), (1, I a0), (2, I m), (3, .func (.func g) #[] ⟨caps⟩), (8, I ((a0 + i + 1 : Nat) : Int)), (9, I a.1)]) (fun a => ext a.2.2.1 a.2.2.2 [])
      (fun a => (a0 ≤ a.1 ∧ a.1 ≤ a0 + i + 1) ∧ downA (fun x y => decide (cm x y < 0)) a0 a.2.1 a.1 = insA (fun x y => decide (cm x y < 0)) a0 T (i + 1) ∧ (∀ x ∈ a.2.1, x ∈ T) ∧ a.2.1.length = T.length ∧ Cg H a.2.2.1 b (inZ a.2.1 z s)) (fun a => a.1) (fun a ha ih2 => ?_) (a0 + i + 1, T1, H1, lo1) ⟨⟨by omega, Nat.le_refl _⟩, by simp only [insA, ← hT1], hm1, hl1, c1⟩ (by repeat (first | exact sub_nil | apply sub_cons rfl)) (.refl _)
    obtain ⟨j, T2, H2, lo2⟩ := a
    obtain ⟨hj, hT2, hm2, hl2, c2⟩ := ha
    simp only at hj hT2 hm2 hl2 c2 ih2 ⊢
    have ih2' := fun i' T' H' lo' a1 a2 a3 a4 a5 a6 => ih2 (i', T', H', lo') a1 ⟨a2, a3, a4, a5, a6⟩
    simp only at ih2'
    clear ih2
    have hc2 := c2.puts.closed
    have hg2 := c2.at_
    have hf2 : b < H2.fresh := by rw [c2.puts.fresh]; exact hlt
    iterate 2 (apply ct_seq)
    apply ct_draw (by assumption); decide +kernel
    iterate 2 (apply sd_plain (hfree := rfl); intro _; exact do_move rfl; exact rfl)
    apply sd_plain (hfree := rfl); intro _; exact do_binInt rfl rfl rfl trivial; exact rfl
    apply sd_plain (hfree := rfl); intro _; exact do_move rfl; exact rfl
    refine sd_gsplit rfl rfl (fun u => ?_) (fun u => ?_)
    · have u : a0 < j := by
        have u : decide ((j : Int) > (a0 : Int)) = true := u
        simp only [decide_eq_true_eq] at u; omega
      obtain ⟨k, rfl⟩ : ∃ k, j = k + 1 := ⟨j - 1, by omega⟩
      have hk1 : k + 1 < T2.length := by omega
      have hk0 : k < T2.length := by omega
      iterate 3 (apply sd_guard (hfree := rfl) (hg := rfl) (hl := rfl); intro _; exact do_move rfl; exact rfl)
      apply sd_guard (hfree := rfl) (hg := rfl) (hl := rfl); intro _; exact do_indexAddrS rfl rfl rfl (by exact idx_nat (by omega)); exact rfl
      apply sd_guardL (hfree := rfl) (hg := rfl) (hl := rfl); exact do_load rfl (by exact ext_get_old (by assumption) (by assumption)) rfl (by exact pt_map (by omega)); exact rfl
      iterate 2 (apply sd_guard (hfree := rfl) (hg := rfl) (hl := rfl); intro _; exact do_move rfl; exact rfl)
      apply sd_guard (hfree := rfl) (hg := rfl) (hl := rfl); intro _; exact do_pred rfl (by omega); exact rfl
      apply sd_guard (hfree := rfl) (hg := rfl) (hl := rfl); intro _; exact do_indexAddrS rfl rfl rfl (by exact idx_nat (by omega)); exact rfl
      apply sd_guardL (hfree := rfl) (hg := rfl) (hl := rfl); exact do_load rfl (by exact ext_get_old (by assumption) (by assumption)) rfl (by exact pt_map (by omega)); exact rfl
      apply sd_gcall (hg := rfl) (hl := rfl) (ht := rfl); exact hcm T2[k + 1] (hm2 _ (List.getElem_mem _)) T2[k] (hm2 _ (List.getElem_mem _)) _ (fun c v hne hv => ext_get_old hc2 (by rw [c2.off c hne]; exact hv)); exact rfl
      apply sd_guard (hfree := rfl) (hg := rfl) (hl := rfl); intro _; exact do_binInt rfl rfl rfl trivial; exact rfl
      apply sd_plain (hfree := rfl); intro _; exact do_pick_t rfl rfl; exact rfl
      apply sd_nil
      refine ct_cond rfl (fun h2 => ?_) (fun h2 => ?_)
      · have h2 : decide (cm T2[k + 1] T2[k] < 0) = true := by simpa using h2
        apply ct_skip
        apply ct_seq
        apply ct_block
        apply ct_draw (by assumption); decide +kernel
        iterate 4 (apply sd_plain (hfree := rfl); intro _; exact do_move rfl; exact rfl)
        apply sd_plain (hfree := rfl); intro _; exact do_pred rfl (by omega); exact rfl
        iterate 2 (apply sd_plain (hfree := rfl); intro _; exact do_move rfl; exact rfl)
        apply sd_plain (hfree := rfl); intro _; exact do_pred rfl (by omega); exact rfl
        apply sd_plain (hfree := rfl); intro _; exact do_indexAddrS rfl rfl rfl (by exact idx_nat (by omega)); exact rfl
        apply sd_look (hfree := rfl); exact do_load rfl (by exact ext_get_old (by assumption) (by assumption)) rfl (by exact pt_map (by omega)); exact rfl
        iterate 2 (apply sd_plain (hfree := rfl); intro _; exact do_move rfl; exact rfl)
        apply sd_plain (hfree := rfl); intro _; exact do_indexAddrS rfl rfl rfl (by exact idx_nat (by omega)); exact rfl
        apply sd_look (hfree := rfl); exact do_load rfl (by exact ext_get_old (by assumption) (by assumption)) rfl (by exact pt_map (by omega)); exact rfl
        apply sd_plain (hfree := rfl); intro _; exact do_indexAddrS rfl rfl rfl (by exact idx_nat (by omega)); exact rfl
        refine sd_putO0 (b := b) (x := inZ (T2.set (k + 1) T2[k]) z s) rfl (by decide +kernel) hc2 hb hf2 (do_store rfl rfl (ext_get_old hc2 hg2) rfl (stl_map (g := I) (v := T2[k]) hk1 rfl rfl) hb) ?_
        have c3 := c2.put (z := z) (s := s) (ro := false) hb hlt (in_flat (T2.set (k + 1) T2[k]))
        have hc3 := c3.puts.closed
        have hf3 : b < (H2.put b (inZ (T2.set (k + 1) T2[k]) z s)).fresh := by rw [c3.puts.fresh]; exact hlt
        apply sd_plain (hfree := rfl); intro _; exact do_indexAddrS rfl rfl rfl (by exact idx_nat (by omega)); exact rfl
        refine sd_putO0 (b := b) (x := inZ ((T2.set (k + 1) T2[k]).set k T2[k + 1]) z s) rfl (by decide +kernel) hc3 hb hf3 (do_store rfl rfl (ext_get_old hc3 c3.at_) rfl (stl_map (g := I) (v := T2[k + 1]) (by simpa using hk0) rfl rfl) hb) ?_
        have c4 := c3.put (z := z) (s := s) (ro := false) hb hlt (in_flat ((T2.set (k + 1) T2[k]).set k T2[k + 1]))
        rw [← swapA_eq hk1 hk0] at c4 ⊢
        apply sd_nil
        apply ct_region
        apply seq_plain; exact do_move rfl; exact rfl
        apply seq_plain; exact do_pred rfl (by omega); exact rfl
        apply seq_plain; exact do_assign rfl; exact rfl
        apply seq_nil
        refine lt_to (by repeat (first | exact sub_nil | apply sub_cons rfl)) (.refl _) (ih2' k (swapA T2 (k + 1) k) _ _ (by omega) ⟨by omega, by omega⟩ ?_ (fun x hx => hm2 x (swapI_mem hk1 hk0 hx)) (by rw [swapA_len]; exact hl2) c4)
        rw [← downI_t hk1 u h2]; exact hT2
      · have h2 : decide (cm T2[k + 1] T2[k] < 0) = false := by simpa using h2
        rw [downI_f hk1 h2] at hT2
        apply ct_exit
        apply exit_eq; exact rfl
        apply ct_region
        apply seq_plain; exact do_move rfl; exact rfl
        apply seq_plain; exact do_succ rfl (by omega); exact rfl
        apply seq_plain; exact do_assign rfl; exact rfl
        apply seq_nil
        exact lt_to (by repeat (first | exact sub_nil | apply sub_cons rfl)) (.refl _) (ih' (i + 1) T2 H2 lo2 (by omega) (by omega) hT2 hm2 c2)
    · have u : j = a0 := by
        have u : decide ((j : Int) > (a0 : Int)) = false := u
        simp only [decide_eq_false_iff_not] at u; omega
      subst u
      rw [downI_a] at hT2
      iterate 12 (apply sd_passed (hg := rfl) (hl := rfl) (hb := rfl); exact rfl)
      apply sd_plain (hfree := rfl); intro _; exact do_pick_f rfl rfl; exact rfl
      apply sd_nil
      refine ct_cond_f rfl rfl ?_
      apply ct_exit
      apply exit_eq; exact rfl
      apply ct_region
      apply seq_plain; exact do_move rfl; exact rfl
      apply seq_plain; exact do_succ rfl (by omega); exact rfl
      apply seq_plain; exact do_assign rfl; exact rfl
      apply seq_nil
      exact lt_to (by repeat (first | exact sub_nil | apply sub_cons rfl)) (.refl _) (ih' (i + 1) T2 H2 lo2 (by omega) (by omega) hT2 hm2 c2)
  · have h1 : i = m - a0 - 1 := by
      have h1 : decide (((a0 + i + 1 : Nat) : Int) < (m : Int)) = false := h1
      simp only [decide_eq_false_iff_not] at h1; omega
    subst h1
    apply ct_exit
    apply exit_eq; exact rfl
    refine fin_cg hb hlt ⟨_, _, _, _, rfl, in_flat _⟩ c1 rfl rfl ?_
    rw [hT1]; exact ⟨rfl, rfl⟩
end Go.Proofs.YtflbffhahoblfaaGreatDoor
