/- Contract: a stable sort of up to 24 numbers. -/
import Derived.Test.YtflbffhahoblfaaGreatDoorSmD
noncomputable section
namespace Go.Proofs.YtflbffhahoblfaaGreatDoor
open Go Go.Den
set_option maxRecDepth 100000
theorem isort_srtW {lt : Int → Int → Bool} (w : Weak lt) {U : List Int} (h : U.Pairwise (· < ·)) : StW lt (isort lt U) := by
  have := isort_stab w h U.length (Nat.le_refl _)
  rw [List.take_length] at this
  exact st_of_stR this
theorem isort_eqW {lt : Int → Int → Bool} (w : Weak lt) {U : List Int} (h : U.Pairwise (· < ·)) : isort lt U = srtW lt U := srtW_uniq w (isort_perm U) (isort_srtW w h)
set_option maxHeartbeats 16000000 in
theorem stableM_c {H : AHeap} {T : List Int} {b z c g : Nat} {s : Bool} {caps : List Value} {cm : Int → Int → Int} (w : Weak (ltC cm)) (hb : own b = true) (hlt : b < H.fresh) (hg : H.get b = some (inZ T z s)) (h20 : 20 ≤ T.length) (hn : T.length ≤ 24) (hasc : T.Pairwise (· < ·)) (hcm : CmpOk g caps cm b T H) :
    Ret Tryz.prog 86 [.slice (some ⟨b, 0, none⟩) T.length c, I T.length, .func (.func g) #[] ⟨caps⟩] H (packA []) (H.put b (inZ (srtW (ltC cm) T) z s)) := by
  refine fn_start Tryz.func86 rfl rfl rfl fun hc => ?_
  obtain ⟨N, hN⟩ : ∃ N, N = T.length := ⟨_, rfl⟩
  obtain ⟨U, hU⟩ : ∃ U, U = T.take 20 := ⟨_, rfl⟩
  obtain ⟨V, hV⟩ : ∃ V, V = T.drop 20 := ⟨_, rfl⟩
  have hUV : T = U ++ V := by rw [hU, hV]; exact (List.take_append_drop ..).symm
  have lU : U.length = 20 := by rw [hU, List.length_take]; omega
  have lV : V.length = N - 20 := by rw [hV, List.length_drop, hN]
  obtain ⟨aU, aV, aX⟩ := List.pairwise_append.1 (hUV ▸ hasc)
  have sU := isort_srtW w aU
  have sV := isort_srtW w aV
  have pU := isort_perm (lt := ltC cm) U
  have pV := isort_perm (lt := ltC cm) V
  have q1 : insA (ltC cm) 0 T (20 - 0 - 1) = isort (ltC cm) U ++ V := by
    have := insA_isort w (q := []) (m := U) (r := V) (fun e => by rw [e] at lU; simp at lU)
    simp only [List.nil_append, List.length_nil, lU] at this
    rw [hUV]; exact this
  have q2 : insA (ltC cm) 20 (isort (ltC cm) U ++ V) (N - 20 - 1) = isort (ltC cm) U ++ isort (ltC cm) V := by
    by_cases e : V = []
    · have : N - 20 - 1 = 0 := by rw [e] at lV; simp at lV; omega
      rw [this, e]; rfl
    · have := insA_isort w (q := isort (ltC cm) U) (m := V) (r := []) e
      simp only [List.append_nil, pU.length_eq, lU, lV] at this
      exact this
  have m1 : ∀ y ∈ isort (ltC cm) U ++ V, y ∈ T := fun y hy => by
    rw [hUV]
    rcases List.mem_append.1 hy with hy | hy
    · exact List.mem_append_left _ (pU.mem_iff.1 hy)
    · exact List.mem_append_right _ hy
  have m2 : ∀ y ∈ isort (ltC cm) U ++ isort (ltC cm) V, y ∈ T := fun y hy => by
    rw [hUV]
    rcases List.mem_append.1 hy with hy | hy
    · exact List.mem_append_left _ (pU.mem_iff.1 hy)
    · exact List.mem_append_right _ (pV.mem_iff.1 hy)
  have l1 : (isort (ltC cm) U ++ V).length = N := by rw [List.length_append, pU.length_eq]; omega
  have l2 : (isort (ltC cm) U ++ isort (ltC cm) V).length = N := by rw [List.length_append, pU.length_eq, pV.length_eq]; omega
  have c0 := insertionI_c (H := ext H H.fresh []) (T := T) (c := c) (g := g) (caps := caps) (cm := cm) (a0 := 0) (m := 20) hb (by rw [ext_fresh]; exact Nat.lt_of_lt_of_le hlt (nb_ge _)) (ext_get_old hc hg) (by omega) (Nat.zero_le _) h20 fun x hx y hy H' h' => hcm x hx y hy H' fun c v hne hv => h' c v hne (ext_get_old hc hv)
  rw [show (fun x y : Int => decide (cm x y < 0)) = ltC cm from rfl, q1] at c0
  rw [← hN] at c0 h20 hn ⊢
  clear q1
  apply ct_seq
  apply ct_region
  apply seq_plain; exact do_assign rfl; exact rfl
  apply seq_nil
  apply ct_seq
  apply ct_region
  apply seq_plain; exact do_move rfl; exact rfl
  iterate 2 (apply seq_plain; exact do_assign rfl; exact rfl)
  apply seq_nil
  apply ct_seq
  apply ct_block
  apply ct_loop
  apply lt_step
  iterate 2 (apply ct_seq)
  apply ct_region
  iterate 2 (apply seq_plain; exact do_move rfl; exact rfl)
  apply seq_plain; exact do_binInt rfl rfl rfl trivial; exact rfl
  apply seq_nil
  refine ct_cond_t rfl (by simp; omega) ?_
  apply ct_skip
  apply ct_block
  apply ct_seq
  apply ct_region
  iterate 4 (apply seq_plain; exact do_move rfl; exact rfl)
  refine seq_callPOC hc hb hlt rfl c0 rfl ?_
  clear c0
  have k1 := (Cg.refl hc hg).put (z := z) (s := s) (ro := false) hb hlt (in_flat (isort (ltC cm) U ++ V))
  obtain ⟨H1, hH1⟩ : ∃ H1, H1 = H.put b (inZ (isort (ltC cm) U ++ V) z s) := ⟨_, rfl⟩
  rw [← hH1] at k1 ⊢
  have hc1 := k1.puts.closed
  have hf1 : b < H1.fresh := by rw [k1.puts.fresh]; exact hlt
  have c1 := insertionI_c (H := ext H1 (min H.fresh b) []) (T := isort (ltC cm) U ++ V) (c := c) (g := g) (caps := caps) (cm := cm) (a0 := 20) (m := N) hb (by rw [ext_fresh]; exact Nat.lt_of_lt_of_le hf1 (nb_ge _)) (ext_get_old hc1 k1.at_) (by omega) h20 (by omega) fun x hx y hy H' h' => hcm x (m1 x hx) y (m1 y hy) H' fun c v hne hv => h' c v hne (ext_get_old hc1 (by rw [k1.off c hne]; exact hv))
  rw [show (fun x y : Int => decide (cm x y < 0)) = ltC cm from rfl, q2, l1] at c1
  clear q2
  apply ct_seq
  apply ct_region
  apply seq_plain; exact do_move rfl; exact rfl
  apply seq_plain; exact do_assign rfl; exact rfl
  apply seq_nil
  apply ct_region
  iterate 2 (apply seq_plain; exact do_move rfl; exact rfl)
  apply seq_plain; exact do_add rfl rfl (by omega); exact rfl
  apply seq_plain; exact do_assign rfl; exact rfl
  apply seq_nil
  apply lt_step
  iterate 2 (apply ct_seq)
  apply ct_region
  iterate 2 (apply seq_plain; exact do_move rfl; exact rfl)
  apply seq_plain; exact do_binInt rfl rfl rfl trivial; exact rfl
  apply seq_nil
  refine ct_cond_f rfl (by simp; omega) ?_
  apply ct_exit
  apply exit_eq; exact rfl
  apply ct_seq
  apply ct_region
  iterate 4 (apply seq_plain; exact do_move rfl; exact rfl)
  refine seq_callPOC hc1 hb hf1 rfl c1 rfl ?_
  clear c1
  have k2 := k1.put (z := z) (s := s) (ro := false) hb hlt (in_flat (isort (ltC cm) U ++ isort (ltC cm) V))
  obtain ⟨H2, hH2⟩ : ∃ H2, H2 = H1.put b (inZ (isort (ltC cm) U ++ isort (ltC cm) V) z s) := ⟨_, rfl⟩
  rw [← hH2] at k2 ⊢
  have hc2 := k2.puts.closed
  have hf2 : b < H2.fresh := by rw [k2.puts.fresh]; exact hlt
  have ep : srtW (ltC cm) (isort (ltC cm) U ++ isort (ltC cm) V) = srtW (ltC cm) T := by
    refine srtW_uniq w ?_ (srtW_st w _)
    refine (srtW_perm _).trans ?_
    rw [hUV]
    exact pU.append pV
  apply ct_block
  apply ct_loop
  apply lt_step
  iterate 2 (apply ct_seq)
  apply ct_region
  iterate 2 (apply seq_plain; exact do_move rfl; exact rfl)
  apply seq_plain; exact do_binInt rfl rfl rfl trivial; exact rfl
  apply seq_nil
  refine ct_cond rfl (fun u => ?_) (fun u => ?_)
  · have u : 20 < N := by
      have u := of_decide_eq_true u
      omega
    have c2 := symMerge_c (N := N) (H := ext H2 (min (min H.fresh b) b) []) w (g := g) (caps := caps) (z := z) (c := c) (s := s) hb (by omega) _ (P := []) (S1 := isort (ltC cm) U) (S2 := isort (ltC cm) V) (Q := []) (a := 0) (m := 20) (e := N) (Nat.le_refl _) (by rw [ext_fresh]; exact Nat.lt_of_lt_of_le hf2 (nb_ge _)) (ext_get_old hc2 (by rw [List.nil_append, List.append_nil]; exact k2.at_)) (by rw [List.nil_append, List.append_nil]; exact l2) (fun e => by have := pU.length_eq; rw [e] at this; simp at this; omega) (fun e => by have := pV.length_eq; rw [e] at this; simp at this; omega) rfl (by rw [pU.length_eq]; omega) (by rw [pV.length_eq]; omega) sU sV (fun x hx y hy => aX x (pU.mem_iff.1 hx) y (pV.mem_iff.1 hy)) (fun x hx y hy H' h' => hcm x (m2 x (by simpa using hx)) y (m2 y (by simpa using hy)) H' fun c v hne hv => h' c v hne (ext_get_old hc2 (by rw [k2.off c hne]; exact hv)))
    simp only [List.nil_append, List.append_nil] at c2
    rw [ep] at c2
    apply ct_skip
    apply ct_block
    apply ct_seq
    apply ct_region
    apply seq_plain; exact do_move rfl; exact rfl
    apply seq_plain; exact do_binInt rfl rfl rfl trivial; exact rfl
    iterate 2 (apply seq_plain; exact do_assign rfl; exact rfl)
    apply seq_nil
    apply ct_seq
    apply ct_block
    apply ct_loop
    apply lt_step
    iterate 2 (apply ct_seq)
    apply ct_region
    iterate 2 (apply seq_plain; exact do_move rfl; exact rfl)
    apply seq_plain; exact do_binInt rfl rfl rfl trivial; exact rfl
    apply seq_nil
    refine ct_cond_f rfl (decide_eq_false (by show ¬ (40 : Int) ≤ N; omega)) ?_
    apply ct_exit
    apply exit_eq; exact rfl
    iterate 2 (apply ct_seq)
    apply ct_region
    iterate 2 (apply seq_plain; exact do_move rfl; exact rfl)
    apply seq_plain; exact do_add rfl rfl (by omega); exact rfl
    apply seq_plain; exact do_assign rfl; exact rfl
    apply seq_nil
    apply ct_seq
    apply ct_region
    iterate 2 (apply seq_plain; exact do_move rfl; exact rfl)
    apply seq_plain; exact do_binInt rfl rfl rfl trivial; exact rfl
    apply seq_nil
    refine ct_cond_t rfl (by simp; omega) ?_
    apply ct_region
    iterate 5 (apply seq_plain; exact do_move rfl; exact rfl)
    refine seq_callPOC hc2 hb hf2 rfl c2 rfl ?_
    have k3 := k2.put (z := z) (s := s) (ro := false) hb hlt (in_flat (srtW (ltC cm) T))
    apply ct_region
    apply seq_plain; exact do_move rfl; exact rfl
    apply seq_plain; exact do_binInt rfl rfl rfl trivial; exact rfl
    apply seq_plain; exact do_assign rfl; exact rfl
    apply seq_nil
    apply lt_step
    iterate 2 (apply ct_seq)
    apply ct_region
    iterate 2 (apply seq_plain; exact do_move rfl; exact rfl)
    apply seq_plain; exact do_binInt rfl rfl rfl trivial; exact rfl
    apply seq_nil
    refine ct_cond_f rfl (decide_eq_false (by show ¬ (40 : Int) < N; omega)) ?_
    apply ct_exit
    apply exit_eq; exact rfl
    exact fin_cg hb hlt ⟨_, _, _, _, rfl, in_flat _⟩ k3 rfl rfl ⟨rfl, rfl⟩
  · have u : N = 20 := by
      have u := of_decide_eq_false u
      omega
    have eV : V = [] := List.length_eq_zero_iff.1 (by omega)
    apply ct_exit
    apply exit_eq; exact rfl
    refine fin_cg hb hlt ⟨_, _, _, _, rfl, in_flat _⟩ k2 rfl rfl ?_
    have : isort (ltC cm) U ++ isort (ltC cm) V = srtW (ltC cm) T := by
      rw [eV] at hUV ⊢
      rw [List.append_nil] at hUV
      rw [hUV, ← isort_eqW w aU]
      exact List.append_nil _
    rw [this]; exact ⟨rfl, rfl⟩
theorem sortOrd_c {H : AHeap} {l : List Bk} {b z c g : Nat} {s : Bool} {caps : List Value} (hb : own b = true) (hlt : b < H.fresh) (hg : H.get b = some (inZ (natZ (List.range l.length)) z s)) (hn : l.length ≤ 24)
    (hcm : CmpOk g caps (cmZ l) b (natZ (List.range l.length)) H) :
    Ret Tryz.prog 40 [.slice (some ⟨b, 0, none⟩) l.length c, .func (.func g) #[] ⟨caps⟩] H (packA []) (H.put b (inZ (natZ (ordL l)) z s)) := by
  have hl : (natZ (List.range l.length)).length = l.length := by rw [natZ_len, List.length_range]
  by_cases h19 : l.length ≤ 19
  · have := sortStableI_c (c := c) (g := g) (caps := caps) (cm := cmZ l) hb hlt hg (by omega) hcm
    rw [ord_ins, hl] at this
    exact this
  · have hasc : (natZ (List.range l.length)).Pairwise (· < ·) := by
      unfold natZ
      rw [List.pairwise_map]
      exact List.pairwise_lt_range.imp fun h => by omega
    have w : Weak (ltC (cmZ l)) := weakZ l
    have es : srtW (ltC (cmZ l)) (natZ (List.range l.length)) = natZ (ordL l) := by
      rw [← ord_sort]
      exact (isort_eqW w hasc).symm
    refine fn_start Tryz.func40 rfl rfl rfl fun hc => ?_
    have cS := stableM_c (H := ext H H.fresh []) (c := c) (g := g) (caps := caps) w hb (by rw [ext_fresh]; exact Nat.lt_of_lt_of_le hlt (nb_ge _)) (ext_get_old hc hg) (by omega) (by omega) hasc (hcm.to (fun _ h => h) (fun c' v _ hv => ext_get_old hc hv))
    rw [es, hl] at cS
    apply ct_region
    iterate 2 (apply seq_plain; exact do_move rfl; exact rfl)
    apply seq_plain; exact do_lenS rfl rfl rfl; exact rfl
    apply seq_plain; exact do_move rfl; exact rfl
    refine seq_call rfl cS rfl ?_
    apply seq_nil
    exact fin_cgP hc hb hlt ⟨_, _, _, _, rfl, in_flat _⟩ ⟨_, hg⟩ rfl rfl ⟨rfl, rfl⟩
end Go.Proofs.YtflbffhahoblfaaGreatDoor
