/- Contract: two sorted parts are merged in place (symMerge, whatever their lengths). -/
import Derived.Test.YtflbffhahoblfaaGreatDoorSmC
noncomputable section
namespace Go.Proofs.YtflbffhahoblfaaGreatDoor
open Go Go.Den
set_option maxRecDepth 100000
def tI (T : List Int) (i : Nat) : Int := T[i]?.getD 0
theorem tI_at {T : List Int} {i : Nat} (h : i < T.length) : T[i] = tI T i := by unfold tI; rw [List.getElem?_eq_getElem h, Option.getD_some]
theorem tI_app {P S Q : List Int} {a k : Nat} (ha : P.length = a) (hk : k < S.length) : tI (P ++ S ++ Q) (a + k) = S[k] := by
  rw [← tI_at (by simp only [List.length_append]; omega)]
  exact get_mid ha hk (by simp only [List.length_append]; omega)
theorem cat_in {P A1 A2 B1 B2 Q : List Int} {y : Int} (h : y ∈ P ∨ y ∈ A1 ∨ y ∈ B1 ∨ y ∈ A2 ∨ y ∈ B2 ∨ y ∈ Q) : y ∈ P ++ (A1 ++ A2) ++ (B1 ++ B2) ++ Q := by
  rcases h with h | h | h | h | h | h <;> simp [h]
theorem cat_out {P A1 A2 B1 B2 Q : List Int} {y : Int} (h : y ∈ P ++ A1 ++ B1 ++ (A2 ++ B2 ++ Q)) : y ∈ P ∨ y ∈ A1 ∨ y ∈ B1 ∨ y ∈ A2 ∨ y ∈ B2 ∨ y ∈ Q := by
  simp only [List.mem_append] at h
  rcases h with ((h | h) | h) | (h | h) | h <;> simp [h]
theorem cat_out2 {P R A1 A2 B1 B2 Q : List Int} (hr : ∀ y, y ∈ R → y ∈ A1 ∨ y ∈ B1) {y : Int} (h : y ∈ P ++ R ++ A2 ++ B2 ++ Q) : y ∈ P ∨ y ∈ A1 ∨ y ∈ B1 ∨ y ∈ A2 ∨ y ∈ B2 ∨ y ∈ Q := by
  simp only [List.mem_append] at h
  rcases h with (((h | h) | h) | h) | h
  · simp [h]
  · rcases hr y h with h | h <;> simp [h]
  · simp [h]
  · simp [h]
  · simp [h]
structure SmS (a m e mid s r : Nat) : Prop where
  lo : a ≤ s
  sr : s ≤ r
  rm : r ≤ m
  rmid : r ≤ mid
  en : mid + m ≤ e + s
  l : s = a ∨ mid + m = e + s
  h : r = m ∨ r = mid
theorem srt_none (lt : Int → Int → Bool) (w : Weak lt) {A B : List Int} (hA : StW lt A) (hB : StW lt B) (h : A = [] ∨ B = []) : srtW lt (A ++ B) = A ++ B := by
  symm
  refine srtW_uniq w (.refl _) ?_
  rcases h with rfl | rfl
  · simpa using hB
  · simpa using hA
set_option maxHeartbeats 32000000 in
theorem symMerge_c {cm : Int → Int → Int} (w : Weak (ltC cm)) {g : Nat} {caps : List Value} {b z c N : Nat} {s : Bool} (hb : own b = true) (hT : N ≤ 1000000) (k : Nat) : ∀ {H : AHeap} {P S1 S2 Q : List Int} {a m e : Nat}, S1.length + S2.length ≤ k → b < H.fresh → H.get b = some (inZ (P ++ S1 ++ S2 ++ Q) z s) → (P ++ S1 ++ S2 ++ Q).length = N → S1 ≠ [] → S2 ≠ [] → P.length = a → a + S1.length = m → m + S2.length = e → StW (ltC cm) S1 → StW (ltC cm) S2 → (∀ x ∈ S1, ∀ y ∈ S2, x < y) → CmpOk g caps cm b (P ++ S1 ++ S2 ++ Q) H →
    Ret Tryz.prog 123 [.slice (some ⟨b, 0, none⟩) N c, I a, I m, I e, .func (.func g) #[] ⟨caps⟩] H (packA []) (H.put b (inZ (P ++ srtW (ltC cm) (S1 ++ S2) ++ Q) z s)) := by
  induction k with
  | zero =>
    intro H P S1 S2 Q a m e hk _ _ _ h1
    exact absurd (List.length_eq_zero_iff.1 (by omega)) h1
  | succ k ih =>
    intro H P S1 S2 Q a m e hk hlt hg hN h1 h2 ha hm he hs1 hs2 hx hcm
    have l1 : 0 < S1.length := List.length_pos_iff.2 h1
    have l2 : 0 < S2.length := List.length_pos_iff.2 h2
    by_cases c1 : S1.length = 1
    · obtain ⟨x, rfl⟩ := List.length_eq_one_iff.1 c1
      exact symFront_c hb hlt hg hN hT ha (by simpa using hm) he w hs2 (fun y hy => hx x (by simp) y hy) hcm
    by_cases c2 : S2.length = 1
    · obtain ⟨y, rfl⟩ := List.length_eq_one_iff.1 c2
      exact symBack_c hb hlt hg hN hT ha hm (by simpa using he) (by omega) w hs1 (fun x hx1 => hx x hx1 y (by simp)) hcm
    refine fn_start Tryz.func123 rfl rfl rfl fun hc => ?_
    have hNl : P.length + S1.length + S2.length + Q.length = N := by rw [← hN]; simp only [List.length_append]
    obtain ⟨T, hTe⟩ : ∃ T, T = P ++ S1 ++ S2 ++ Q := ⟨_, rfl⟩
    have hTl : T.length = N := by rw [hTe]; exact hN
    have gA : ∀ k (hk : k < S1.length), tI T (a + k) = S1[k] := fun k hk => by
      rw [hTe, List.append_assoc]; exact tI_app ha hk
    have gB : ∀ k (hk : k < S2.length), tI T (m + k) = S2[k] := fun k hk => by
      rw [hTe]; exact tI_app (P := P ++ S1) (by rw [List.length_append]; omega) hk
    rw [← hTe] at hcm
    have hgT : H.get b = some (inZ T z s) := by rw [hTe]; exact hg
    iterate 2 (apply ct_seq)
    apply ct_region
    iterate 2 (apply seq_plain; exact do_move rfl; exact rfl)
    apply seq_plain; exact do_subN rfl rfl (by omega) (by omega); exact rfl
    apply seq_plain; exact do_binInt rfl rfl rfl trivial; exact rfl
    apply seq_nil
    refine ct_cond_f rfl (by rw [beq_eq_false_iff_ne]; omega) ?_
    apply ct_skip
    iterate 2 (apply ct_seq)
    apply ct_region
    iterate 2 (apply seq_plain; exact do_move rfl; exact rfl)
    apply seq_plain; exact do_subN rfl rfl (by omega) (by omega); exact rfl
    apply seq_plain; exact do_binInt rfl rfl rfl trivial; exact rfl
    apply seq_nil
    refine ct_cond_f rfl (by rw [beq_eq_false_iff_ne]; omega) ?_
    apply ct_skip
    apply ct_seq
    apply ct_region
    iterate 2 (apply seq_plain; exact do_move rfl; exact rfl)
    apply seq_plain; exact do_addN rfl rfl (by omega); exact rfl
    apply seq_plain; exact do_toU rfl (by omega) rfl rfl; exact rfl
    apply seq_plain; exact do_half rfl; exact rfl
    apply seq_plain; exact do_ofU rfl (by omega) rfl rfl; exact rfl
    apply seq_plain; exact do_assign rfl; exact rfl
    apply seq_nil
    apply ct_seq
    apply ct_region
    iterate 2 (apply seq_plain; exact do_move rfl; exact rfl)
    apply seq_plain; exact do_addN rfl rfl (by omega); exact rfl
    apply seq_plain; exact do_assign rfl; exact rfl
    apply seq_nil
    apply ct_seq
    apply ct_region
    iterate 2 (apply seq_plain; exact do_assign rfl; exact rfl)
    apply seq_nil
    iterate 2 (apply ct_seq)
    apply ct_region
    iterate 2 (apply seq_plain; exact do_move rfl; exact rfl)
    apply seq_plain; exact do_binInt rfl rfl rfl trivial; exact rfl
    apply seq_nil
    obtain ⟨mid, hmid⟩ : ∃ mid, mid = (a + e) / 2 := ⟨_, rfl⟩
    rw [← hmid]
    have hm1 : 2 * mid ≤ a + e := by omega
    have hm2 : a + e ≤ 2 * mid + 1 := by omega
    clear hmid
    refine ct_JXE (α := Nat × Nat) (ds := []) (fun x => [(0, .slice (some ⟨b, 0, none⟩) N c), (1, I a), (2, I m), (3, I e), (4, .func (.func g) #[] ⟨caps⟩), (18, I mid), (19, I ((mid + m : Nat) : Int)), (20, I x.1), (21, I x.2)]) (fun _ => ext H H.fresh []) (fun x => SmS a m e mid x.1 x.2) ?_ (fun x hx0 => ?_)
    · refine ct_cond rfl (fun u => ?_) (fun u => ?_)
      · have u : mid < m := by
          have u := of_decide_eq_true u
          omega
        apply ct_seq
        apply ct_region
        iterate 2 (apply seq_plain; exact do_move rfl; exact rfl)
        apply seq_plain; exact do_subN rfl rfl (by omega) (by omega); exact rfl
        apply seq_plain; exact do_assign rfl; exact rfl
        apply seq_nil
        apply ct_region
        apply seq_plain; exact do_move rfl; exact rfl
        apply seq_plain; exact do_assign rfl; exact rfl
        apply seq_nil
        exact jx_of (mid + m - e, mid) ⟨by omega, by omega, by omega, by omega, by omega, .inr (by omega), .inr rfl⟩ (by repeat (first | exact sub_nil | apply sub_cons rfl)) rfl
      · have u : m ≤ mid := by
          have u := of_decide_eq_false u
          omega
        apply ct_seq
        apply ct_region
        apply seq_plain; exact do_move rfl; exact rfl
        apply seq_plain; exact do_assign rfl; exact rfl
        apply seq_nil
        apply ct_region
        apply seq_plain; exact do_move rfl; exact rfl
        apply seq_plain; exact do_assign rfl; exact rfl
        apply seq_nil
        exact jx_of (a, m) ⟨by omega, by omega, by omega, by omega, by omega, .inl rfl, .inl rfl⟩ (by repeat (first | exact sub_nil | apply sub_cons rfl)) rfl
    obtain ⟨s0, r0⟩ := x
    obtain ⟨q1, q2, q3, q4, q5, q6, q7⟩ := hx0
    simp only at q1 q2 q3 q4 q5 q6 q7 ⊢
    apply ct_seq
    apply ct_region
    apply seq_plain; exact do_move rfl; exact rfl
    apply seq_plain; exact do_predN rfl rfl (by omega) (by omega); exact rfl
    apply seq_plain; exact do_assign rfl; exact rfl
    apply seq_nil
    apply ct_seq
    apply ct_block
    apply ct_loop
    refine lt_meas (α := Nat × Nat) (fun x => [(0, .slice (some ⟨b, 0, none⟩) N c), (1, I a), (2, I m), (3, I e), (4, .func (.func g) #[] ⟨caps⟩), (18, I mid), (19, I ((mid + m : Nat) : Int)), (20, I x.1), (21, I x.2), (22, I ((mid + m - 1 : Nat) : Int))]) (fun _ => ext H H.fresh []) (fun x => (s0 ≤ x.1 ∧ x.1 ≤ x.2 ∧ x.2 ≤ r0) ∧ (x.1 = s0 ∨ ltC cm (tI T (mid + m - 1 - (x.1 - 1))) (tI T (x.1 - 1)) = false) ∧ (x.2 = r0 ∨ ltC cm (tI T (mid + m - 1 - x.2)) (tI T x.2) = true)) (fun x => x.2 - x.1) (fun x hx0 ihL => ?_) (s0, r0) ⟨⟨Nat.le_refl _, q2, Nat.le_refl _⟩, .inl rfl, .inl rfl⟩ (by repeat (first | exact sub_nil | apply sub_cons rfl)) (.refl _)
    obtain ⟨i, j⟩ := x
    obtain ⟨⟨p1, p2, p3⟩, p4, p5⟩ := hx0
    simp only at p1 p2 p3 p4 p5 ihL ⊢
    have ih' := fun i' j' a1 a2 a3 a4 => ihL (i', j') a1 ⟨a2, a3, a4⟩
    simp only at ih'
    clear ihL
    iterate 2 (apply ct_seq)
    apply ct_region
    iterate 2 (apply seq_plain; exact do_move rfl; exact rfl)
    apply seq_plain; exact do_binInt rfl rfl rfl trivial; exact rfl
    apply seq_nil
    refine ct_cond rfl (fun u => ?_) (fun u => ?_)
    · have u : i < j := by
        have u := of_decide_eq_true u
        omega
      obtain ⟨kk, hk2⟩ : ∃ kk, (i + j) / 2 = kk := ⟨_, rfl⟩
      have k1 : i ≤ kk := by omega
      have k2 : kk < j := by omega
      have hq1 : mid + m - 1 - (i + j) / 2 < T.length := by omega
      have hq2 : (i + j) / 2 < T.length := by omega
      rw [← hTl]
      apply ct_skip
      apply ct_block
      apply ct_seq
      apply ct_region
      iterate 2 (apply seq_plain; exact do_move rfl; exact rfl)
      apply seq_plain; exact do_addN rfl rfl (by omega); exact rfl
      apply seq_plain; exact do_toU rfl (by omega) rfl rfl; exact rfl
      apply seq_plain; exact do_half rfl; exact rfl
      apply seq_plain; exact do_ofU rfl (by omega) rfl rfl; exact rfl
      apply seq_plain; exact do_assign rfl; exact rfl
      apply seq_nil
      apply ct_seq
      apply ct_draw (by assumption); decide +kernel
      iterate 4 (apply sd_plain (hfree := rfl); intro _; exact do_move rfl; exact rfl)
      apply sd_plain (hfree := rfl); intro _; exact do_subN rfl rfl (by omega) (by omega); exact rfl
      apply sd_plain (hfree := rfl); intro _; exact do_indexAddrS rfl rfl rfl (by exact idx_nat (by omega)); exact rfl
      apply sd_look (hfree := rfl); exact do_load rfl (by exact ext_get_old (by assumption) (by assumption)) rfl (by exact pt_map (by omega)); exact rfl
      iterate 2 (apply sd_plain (hfree := rfl); intro _; exact do_move rfl; exact rfl)
      apply sd_plain (hfree := rfl); intro _; exact do_indexAddrS rfl rfl rfl (by exact idx_nat (by omega)); exact rfl
      apply sd_look (hfree := rfl); exact do_load rfl (by exact ext_get_old (by assumption) (by assumption)) rfl (by exact pt_map (by omega)); exact rfl
      apply sd_call (ht := rfl); exact hcm T[mid + m - 1 - (i + j) / 2] (List.getElem_mem _) T[(i + j) / 2] (List.getElem_mem _) _ (fun c v hne hv => ext_get_old hc hv); exact rfl
      apply sd_plain (hfree := rfl); intro _; exact do_binInt rfl rfl rfl trivial; exact rfl
      apply sd_plain (hfree := rfl); intro _; exact do_unOp rfl rfl; exact rfl
      apply sd_nil
      rw [hTl]
      have e1 := tI_at hq1
      have e2 := tI_at hq2
      refine ct_cond rfl (fun v => ?_) (fun v => ?_)
      · have v : ltC cm (tI T (mid + m - 1 - (i + j) / 2)) (tI T ((i + j) / 2)) = false := by rw [← e1, ← e2]; simpa using v
        rw [hk2] at v
        apply ct_region
        apply seq_plain; exact do_move rfl; exact rfl
        apply seq_plain; exact do_succ rfl (by omega); exact rfl
        apply seq_plain; exact do_assign rfl; exact rfl
        apply seq_nil
        refine lt_sub (by simp only [hk2]; (repeat (first | exact sub_nil | apply sub_cons rfl))) (ih' (kk + 1) j (by omega) ⟨by omega, by omega, p3⟩ (.inr ?_) p5)
        rw [Nat.add_sub_cancel]; exact v
      · have v : ltC cm (tI T (mid + m - 1 - (i + j) / 2)) (tI T ((i + j) / 2)) = true := by rw [← e1, ← e2]; simpa using v
        rw [hk2] at v
        apply ct_region
        apply seq_plain; exact do_move rfl; exact rfl
        apply seq_plain; exact do_assign rfl; exact rfl
        apply seq_nil
        exact lt_sub (by simp only [hk2]; (repeat (first | exact sub_nil | apply sub_cons rfl))) (ih' i kk (by omega) ⟨by omega, by omega, by omega⟩ p4 (.inr v))
    have u : i = j := by
      have u := of_decide_eq_false u
      omega
    subst u
    clear ih'
    obtain ⟨en, hen⟩ : ∃ en, en = mid + m - i := ⟨_, rfl⟩
    obtain ⟨A1, hA1⟩ : ∃ A1, A1 = S1.take (i - a) := ⟨_, rfl⟩
    obtain ⟨A2, hA2⟩ : ∃ A2, A2 = S1.drop (i - a) := ⟨_, rfl⟩
    obtain ⟨B1, hB1⟩ : ∃ B1, B1 = S2.take (en - m) := ⟨_, rfl⟩
    obtain ⟨B2, hB2⟩ : ∃ B2, B2 = S2.drop (en - m) := ⟨_, rfl⟩
    have a1 : A1.length = i - a := by rw [hA1, List.length_take]; omega
    have a2 : A2.length = m - i := by rw [hA2, List.length_drop]; omega
    have b1 : B1.length = en - m := by rw [hB1, List.length_take]; omega
    have b2 : B2.length = e - en := by rw [hB2, List.length_drop]; omega
    have eA : S1 = A1 ++ A2 := by rw [hA1, hA2]; exact (List.take_append_drop ..).symm
    have eB : S2 = B1 ++ B2 := by rw [hB1, hB2]; exact (List.take_append_drop ..).symm
    have cut1 : ∀ (g : 0 < A1.length) (h : 0 < B2.length), ltC cm B2[0] (A1[A1.length - 1]) = false := fun g1 g2 => by
      have x1 := gA (i - a - 1) (by omega)
      have x2 := gB (en - m) (by omega)
      have x3 : A1[A1.length - 1] = S1[i - a - 1] := by
        simp only [hA1, List.getElem_take]
        congr 1
        rw [List.length_take]; omega
      have x4 : B2[0] = S2[en - m] := by simp only [hB2, List.getElem_drop, Nat.add_zero]
      rw [x3, x4, ← x1, ← x2]
      rcases p4 with p4 | p4
      · exfalso; omega
      · have y1 : mid + m - 1 - (i - 1) = m + (en - m) := by omega
        have y2 : i - 1 = a + (i - a - 1) := by omega
        rw [y1, y2] at p4
        exact p4
    have cut2 : ∀ (g : 0 < A2.length) (h : 0 < B1.length), ltC cm (B1[B1.length - 1]) A2[0] = true := fun g1 g2 => by
      have x1 := gA (i - a) (by omega)
      have x2 := gB (en - m - 1) (by omega)
      have x3 : B1[B1.length - 1] = S2[en - m - 1] := by
        simp only [hB1, List.getElem_take]
        congr 1
        rw [List.length_take]; omega
      have x4 : A2[0] = S1[i - a] := by simp only [hA2, List.getElem_drop, Nat.add_zero]
      rw [x3, x4, ← x1, ← x2]
      rcases p5 with p5 | p5
      · exfalso; omega
      · have y1 : mid + m - 1 - i = m + (en - m - 1) := by omega
        have y2 : i = a + (i - a) := by omega
        rw [y1] at p5
        rw [← y2]
        exact p5
    have sA1 : StW (ltC cm) A1 := by rw [hA1]; exact List.Pairwise.sublist (List.take_sublist ..) hs1
    have sA2 : StW (ltC cm) A2 := by rw [hA2]; exact List.Pairwise.sublist (List.drop_sublist ..) hs1
    have sB1 : StW (ltC cm) B1 := by rw [hB1]; exact List.Pairwise.sublist (List.take_sublist ..) hs2
    have sB2 : StW (ltC cm) B2 := by rw [hB2]; exact List.Pairwise.sublist (List.drop_sublist ..) hs2
    have es : srtW (ltC cm) (S1 ++ S2) = srtW (ltC cm) (A1 ++ B1) ++ srtW (ltC cm) (A2 ++ B2) := by
      have := srt_cut w (A1 := A1) (A2 := A2) (B1 := B1) (B2 := B2) (by rw [← eA]; exact hs1) (by rw [← eB]; exact hs2) (by rw [← eA, ← eB]; exact hx) cut1 cut2
      rw [← this, eA, eB]
    rw [es]
    obtain ⟨R1, hR1⟩ : ∃ R1, R1 = srtW (ltC cm) (A1 ++ B1) := ⟨_, rfl⟩
    have r1 : R1.length = mid - a := by rw [hR1, srtW_len, List.length_append]; omega
    have rm : ∀ y, y ∈ R1 → y ∈ A1 ∨ y ∈ B1 := fun y hy => by
      rw [hR1] at hy
      exact List.mem_append.1 ((srtW_perm _).mem_iff.1 hy)
    have hx11 : ∀ x ∈ A1, ∀ y ∈ B1, x < y := fun x h y h' => hx x (by rw [eA]; exact List.mem_append_left _ h) y (by rw [eB]; exact List.mem_append_left _ h')
    have hx22 : ∀ x ∈ A2, ∀ y ∈ B2, x < y := fun x h y h' => hx x (by rw [eA]; exact List.mem_append_right _ h) y (by rw [eB]; exact List.mem_append_right _ h')
    rw [eA, eB] at hTe
    clear es cut1 cut2 p4 p5 gA gB hx hs1 hs2 hA1 hA2 hB1 hB2
    rw [← hR1]
    have hg4 : H.get b = some (inZ ((P ++ A1) ++ A2 ++ B1 ++ (B2 ++ Q)) z s) := by rw [hgT, hTe]; simp only [List.append_assoc]
    apply ct_exit
    apply exit_eq; exact rfl
    apply ct_seq
    apply ct_region
    iterate 2 (apply seq_plain; exact do_move rfl; exact rfl)
    apply seq_plain; exact do_subN rfl rfl (by omega) (by omega); exact rfl
    apply seq_plain; exact do_assign rfl; exact rfl
    apply seq_nil
    iterate 2 (apply ct_seq)
    apply ct_region
    iterate 2 (apply seq_plain; exact do_move rfl; exact rfl)
    apply seq_plain; exact do_binInt rfl rfl rfl trivial; exact rfl
    apply seq_plain; exact do_move rfl; exact rfl
    rw [← hen]
    have ei : i ≤ m := by omega
    refine seq_J [(0, .slice (some ⟨b, 0, none⟩) N c), (1, I a), (2, I m), (3, I e), (4, .func (.func g) #[] ⟨caps⟩), (18, I mid), (20, I i), (24, I en), (185, .bool (decide (i < m ∧ m < en)))] (ds := []) (h := ext H H.fresh []) ?_ ?_
    · refine seq_gsplit rfl rfl (fun v => ?_) (fun v => ?_)
      · have v : i < m := by
          have v := of_decide_eq_true v
          omega
        have e5 : decide (i < m ∧ m < en) = decide ((m : Int) < en) := by
          have : (i < m ∧ m < en) ↔ ((m : Int) < en) := by omega
          exact decide_eq_decide.2 this
        rw [e5]
        iterate 2 (apply seq_guard (hd := rfl) (hl := rfl); exact do_move rfl; exact rfl)
        apply seq_guard (hd := rfl) (hl := rfl); exact do_binInt rfl rfl rfl trivial; exact rfl
        apply seq_plain; exact do_pick_t rfl rfl; exact rfl
        apply seq_nil
        exact jp_of (by repeat (first | exact sub_nil | apply sub_cons rfl))
      · have v : ¬ i < m := by
          have v := of_decide_eq_false v
          omega
        have e5 : decide (i < m ∧ m < en) = false := decide_eq_false (fun h => v h.1)
        rw [e5]
        iterate 3 (apply seq_passed (hd := rfl) (hl := rfl) (hb := rfl); exact rfl)
        apply seq_plain; exact do_pick_f rfl rfl; exact rfl
        apply seq_nil
        exact jp_of (by repeat (first | exact sub_nil | apply sub_cons rfl))
    refine ct_JXE (α := AHeap × Nat) (ds := []) (fun _ => [(0, .slice (some ⟨b, 0, none⟩) N c), (1, I a), (3, I e), (4, .func (.func g) #[] ⟨caps⟩), (18, I mid), (20, I i), (24, I en)]) (fun x => ext x.1 x.2 []) (fun x => Cg H x.1 b (inZ (P ++ A1 ++ B1 ++ A2 ++ B2 ++ Q) z s)) ?_ (fun x c1 => ?_)
    · refine ct_cond rfl (fun v => ?_) (fun v => ?_)
      · have v := of_decide_eq_true v
        have cR := rotate_c (H := ext H H.fresh []) (c := c) (g := g) (caps := caps) (a := i) (m := m) (e := en) hb (by rw [ext_fresh]; exact Nat.lt_of_lt_of_le hlt (nb_ge _)) (ext_get_old hc hg4) (by rw [← hTl, hTe]; simp only [List.length_append]; omega) hT (fun e => by rw [e] at a2; simp at a2; omega) (fun e => by rw [e] at b1; simp at b1; omega) (by rw [List.length_append]; omega) (by omega) (by omega)
        apply ct_region
        iterate 5 (apply seq_plain; exact do_move rfl; exact rfl)
        refine seq_call rfl cR rfl ?_
        apply seq_nil
        have c1 := (Cg.refl hc hg4).put (z := z) (s := s) (ro := false) hb hlt (in_flat (P ++ A1 ++ B1 ++ A2 ++ (B2 ++ Q)))
        exact jx_hq (H.put b (inZ (P ++ A1 ++ B1 ++ A2 ++ (B2 ++ Q)) z s), min H.fresh b) (by simpa only [List.append_assoc] using c1) (by repeat (first | exact sub_nil | apply sub_cons rfl)) (ext_put_old hb hlt hc _)
      · have v := of_decide_eq_false v
        apply ct_skip
        refine jx_of (H, H.fresh) ?_ (by repeat (first | exact sub_nil | apply sub_cons rfl)) rfl
        refine Cg.refl hc ?_
        rw [hg4]
        have : A2 = [] ∨ B1 = [] := by
          by_cases e6 : A2 = []
          · exact .inl e6
          · right
            have := List.length_pos_iff.2 e6
            exact List.length_eq_zero_iff.1 (by omega)
        rcases this with e6 | e6 <;> rw [e6] <;> simp
    obtain ⟨H1, lo1⟩ := x
    simp only at c1 ⊢
    have hcm1 : CmpOk g caps cm b T H1 := hcm.to (fun _ h => h) (fun c' v hne hv => by rw [c1.off c' hne]; exact hv)
    clear hcm hgT hg hg4
    have hc1 := c1.puts.closed
    have hg1 := c1.at_
    have hf1 : b < H1.fresh := by rw [c1.puts.fresh]; exact hlt
    have tm : ∀ y, (y ∈ P ∨ y ∈ A1 ∨ y ∈ B1 ∨ y ∈ A2 ∨ y ∈ B2 ∨ y ∈ Q) → y ∈ T := fun y h => by rw [hTe]; exact cat_in h
    have hTn : P.length + A1.length + A2.length + B1.length + B2.length + Q.length = N := by omega
    clear hTe
    iterate 2 (apply ct_seq)
    apply ct_region
    iterate 2 (apply seq_plain; exact do_move rfl; exact rfl)
    apply seq_plain; exact do_binInt rfl rfl rfl trivial; exact rfl
    apply seq_plain; exact do_move rfl; exact rfl
    refine seq_J [(0, .slice (some ⟨b, 0, none⟩) N c), (1, I a), (3, I e), (4, .func (.func g) #[] ⟨caps⟩), (18, I mid), (20, I i), (24, I en), (199, .bool (decide (a < i ∧ i < mid)))] (ds := []) (h := ext H1 lo1 []) ?_ ?_
    · refine seq_gsplit rfl rfl (fun v => ?_) (fun v => ?_)
      · have v : a < i := by
          have v := of_decide_eq_true v
          omega
        have e5 : decide (a < i ∧ i < mid) = decide ((i : Int) < mid) := by
          have : (a < i ∧ i < mid) ↔ ((i : Int) < mid) := by omega
          exact decide_eq_decide.2 this
        rw [e5]
        iterate 2 (apply seq_guard (hd := rfl) (hl := rfl); exact do_move rfl; exact rfl)
        apply seq_guard (hd := rfl) (hl := rfl); exact do_binInt rfl rfl rfl trivial; exact rfl
        apply seq_plain; exact do_pick_t rfl rfl; exact rfl
        apply seq_nil
        exact jp_of (by repeat (first | exact sub_nil | apply sub_cons rfl))
      · have v : ¬ a < i := by
          have v := of_decide_eq_false v
          omega
        have e5 : decide (a < i ∧ i < mid) = false := decide_eq_false (fun h => v h.1)
        rw [e5]
        iterate 3 (apply seq_passed (hd := rfl) (hl := rfl) (hb := rfl); exact rfl)
        apply seq_plain; exact do_pick_f rfl rfl; exact rfl
        apply seq_nil
        exact jp_of (by repeat (first | exact sub_nil | apply sub_cons rfl))
    refine ct_JXE (α := AHeap × Nat) (ds := []) (fun _ => [(0, .slice (some ⟨b, 0, none⟩) N c), (3, I e), (4, .func (.func g) #[] ⟨caps⟩), (18, I mid), (24, I en)]) (fun x => ext x.1 x.2 []) (fun x => Cg H x.1 b (inZ (P ++ R1 ++ A2 ++ B2 ++ Q) z s)) ?_ (fun x c2 => ?_)
    · refine ct_cond rfl (fun v => ?_) (fun v => ?_)
      · have v := of_decide_eq_true v
        have cM := ih (H := ext H1 lo1 []) (P := P) (S1 := A1) (S2 := B1) (Q := A2 ++ B2 ++ Q) (a := a) (m := i) (e := mid) (by omega) (by rw [ext_fresh]; exact Nat.lt_of_lt_of_le hf1 (nb_ge _)) (ext_get_old hc1 (by rw [hg1]; simp only [List.append_assoc])) (by simp only [List.length_append]; omega) (fun e => by rw [e] at a1; simp at a1; omega) (fun e => by rw [e] at b1; simp at b1; omega) ha (by omega) (by omega) sA1 sB1 hx11 (hcm1.to (fun y hy => tm y (cat_out hy)) (fun c' v _ hv => ext_get_old hc1 hv))
        rw [← hR1] at cM
        apply ct_region
        iterate 5 (apply seq_plain; exact do_move rfl; exact rfl)
        refine seq_call rfl cM rfl ?_
        apply seq_nil
        have c2 := c1.put (z := z) (s := s) (ro := false) hb hlt (in_flat (P ++ R1 ++ (A2 ++ B2 ++ Q)))
        exact jx_hq (H1.put b (inZ (P ++ R1 ++ (A2 ++ B2 ++ Q)) z s), min lo1 b) (by simpa only [List.append_assoc] using c2) (by repeat (first | exact sub_nil | apply sub_cons rfl)) (ext_put_old hb hf1 hc1 _)
      · have v := of_decide_eq_false v
        apply ct_skip
        refine jx_of (H1, lo1) ?_ (by repeat (first | exact sub_nil | apply sub_cons rfl)) rfl
        have e7 : R1 = A1 ++ B1 := by
          rw [hR1]
          refine srt_none _ w sA1 sB1 ?_
          by_cases e6 : A1 = []
          · exact .inl e6
          · right
            have := List.length_pos_iff.2 e6
            exact List.length_eq_zero_iff.1 (by omega)
        show Cg H H1 b _
        rw [e7]
        simpa only [List.append_assoc] using c1
    obtain ⟨H2, lo2⟩ := x
    simp only at c2 ⊢
    have hcm2 : CmpOk g caps cm b T H2 := hcm1.to (fun _ h => h) (fun c' v hne hv => by rw [c2.off c' hne]; rw [c1.off c' hne] at hv; exact hv)
    clear hcm1 c1 hc1 hg1 hf1 H1 lo1
    have hc2 := c2.puts.closed
    have hg2 := c2.at_
    have hf2 : b < H2.fresh := by rw [c2.puts.fresh]; exact hlt
    apply ct_seq
    apply ct_region
    iterate 2 (apply seq_plain; exact do_move rfl; exact rfl)
    apply seq_plain; exact do_binInt rfl rfl rfl trivial; exact rfl
    apply seq_plain; exact do_move rfl; exact rfl
    refine seq_J [(0, .slice (some ⟨b, 0, none⟩) N c), (3, I e), (4, .func (.func g) #[] ⟨caps⟩), (18, I mid), (24, I en), (213, .bool (decide (mid < en ∧ en < e)))] (ds := []) (h := ext H2 lo2 []) ?_ ?_
    · refine seq_gsplit rfl rfl (fun v => ?_) (fun v => ?_)
      · have v : mid < en := by
          have v := of_decide_eq_true v
          omega
        have e5 : decide (mid < en ∧ en < e) = decide ((en : Int) < e) := by
          have : (mid < en ∧ en < e) ↔ ((en : Int) < e) := by omega
          exact decide_eq_decide.2 this
        rw [e5]
        iterate 2 (apply seq_guard (hd := rfl) (hl := rfl); exact do_move rfl; exact rfl)
        apply seq_guard (hd := rfl) (hl := rfl); exact do_binInt rfl rfl rfl trivial; exact rfl
        apply seq_plain; exact do_pick_t rfl rfl; exact rfl
        apply seq_nil
        exact jp_of (by repeat (first | exact sub_nil | apply sub_cons rfl))
      · have v : ¬ mid < en := by
          have v := of_decide_eq_false v
          omega
        have e5 : decide (mid < en ∧ en < e) = false := decide_eq_false (fun h => v h.1)
        rw [e5]
        iterate 3 (apply seq_passed (hd := rfl) (hl := rfl) (hb := rfl); exact rfl)
        apply seq_plain; exact do_pick_f rfl rfl; exact rfl
        apply seq_nil
        exact jp_of (by repeat (first | exact sub_nil | apply sub_cons rfl))
    refine ct_cond rfl (fun v => ?_) (fun v => ?_)
    · have v := of_decide_eq_true v
      have cM := ih (H := ext H2 lo2 []) (P := P ++ R1) (S1 := A2) (S2 := B2) (Q := Q) (a := mid) (m := en) (e := e) (by omega) (by rw [ext_fresh]; exact Nat.lt_of_lt_of_le hf2 (nb_ge _)) (ext_get_old hc2 hg2) (by simp only [List.length_append]; omega) (fun e => by rw [e] at a2; simp at a2; omega) (fun e => by rw [e] at b2; simp at b2; omega) (by rw [List.length_append]; omega) (by omega) (by omega) sA2 sB2 hx22 (hcm2.to (fun y hy => tm y (cat_out2 rm hy)) (fun c' v _ hv => ext_get_old hc2 hv))
      apply ct_region
      iterate 5 (apply seq_plain; exact do_move rfl; exact rfl)
      refine seq_call rfl cM rfl ?_
      apply seq_nil
      rw [show P ++ (R1 ++ srtW (ltC cm) (A2 ++ B2)) ++ Q = P ++ R1 ++ srtW (ltC cm) (A2 ++ B2) ++ Q by simp only [List.append_assoc]]
      exact fin_cgQ hb hlt ⟨_, _, _, _, rfl, in_flat _⟩ c2 rfl rfl ⟨rfl, rfl⟩
    · have v := of_decide_eq_false v
      have e7 : srtW (ltC cm) (A2 ++ B2) = A2 ++ B2 := by
        refine srt_none _ w sA2 sB2 ?_
        by_cases e6 : A2 = []
        · exact .inl e6
        · right
          have := List.length_pos_iff.2 e6
          exact List.length_eq_zero_iff.1 (by omega)
      rw [e7, show P ++ (R1 ++ (A2 ++ B2)) ++ Q = P ++ R1 ++ A2 ++ B2 ++ Q by simp only [List.append_assoc]]
      apply ct_skip
      exact fin_cg hb hlt ⟨_, _, _, _, rfl, in_flat _⟩ c2 rfl rfl ⟨rfl, rfl⟩
end Go.Proofs.YtflbffhahoblfaaGreatDoor
