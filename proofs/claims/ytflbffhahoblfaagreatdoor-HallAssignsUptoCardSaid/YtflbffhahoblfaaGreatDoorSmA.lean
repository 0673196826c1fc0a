/- Contracts: ranges are swapped, neighbours change places (for a stable sort of numbers). -/
import Derived.Test.YtflbffhahoblfaaGreatDoorSmL
noncomputable section
namespace Go.Den
theorem fin_cgQ {P : Program} {H H1 : AHeap} {b : Nat} {x y : ABlk} {Q : Value → AHeap → Prop} {rs : Array ResultVar} {l : EL} {L : List (Option ABlk)} {lo : Nat} {vs : List Value} (hb : own b = true) (hlt : b < H.fresh) (hx : ∃ cs z s ro, x = .cells cs z s ro ∧ cs.all (flatD 8) = true) (hp : Cg H H1 b y)
    (hr : resE l rs.toList = some vs) (hv : flatD 8 (packA vs) = true) (hq : Q (packA vs) (H.put b x)) : Fin P rs H Q ⟨ofA l, [], (ext H1 lo L).put b x⟩ := by
  obtain ⟨cs, z, s, ro, rfl, hf⟩ := hx
  exact ⟨⟨_, vs, packA vs, _, rfl, resE_A hr, (tidy_cg (lo := min lo b) (L := L) hb hlt ⟨_, _, _, _, rfl, hf⟩ (hp.put hb hlt hf) hv).to (ext_put_old hb (by rw [hp.puts.fresh]; exact hlt) hp.puts.closed _), hq⟩⟩
theorem do_addN {P : Program} {l : EL} {h : AHeap} {t t' : TypeId} {x y : Operand} {a b : Nat} (hx : ev l x = some (.int .i64 (a : Int))) (hy : ev l y = some (.int .i64 (b : Int))) (hlt : a + b < 9223372036854775808) : Does P l (.binOp .add t x y t') h (.int .i64 ((a + b : Nat) : Int)) h := by
  have := do_add (P := P) (h := h) (t := t) (t' := t') hx hy (by omega)
  rwa [show (a : Int) + (b : Int) = ((a + b : Nat) : Int) by omega] at this
end Go.Den
namespace Go.Proofs.YtflbffhahoblfaaGreatDoor
open Go Go.Den
set_option maxRecDepth 100000
set_option maxHeartbeats 8000000 in
theorem swapRange_c {H : AHeap} {T : List Int} {a b' n b z c g N : Nat} {s : Bool} {caps : List Value} (hb : own b = true) (hlt : b < H.fresh) (hg : H.get b = some (inZ T z s)) (hN : T.length = N) (hab : a + n ≤ b') (hbn : b' + n ≤ N) (hT : N ≤ 1000000) :
    Ret Tryz.prog 184 [.slice (some ⟨b, 0, none⟩) N c, I a, I b', I n, .func (.func g) #[] ⟨caps⟩] H (packA []) (H.put b (inZ (swR T a b' n) z s)) := by
  refine fn_start Tryz.func184 rfl rfl rfl fun hc => ?_
  apply ct_seq
  apply ct_region
  apply seq_plain; exact do_assign rfl; exact rfl
  apply seq_nil
  apply ct_block
  apply ct_loop
  refine lt_meas (α := Nat × List Int × AHeap × Nat) (fun x => [(0, .slice (some ⟨b, 0, none⟩) N c), (1, I a), (2, I b'), (3, I n), (10, I x.1)]) (fun x => ext x.2.2.1 x.2.2.2 []) (fun x => x.1 ≤ n ∧ x.2.1 = swR T a b' x.1 ∧ Cg H x.2.2.1 b (inZ x.2.1 z s)) (fun x => n - x.1) (fun x hx ih => ?_) (0, T, H, H.fresh) ⟨Nat.zero_le _, rfl, Cg.refl hc hg⟩ (by repeat (first | exact sub_nil | apply sub_cons rfl)) (.refl _)
  obtain ⟨i, T1, H1, lo1⟩ := x
  obtain ⟨hi, hT1, c1⟩ := hx
  simp only at hi hT1 c1 ih ⊢
  have ih' := fun i' T' H' lo' a1 a2 a3 a4 => ih (i', T', H', lo') a1 ⟨a2, a3, a4⟩
  simp only at ih'
  clear ih
  have hl1 : T1.length = N := by rw [hT1, swR_len, hN]
  have hc1 := c1.puts.closed
  have hg1 := c1.at_
  have hf1 : b < H1.fresh := by rw [c1.puts.fresh]; exact hlt
  iterate 2 (apply ct_seq)
  apply ct_region
  iterate 2 (apply seq_plain; exact do_move rfl; exact rfl)
  apply seq_plain; exact do_binInt rfl rfl rfl trivial; exact rfl
  apply seq_nil
  refine ct_cond rfl (fun h1 => ?_) (fun h1 => ?_)
  · simp only [decide_eq_true_eq, Int.ofNat_lt] at h1
    have k1 : a + i < T1.length := by omega
    have k2 : b' + i < T1.length := by omega
    rw [← hl1]
    apply ct_skip
    apply ct_seq
    apply ct_block
    apply ct_draw (by assumption); decide +kernel
    iterate 3 (apply sd_plain (hfree := rfl); intro _; exact do_move rfl; exact rfl)
    apply sd_plain (hfree := rfl); intro _; exact do_addN rfl rfl (by omega); exact rfl
    iterate 3 (apply sd_plain (hfree := rfl); intro _; exact do_move rfl; exact rfl)
    apply sd_plain (hfree := rfl); intro _; exact do_addN rfl rfl (by omega); exact rfl
    iterate 3 (apply sd_plain (hfree := rfl); intro _; exact do_move rfl; exact rfl)
    apply sd_plain (hfree := rfl); intro _; exact do_addN rfl rfl (by omega); exact rfl
    apply sd_plain (hfree := rfl); intro _; exact do_indexAddrS rfl rfl rfl (by exact idx_nat (by omega)); exact rfl
    apply sd_look (hfree := rfl); exact do_load rfl (by exact ext_get_old (by assumption) (by assumption)) rfl (by exact pt_map (by omega)); exact rfl
    iterate 3 (apply sd_plain (hfree := rfl); intro _; exact do_move rfl; exact rfl)
    apply sd_plain (hfree := rfl); intro _; exact do_addN rfl rfl (by omega); exact rfl
    apply sd_plain (hfree := rfl); intro _; exact do_indexAddrS rfl rfl rfl (by exact idx_nat (by omega)); exact rfl
    apply sd_look (hfree := rfl); exact do_load rfl (by exact ext_get_old (by assumption) (by assumption)) rfl (by exact pt_map (by omega)); exact rfl
    apply sd_plain (hfree := rfl); intro _; exact do_indexAddrS rfl rfl rfl (by exact idx_nat (by omega)); exact rfl
    refine sd_putO0 (b := b) (x := inZ (T1.set (a + i) T1[b' + i]) z s) rfl (by decide +kernel) hc1 hb hf1 (do_store rfl rfl (ext_get_old hc1 hg1) rfl (stl_map (g := I) (v := T1[b' + i]) k1 rfl rfl) hb) ?_
    have c3 := c1.put (z := z) (s := s) (ro := false) hb hlt (in_flat (T1.set (a + i) T1[b' + i]))
    have hc3 := c3.puts.closed
    have hf3 : b < (H1.put b (inZ (T1.set (a + i) T1[b' + i]) z s)).fresh := by rw [c3.puts.fresh]; exact hlt
    apply sd_plain (hfree := rfl); intro _; exact do_indexAddrS rfl rfl rfl (by exact idx_nat (by omega)); exact rfl
    refine sd_putO0 (b := b) (x := inZ ((T1.set (a + i) T1[b' + i]).set (b' + i) T1[a + i]) z s) rfl (by decide +kernel) hc3 hb hf3 (do_store rfl rfl (ext_get_old hc3 c3.at_) rfl (stl_map (g := I) (v := T1[a + i]) (by simpa using k2) rfl rfl) hb) ?_
    have c4 := c3.put (z := z) (s := s) (ro := false) hb hlt (in_flat ((T1.set (a + i) T1[b' + i]).set (b' + i) T1[a + i]))
    rw [← swapA_eq k1 k2] at c4 ⊢
    apply sd_nil
    apply ct_region
    apply seq_plain; exact do_move rfl; exact rfl
    apply seq_plain; exact do_succ rfl (by omega); exact rfl
    apply seq_plain; exact do_assign rfl; exact rfl
    apply seq_nil
    rw [hl1]
    refine lt_to (by repeat (first | exact sub_nil | apply sub_cons rfl)) (.refl _) (ih' (i + 1) (swapA T1 (a + i) (b' + i)) _ _ (by omega) (by omega) ?_ c4)
    rw [hT1]; rfl
  · have h1 : i = n := by simp at h1; omega
    subst h1
    apply ct_exit
    apply exit_eq; exact rfl
    refine fin_cg hb hlt ⟨_, _, _, _, rfl, in_flat _⟩ c1 rfl rfl ?_
    rw [hT1]; exact ⟨rfl, rfl⟩
set_option maxHeartbeats 8000000 in
theorem rotate_c {H : AHeap} {P X Y Q : List Int} {a m e b z c g N : Nat} {s : Bool} {caps : List Value} (hb : own b = true) (hlt : b < H.fresh) (hg : H.get b = some (inZ (P ++ X ++ Y ++ Q) z s)) (hN : (P ++ X ++ Y ++ Q).length = N) (hT : N ≤ 1000000) (hX : X ≠ []) (hY : Y ≠ []) (ha : P.length = a) (hm : a + X.length = m) (he : m + Y.length = e) :
    Ret Tryz.prog 154 [.slice (some ⟨b, 0, none⟩) N c, I a, I m, I e, .func (.func g) #[] ⟨caps⟩] H (packA []) (H.put b (inZ (P ++ Y ++ X ++ Q) z s)) := by
  refine fn_start Tryz.func154 rfl rfl rfl fun hc => ?_
  have hNl : P.length + X.length + Y.length + Q.length = N := by rw [← hN]; simp only [List.length_append]
  have e1 : m - a = X.length := by omega
  have e2 : e - m = Y.length := by omega
  have e3 : (m : Int) - a = X.length := by omega
  have e4 : (e : Int) - m = Y.length := by omega
  apply ct_seq
  apply ct_region
  iterate 2 (apply seq_plain; exact do_move rfl; exact rfl)
  apply seq_plain; exact do_subN rfl rfl (by omega) (by omega); exact rfl
  apply seq_plain; exact do_assign rfl; exact rfl
  apply seq_nil
  apply ct_seq
  apply ct_region
  iterate 2 (apply seq_plain; exact do_move rfl; exact rfl)
  apply seq_plain; exact do_subN rfl rfl (by omega) (by omega); exact rfl
  apply seq_plain; exact do_assign rfl; exact rfl
  apply seq_nil
  apply ct_seq
  apply ct_block
  apply ct_loop
  refine lt_meas (α := List Int × List Int × List Int × List Int × AHeap × Nat) (fun x => [(0, .slice (some ⟨b, 0, none⟩) N c), (2, I m), (4, .func (.func g) #[] ⟨caps⟩), (10, I x.2.1.length), (11, I x.2.2.1.length)]) (fun x => ext x.2.2.2.2.1 x.2.2.2.2.2 [])
    (fun x => (x.2.1 ≠ [] ∧ x.2.2.1 ≠ []) ∧ x.1.length + x.2.1.length = m ∧ x.1 ++ x.2.2.1 ++ x.2.1 ++ x.2.2.2.1 = P ++ Y ++ X ++ Q ∧ x.1.length + x.2.1.length + x.2.2.1.length + x.2.2.2.1.length = N ∧ Cg H x.2.2.2.2.1 b (inZ (x.1 ++ x.2.1 ++ x.2.2.1 ++ x.2.2.2.1) z s)) (fun x => x.2.1.length + x.2.2.1.length) (fun x hx ih => ?_) (P, X, Y, Q, H, H.fresh) ⟨⟨hX, hY⟩, (by show P.length + X.length = m; omega), rfl, hNl, Cg.refl hc hg⟩ (by simp only [e1, e2, e3, e4]; (repeat (first | exact sub_nil | apply sub_cons rfl))) (.refl _)
  clear hg hN hNl ha hm he hX hY e1 e2 e3 e4
  obtain ⟨P', X', Y', Q', H1, lo1⟩ := x
  obtain ⟨⟨hX, hY⟩, hm, hR, hNl, c1⟩ := hx
  simp only at hX hY hm hR hNl c1 ih ⊢
  have ih' := fun P' X' Y' Q' H' lo' a1 a2 a3 a4 a5 a6 => ih (P', X', Y', Q', H', lo') a1 ⟨a2, a3, a4, a5, a6⟩
  simp only at ih'
  clear ih
  have hxl : 0 < X'.length := List.length_pos_iff.2 hX
  have hyl : 0 < Y'.length := List.length_pos_iff.2 hY
  have hc1 := c1.puts.closed
  have hg1 := c1.at_
  have hf1 : b < H1.fresh := by rw [c1.puts.fresh]; exact hlt
  have cX := fun (a b' n : Nat) (h1 : a + n ≤ b') (h2 : b' + n ≤ N) => swapRange_c (H := ext H1 lo1 []) (T := P' ++ X' ++ Y' ++ Q') (c := c) (g := g) (caps := caps) hb (by rw [ext_fresh]; exact Nat.lt_of_lt_of_le hf1 (nb_ge _)) (ext_get_old hc1 hg1) (by simp only [List.length_append]; exact hNl) h1 h2 hT
  iterate 2 (apply ct_seq)
  apply ct_region
  iterate 2 (apply seq_plain; exact do_move rfl; exact rfl)
  apply seq_plain; exact do_binInt rfl rfl rfl trivial; exact rfl
  apply seq_nil
  refine ct_cond rfl (fun u => ?_) (fun u => ?_)
  · have u : X'.length ≠ Y'.length := by
      have u : ((X'.length : Int) != (Y'.length : Int)) = true := u
      intro e; rw [e] at u; simp at u
    apply ct_skip
    apply ct_block
    apply ct_seq
    apply ct_region
    iterate 2 (apply seq_plain; exact do_move rfl; exact rfl)
    apply seq_plain; exact do_binInt rfl rfl rfl trivial; exact rfl
    apply seq_nil
    refine ct_cond rfl (fun v => ?_) (fun v => ?_)
    · have v : Y'.length < X'.length := by
        have v := of_decide_eq_true v
        omega
      have em : m - X'.length = P'.length := by omega
      have ew : X' = X'.take Y'.length ++ X'.drop Y'.length := (List.take_append_drop ..).symm
      obtain ⟨X1, hX1⟩ : ∃ X1, X1 = X'.take Y'.length := ⟨_, rfl⟩
      obtain ⟨X2, hX2⟩ : ∃ X2, X2 = X'.drop Y'.length := ⟨_, rfl⟩
      have l1 : X1.length = Y'.length := by rw [hX1, List.length_take]; omega
      have l2 : X2.length = X'.length - Y'.length := by rw [hX2, List.length_drop]
      rw [← hX1, ← hX2] at ew
      have cs := cX P'.length m Y'.length (by omega) (by omega)
      have es : swR (P' ++ X' ++ Y' ++ Q') P'.length m Y'.length = P' ++ Y' ++ X2 ++ X1 ++ Q' := by
        have := swR_parts (P := P') (X := X1) (M := X2) (Y := Y') (Q := Q') l1
        rw [l1] at this
        rw [← this, ew]
        have e5 : P'.length + Y'.length + X2.length = m := by omega
        rw [e5]
        simp only [List.append_assoc]
      rw [es] at cs
      apply ct_seq
      apply ct_region
      iterate 3 (apply seq_plain; exact do_move rfl; exact rfl)
      apply seq_plain; exact do_subN rfl rfl (by omega) (by omega); exact rfl
      iterate 3 (apply seq_plain; exact do_move rfl; exact rfl)
      rw [em]
      refine seq_callPOC hc1 hb hf1 rfl cs rfl ?_
      have c2 := c1.put (z := z) (s := s) (ro := false) hb hlt (in_flat (P' ++ Y' ++ X2 ++ X1 ++ Q'))
      apply ct_region
      iterate 2 (apply seq_plain; exact do_move rfl; exact rfl)
      apply seq_plain; exact do_subN rfl rfl (by omega) (by omega); exact rfl
      apply seq_plain; exact do_assign rfl; exact rfl
      apply seq_nil
      refine lt_to (by rw [← l2, ← l1]; (repeat (first | exact sub_nil | apply sub_cons rfl))) (.refl _) (ih' (P' ++ Y') X2 X1 Q' _ _ ?_ ?_ ?_ ?_ ?_ c2)
      · omega
      · exact ⟨fun e => by rw [e] at l2; simp at l2; omega, fun e => by rw [e] at l1; simp at l1; omega⟩
      · rw [List.length_append]; omega
      · rw [← hR, ew]; simp only [List.append_assoc]
      · rw [List.length_append]; omega
    · have v : X'.length < Y'.length := by
        have v := of_decide_eq_false v
        omega
      have em : m - X'.length = P'.length := by omega
      have ew : Y' = Y'.take (Y'.length - X'.length) ++ Y'.drop (Y'.length - X'.length) := (List.take_append_drop ..).symm
      obtain ⟨Y1, hY1⟩ : ∃ Y1, Y1 = Y'.take (Y'.length - X'.length) := ⟨_, rfl⟩
      obtain ⟨Y2, hY2⟩ : ∃ Y2, Y2 = Y'.drop (Y'.length - X'.length) := ⟨_, rfl⟩
      have l1 : Y1.length = Y'.length - X'.length := by rw [hY1, List.length_take]; omega
      have l2 : Y2.length = X'.length := by rw [hY2, List.length_drop]; omega
      rw [← hY1, ← hY2] at ew
      have cs := cX P'.length (m + Y'.length - X'.length) X'.length (by omega) (by omega)
      have es : swR (P' ++ X' ++ Y' ++ Q') P'.length (m + Y'.length - X'.length) X'.length = P' ++ Y2 ++ Y1 ++ X' ++ Q' := by
        have := swR_parts (P := P') (X := X') (M := Y1) (Y := Y2) (Q := Q') l2.symm
        rw [← this, ew]
        have e5 : P'.length + X'.length + Y1.length = m + (Y1 ++ Y2).length - X'.length := by rw [List.length_append]; omega
        rw [e5]
        simp only [List.append_assoc]
      rw [es] at cs
      apply ct_seq
      apply ct_region
      iterate 3 (apply seq_plain; exact do_move rfl; exact rfl)
      apply seq_plain; exact do_subN rfl rfl (by omega) (by omega); exact rfl
      iterate 2 (apply seq_plain; exact do_move rfl; exact rfl)
      apply seq_plain; exact do_addN rfl rfl (by omega); exact rfl
      apply seq_plain; exact do_move rfl; exact rfl
      apply seq_plain; exact do_subN rfl rfl (by omega) (by omega); exact rfl
      iterate 2 (apply seq_plain; exact do_move rfl; exact rfl)
      rw [em]
      refine seq_callPOC hc1 hb hf1 rfl cs rfl ?_
      have c2 := c1.put (z := z) (s := s) (ro := false) hb hlt (in_flat (P' ++ Y2 ++ Y1 ++ X' ++ Q'))
      apply ct_region
      iterate 2 (apply seq_plain; exact do_move rfl; exact rfl)
      apply seq_plain; exact do_subN rfl rfl (by omega) (by omega); exact rfl
      apply seq_plain; exact do_assign rfl; exact rfl
      apply seq_nil
      refine lt_to (by rw [l1, l2]; (repeat (first | exact sub_nil | apply sub_cons rfl))) (.refl _) (ih' P' Y2 Y1 (X' ++ Q') _ _ ?_ ?_ ?_ ?_ ?_ (by simpa only [List.append_assoc] using c2))
      · omega
      · exact ⟨fun e => by rw [e] at l2; simp at l2; omega, fun e => by rw [e] at l1; simp at l1; omega⟩
      · omega
      · rw [← hR, ew]; simp only [List.append_assoc]
      · rw [List.length_append]; omega
  · have u : X'.length = Y'.length := by
      have u : ((X'.length : Int) != (Y'.length : Int)) = false := u
      have u : (X'.length : Int) = Y'.length := by simpa using u
      omega
    have em : m - X'.length = P'.length := by omega
    have cs := cX P'.length m X'.length (by omega) (by omega)
    have es : swR (P' ++ X' ++ Y' ++ Q') P'.length m X'.length = P' ++ Y' ++ X' ++ Q' := by
      rw [← hm]; exact swR_two u
    rw [es, hR] at cs
    apply ct_exit
    apply exit_eq; exact rfl
    apply ct_region
    iterate 3 (apply seq_plain; exact do_move rfl; exact rfl)
    apply seq_plain; exact do_subN rfl rfl (by omega) (by omega); exact rfl
    iterate 3 (apply seq_plain; exact do_move rfl; exact rfl)
    rw [em]
    refine seq_call rfl cs rfl ?_
    apply seq_nil
    exact fin_cgQ hb hlt ⟨_, _, _, _, rfl, in_flat _⟩ c1 rfl rfl ⟨rfl, rfl⟩
end Go.Proofs.YtflbffhahoblfaaGreatDoor
