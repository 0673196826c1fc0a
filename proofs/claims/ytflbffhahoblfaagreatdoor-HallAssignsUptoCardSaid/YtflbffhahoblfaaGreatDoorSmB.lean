/- Contract: two sorted parts are merged in place (symMerge). -/
import Derived.Test.YtflbffhahoblfaaGreatDoorSmA
noncomputable section
namespace Go.Den
section
variable {P : Program} {l : EL} {h : AHeap}
theorem do_toU {s d : TypeId} {x : Operand} {a : Nat} (hx : ev l x = some (.int .i64 (a : Int))) (ha : a < 9223372036854775808) (hs : (szOf P s).isSome = true) (hd : intOf P d = some .u64) : Does P l (.convert s d x) h (.int .u64 (a : Int)) h := by
  have := do_convInt (P := P) (h := h) (d := d) hx hs hd
  rw [wrap_u64 (by omega)] at this
  exact this
theorem do_ofU {s d : TypeId} {x : Operand} {a : Nat} (hx : ev l x = some (.int .u64 (a : Int))) (ha : a < 9223372036854775808) (hs : (szOf P s).isSome = true) (hd : intOf P d = some .i64) : Does P l (.convert s d x) h (.int .i64 (a : Int)) h := by
  have := do_convInt (P := P) (h := h) (d := d) hx hs hd
  rw [wrap_i64 (by omega)] at this
  exact this
theorem do_half {t t' : TypeId} {x : Operand} {a : Nat} (hx : ev l x = some (.int .u64 (a : Int))) : Does P l (.binOp .shr t x (.const (.int .u64 1)) t') h (.int .u64 ((a / 2 : Nat) : Int)) h := by
  have := do_shr (P := P) (t := t) (t' := t') (h := h) (y := .const (.int .u64 1)) hx rfl (by omega)
  have e : ((a : Int)).fdiv (2 ^ min (Int.toNat 1) (IntKind.bits .u64)) = ((a / 2 : Nat) : Int) := by
    have e2 : min (Int.toNat 1) (IntKind.bits .u64) = 1 := by decide
    rw [e2, Int.fdiv_eq_ediv_of_nonneg _ (by decide)]
    omega
  rw [e] at this
  exact this
end
end Go.Den
namespace Go.Proofs.YtflbffhahoblfaaGreatDoor
open Go Go.Den
set_option maxRecDepth 100000
abbrev ltC (cm : Int → Int → Int) (x y : Int) : Bool := decide (cm x y < 0)
theorem swap_adj {U V : List Int} {u v : Int} {k : Nat} (hk : U.length = k) : swapA (U ++ u :: v :: V) k (k + 1) = U ++ v :: u :: V := by
  have := swR_two (P := U) (X := [u]) (Y := [v]) (Q := V) rfl
  simp only [List.length_singleton, swR, Nat.add_zero] at this
  subst hk
  simpa using this
theorem get_mid {P S Q : List Int} {a k : Nat} (ha : P.length = a) (hk : k < S.length) (h : a + k < (P ++ S ++ Q).length) : (P ++ S ++ Q)[a + k] = S[k] := by
  subst ha
  rw [List.getElem_append_left (by rw [List.length_append]; omega), List.getElem_append_right (by omega)]
  congr 1; omega
def CmpOk (g : Nat) (caps : List Value) (cm : Int → Int → Int) (b : Nat) (T : List Int) (H : AHeap) : Prop := ∀ x ∈ T, ∀ y ∈ T, ∀ H', (∀ c v, c ≠ b → H.get c = some v → H'.get c = some v) → Ret Tryz.prog g (I x :: I y :: caps) H' (I (cm x y)) H'
theorem CmpOk.to {g : Nat} {caps : List Value} {cm : Int → Int → Int} {b : Nat} {T T' : List Int} {H H1 : AHeap} (h : CmpOk g caps cm b T H) (hT : ∀ x ∈ T', x ∈ T) (hH : ∀ c v, c ≠ b → H.get c = some v → H1.get c = some v) : CmpOk g caps cm b T' H1 := fun x hx y hy H' h' => h x (hT x hx) y (hT y hy) H' fun c v hne hv => h' c v hne (hH c v hne hv)
set_option maxHeartbeats 16000000 in
theorem symFront_c {H : AHeap} {P S2 Q : List Int} {x : Int} {a m e b z c g N : Nat} {s : Bool} {caps : List Value} {cm : Int → Int → Int} (hb : own b = true) (hlt : b < H.fresh) (hg : H.get b = some (inZ (P ++ [x] ++ S2 ++ Q) z s)) (hN : (P ++ [x] ++ S2 ++ Q).length = N) (hT : N ≤ 1000000) (ha : P.length = a) (hm : a + 1 = m) (he : m + S2.length = e)
    (w : Weak (ltC cm)) (hs2 : StW (ltC cm) S2) (hx : ∀ y ∈ S2, x < y) (hcm : CmpOk g caps cm b (P ++ [x] ++ S2 ++ Q) H) :
    Ret Tryz.prog 123 [.slice (some ⟨b, 0, none⟩) N c, I a, I m, I e, .func (.func g) #[] ⟨caps⟩] H (packA []) (H.put b (inZ (P ++ srtW (ltC cm) ([x] ++ S2) ++ Q) z s)) := by
  refine fn_start Tryz.func123 rfl rfl rfl fun hc => ?_
  have hNl : P.length + 1 + S2.length + Q.length = N := by rw [← hN]; simp only [List.length_append, List.length_singleton]
  obtain ⟨T, hTe⟩ : ∃ T, T = P ++ [x] ++ S2 ++ Q := ⟨_, rfl⟩
  have hTl : T.length = N := by rw [hTe]; exact hN
  have gA : ∀ h : a < T.length, T[a] = x := fun h => by
    subst hTe
    have := get_mid (P := P) (S := [x]) (Q := S2 ++ Q) (k := 0) ha (by simp) (by simp only [List.length_append, List.length_singleton]; omega)
    simpa [List.append_assoc] using this
  have gB : ∀ k (hk : k < S2.length) (h : m + k < T.length), T[m + k] = S2[k] := fun k hk h => by
    subst hTe
    exact get_mid (P := P ++ [x]) (S := S2) (Q := Q) (by simp; omega) hk h
  rw [← hTe] at hcm
  have hgT : H.get b = some (inZ T z s) := by rw [hTe]; exact hg
  iterate 2 (apply ct_seq)
  apply ct_region
  iterate 2 (apply seq_plain; exact do_move rfl; exact rfl)
  apply seq_plain; exact do_subN rfl rfl (by omega) (by omega); exact rfl
  apply seq_plain; exact do_binInt rfl rfl rfl trivial; exact rfl
  apply seq_nil
  refine ct_cond_t rfl (by rw [beq_iff_eq]; omega) ?_
  apply ct_seq
  apply ct_region
  apply seq_plain; exact do_move rfl; exact rfl
  apply seq_plain; exact do_assign rfl; exact rfl
  apply seq_nil
  apply ct_seq
  apply ct_region
  apply seq_plain; exact do_move rfl; exact rfl
  apply seq_plain; exact do_assign rfl; exact rfl
  apply seq_nil
  apply ct_seq
  apply ct_block
  apply ct_loop
  refine lt_meas (α := Nat × Nat) (fun y => [(0, .slice (some ⟨b, 0, none⟩) N c), (1, I a), (4, .func (.func g) #[] ⟨caps⟩), (10, I ((m + y.1 : Nat) : Int)), (11, I ((m + y.2 : Nat) : Int))]) (fun _ => ext H H.fresh []) (fun y => (y.1 ≤ y.2 ∧ y.2 ≤ S2.length) ∧ (∀ (g : 0 < y.1) (h : y.1 - 1 < S2.length), ltC cm S2[y.1 - 1] x = true) ∧ ∀ h : y.2 < S2.length, ltC cm S2[y.2] x = false) (fun y => y.2 - y.1) (fun y hy ih => ?_) (0, S2.length) ⟨⟨Nat.zero_le _, Nat.le_refl _⟩, fun h => absurd h (Nat.lt_irrefl _), fun h => absurd h (Nat.lt_irrefl _)⟩ (by simp only [Nat.add_zero, he]; (repeat (first | exact sub_nil | apply sub_cons rfl))) (.refl _)
  obtain ⟨i, j⟩ := y
  obtain ⟨⟨h1, h2⟩, h3, h4⟩ := hy
  simp only at h1 h2 h3 h4 ih ⊢
  have ih' := fun i' j' a1 a2 a3 a4 => ih (i', j') a1 ⟨a2, a3, a4⟩
  simp only at ih'
  clear ih
  iterate 2 (apply ct_seq)
  apply ct_region
  iterate 2 (apply seq_plain; exact do_move rfl; exact rfl)
  apply seq_plain; exact do_binInt rfl rfl rfl trivial; exact rfl
  apply seq_nil
  refine ct_cond rfl (fun u => ?_) (fun u => ?_)
  · have u : i < j := by
      have u := of_decide_eq_true u
      omega
    obtain ⟨k, hk⟩ : ∃ k, (m + i + (m + j)) / 2 = m + k := ⟨(m + i + (m + j)) / 2 - m, by omega⟩
    have k1 : i ≤ k := by omega
    have k2 : k < j := by omega
    have e1 := gA (by omega)
    have hmk : (m + i + (m + j)) / 2 < T.length := by omega
    have e2 : T[(m + i + (m + j)) / 2] = S2[k] := by
      have := gB k (by omega) (by omega)
      simp only [hk]; exact this
    rw [← hTl]
    have haT : a < T.length := by omega
    apply ct_skip
    apply ct_block
    apply ct_seq
    apply ct_region
    iterate 2 (apply seq_plain; exact do_move rfl; exact rfl)
    apply seq_plain; exact do_addN rfl rfl (by omega); exact rfl
    apply seq_plain; exact do_toU rfl (by omega) rfl rfl; exact rfl
    apply seq_plain; exact do_half rfl; exact rfl
    apply seq_plain; exact do_ofU rfl (by omega) rfl rfl; exact rfl
    apply seq_plain; exact do_assign rfl; exact rfl
    apply seq_nil
    apply ct_seq
    apply ct_draw (by assumption); decide +kernel
    iterate 3 (apply sd_plain (hfree := rfl); intro _; exact do_move rfl; exact rfl)
    apply sd_plain (hfree := rfl); intro _; exact do_indexAddrS rfl rfl rfl (by exact idx_nat (by omega)); exact rfl
    apply sd_look (hfree := rfl); exact do_load rfl (by exact ext_get_old (by assumption) (by assumption)) rfl (by exact pt_map (by omega)); exact rfl
    iterate 2 (apply sd_plain (hfree := rfl); intro _; exact do_move rfl; exact rfl)
    apply sd_plain (hfree := rfl); intro _; exact do_indexAddrS rfl rfl rfl (by exact idx_nat (by omega)); exact rfl
    apply sd_look (hfree := rfl); exact do_load rfl (by exact ext_get_old (by assumption) (by assumption)) rfl (by exact pt_map (by omega)); exact rfl
    apply sd_call (ht := rfl); exact hcm T[(m + i + (m + j)) / 2] (List.getElem_mem _) T[a] (List.getElem_mem _) _ (fun c v hne hv => ext_get_old hc hv); exact rfl
    apply sd_plain (hfree := rfl); intro _; exact do_binInt rfl rfl rfl trivial; exact rfl
    apply sd_nil
    rw [hTl]
    refine ct_cond rfl (fun v => ?_) (fun v => ?_)
    · have v : ltC cm S2[k] x = true := by rw [← e1, ← e2]; exact v
      apply ct_region
      apply seq_plain; exact do_move rfl; exact rfl
      apply seq_plain; exact do_succ rfl (by omega); exact rfl
      apply seq_plain; exact do_assign rfl; exact rfl
      apply seq_nil
      exact lt_sub (by simp only [hk]; (repeat (first | exact sub_nil | apply sub_cons rfl))) (ih' (k + 1) j (by omega) ⟨by omega, h2⟩ (fun _ _ => v) h4)
    · have v : ltC cm S2[k] x = false := by rw [← e1, ← e2]; exact v
      apply ct_region
      apply seq_plain; exact do_move rfl; exact rfl
      apply seq_plain; exact do_assign rfl; exact rfl
      apply seq_nil
      exact lt_sub (by simp only [hk]; (repeat (first | exact sub_nil | apply sub_cons rfl))) (ih' i k (by omega) ⟨by omega, by omega⟩ h3 (fun _ => v))
  have u : i = j := by
    have u := of_decide_eq_false u
    omega
  subst u
  clear ih'
  obtain ⟨f1, f2⟩ := found_front w hs2 h2 h3 h4
  have es := srt_front w hs2 hx h2 f1 f2
  rw [← es]
  clear es f1 f2 h3 h4 h1 gA gB hcm hTe hgT hTl T
  apply ct_exit
  apply exit_eq; exact rfl
  iterate 2 (apply ct_seq)
  apply ct_region
  apply seq_plain; exact do_move rfl; exact rfl
  apply seq_plain; exact do_assign rfl; exact rfl
  apply seq_nil
  apply ct_block
  apply ct_loop
  refine lt_meas (α := Nat × AHeap × Nat) (fun y => [(0, .slice (some ⟨b, 0, none⟩) N c), (10, I ((m + i : Nat) : Int)), (13, I ((a + y.1 : Nat) : Int))]) (fun y => ext y.2.1 y.2.2 []) (fun y => y.1 ≤ i ∧ Cg H y.2.1 b (inZ (P ++ (S2.take y.1 ++ x :: S2.drop y.1) ++ Q) z s)) (fun y => i - y.1) (fun y hy ih => ?_) (0, H, H.fresh) ⟨Nat.zero_le _, Cg.refl hc (by simpa using hg)⟩ (by simp only [Nat.add_zero]; (repeat (first | exact sub_nil | apply sub_cons rfl))) (.refl _)
  obtain ⟨k, H1, lo1⟩ := y
  obtain ⟨hk, c1⟩ := hy
  simp only at hk c1 ih ⊢
  have ih' := fun i' H' lo' a1 a2 a3 => ih (i', H', lo') a1 ⟨a2, a3⟩
  simp only at ih'
  clear ih
  have hc1 := c1.puts.closed
  have hg1 := c1.at_
  have hf1 : b < H1.fresh := by rw [c1.puts.fresh]; exact hlt
  obtain ⟨T1, hT1⟩ : ∃ T1, T1 = P ++ (S2.take k ++ x :: S2.drop k) ++ Q := ⟨_, rfl⟩
  have hl1 : T1.length = N := by rw [hT1]; simp only [List.length_append, List.length_cons, List.length_take, List.length_drop]; omega
  rw [← hT1] at c1 hg1
  iterate 2 (apply ct_seq)
  apply ct_region
  iterate 2 (apply seq_plain; exact do_move rfl; exact rfl)
  apply seq_plain; exact do_predN rfl rfl (by omega) (by omega); exact rfl
  apply seq_plain; exact do_binInt rfl rfl rfl trivial; exact rfl
  apply seq_nil
  refine ct_cond rfl (fun u => ?_) (fun u => ?_)
  · have u : k < i := by
      have u := of_decide_eq_true u
      omega
    have k1 : a + k < T1.length := by omega
    have k2 : a + k + 1 < T1.length := by omega
    have es : swapA T1 (a + k) (a + k + 1) = P ++ (S2.take (k + 1) ++ x :: S2.drop (k + 1)) ++ Q := by
      have hd : S2.drop k = S2[k] :: S2.drop (k + 1) := List.drop_eq_getElem_cons (by omega)
      have := swap_adj (U := P ++ S2.take k) (u := x) (v := S2[k]) (V := S2.drop (k + 1) ++ Q) (k := a + k) (by rw [List.length_append, List.length_take]; omega)
      rw [hT1, hd, take_snoc (by omega)]
      simp only [List.append_assoc, List.cons_append, List.nil_append] at this ⊢
      exact this
    rw [← hl1]
    apply ct_skip
    apply ct_seq
    apply ct_block
    apply ct_draw (by assumption); decide +kernel
    iterate 4 (apply sd_plain (hfree := rfl); intro _; exact do_move rfl; exact rfl)
    apply sd_plain (hfree := rfl); intro _; exact do_succ rfl (by omega); exact rfl
    iterate 2 (apply sd_plain (hfree := rfl); intro _; exact do_move rfl; exact rfl)
    apply sd_plain (hfree := rfl); intro _; exact do_succ rfl (by omega); exact rfl
    apply sd_plain (hfree := rfl); intro _; exact do_indexAddrS rfl rfl rfl (by exact idx_nat (by omega)); exact rfl
    apply sd_look (hfree := rfl); exact do_load rfl (by exact ext_get_old (by assumption) (by assumption)) rfl (by exact pt_map (by omega)); exact rfl
    iterate 2 (apply sd_plain (hfree := rfl); intro _; exact do_move rfl; exact rfl)
    apply sd_plain (hfree := rfl); intro _; exact do_indexAddrS rfl rfl rfl (by exact idx_nat (by omega)); exact rfl
    apply sd_look (hfree := rfl); exact do_load rfl (by exact ext_get_old (by assumption) (by assumption)) rfl (by exact pt_map (by omega)); exact rfl
    apply sd_plain (hfree := rfl); intro _; exact do_indexAddrS rfl rfl rfl (by exact idx_nat (by omega)); exact rfl
    refine sd_putO0 (b := b) (x := inZ (T1.set (a + k) T1[a + k + 1]) z s) rfl (by decide +kernel) hc1 hb hf1 (do_store rfl rfl (ext_get_old hc1 hg1) rfl (stl_map (g := I) (v := T1[a + k + 1]) k1 rfl rfl) hb) ?_
    have c3 := c1.put (z := z) (s := s) (ro := false) hb hlt (in_flat (T1.set (a + k) T1[a + k + 1]))
    have hc3 := c3.puts.closed
    have hf3 : b < (H1.put b (inZ (T1.set (a + k) T1[a + k + 1]) z s)).fresh := by rw [c3.puts.fresh]; exact hlt
    apply sd_plain (hfree := rfl); intro _; exact do_indexAddrS rfl rfl rfl (by exact idx_nat (by omega)); exact rfl
    refine sd_putO0 (b := b) (x := inZ ((T1.set (a + k) T1[a + k + 1]).set (a + k + 1) T1[a + k]) z s) rfl (by decide +kernel) hc3 hb hf3 (do_store rfl rfl (ext_get_old hc3 c3.at_) rfl (stl_map (g := I) (v := T1[a + k]) (by simpa using k2) rfl rfl) hb) ?_
    have c4 := c3.put (z := z) (s := s) (ro := false) hb hlt (in_flat ((T1.set (a + k) T1[a + k + 1]).set (a + k + 1) T1[a + k]))
    rw [← swapA_eq k1 k2, es] at c4 ⊢
    apply sd_nil
    apply ct_region
    apply seq_plain; exact do_move rfl; exact rfl
    apply seq_plain; exact do_succ rfl (by omega); exact rfl
    apply seq_plain; exact do_assign rfl; exact rfl
    apply seq_nil
    rw [hl1]
    exact lt_to (by repeat (first | exact sub_nil | apply sub_cons rfl)) (.refl _) (ih' (k + 1) _ _ (by omega) (by omega) c4)
  · have u : k = i := by
      have u := of_decide_eq_false u
      omega
    subst u
    apply ct_exit
    apply exit_eq; exact rfl
    apply ct_ret
    exact fin_cg hb hlt ⟨_, _, _, _, rfl, in_flat _⟩ c1 rfl rfl ⟨rfl, by rw [hT1]⟩
end Go.Proofs.YtflbffhahoblfaaGreatDoor
