/- Contracts: the reference's double fixtures. -/
import Derived.Test.YtiggikjbknoohaaGreatDoorFxC
noncomputable section
namespace Go.Proofs.YtiggikjbknoohaaGreatDoor
open Go Go.Den
set_option maxRecDepth 100000

set_option maxHeartbeats 1000000 in
theorem refDouble_c {H : AHeap} {n : Nat} (h2 : 2 ≤ n) (h24 : n ≤ 24) : Ret Tryz.prog 75 [I n] H (lstV H.fresh (genD n)) (lstH H 3 fx (genD n)) := by
  obtain ⟨e1, e2, e3, e4⟩ := even_ge h2 h24
  obtain ⟨hday, hpos⟩ := genF_day h2 h24
  have hlen : (genF n).length ≤ 10000 := gen_len (by omega) (by omega)
  refine fn_start Tryz.func75 rfl rfl rfl fun hc => ?_
  have c := refFixtures_c (H := ext H H.fresh []) h2 h24
  rw [lstH_ext, ext_fresh] at c
  apply ct_seq
  apply ct_region
  apply seq_plain; exact do_assign rfl; exact rfl
  apply seq_nil
  apply ct_seq
  apply ct_region
  apply seq_plain; exact do_move rfl; exact rfl
  apply seq_call (ht := rfl); exact c; exact rfl
  apply seq_plain; exact do_assign rfl; exact rfl
  apply seq_nil
  apply ct_seq
  apply ct_region
  apply seq_plain; exact do_move rfl; exact rfl
  apply seq_plain; exact do_lenS rfl rfl rfl; exact rfl
  apply seq_plain; exact do_assign rfl; exact rfl
  apply seq_nil
  apply ct_seq
  apply ct_seq
  apply ct_region
  apply seq_plain; exact do_assign rfl; exact rfl
  apply seq_nil
  apply ct_block
  apply ct_loop
  have hl0 : Lst H ([] ++ lstL 3 fx (genF n)) 3 fx 0 (lstV (nb H ([] : List (Option ABlk)).length) (genF n)) (genF n) := by
    obtain ⟨x, r, hx⟩ := List.exists_cons_of_ne_nil (List.length_pos_iff.1 hpos)
    rw [hx]
    exact ⟨.inr ⟨by simp, 0, by omega, rfl, rfl⟩⟩
  refine lt_meas (α := Nat × Value × List (Option ABlk)) (fun a => [(0, I n), (3, a.2.1), (4, I (genF n).length), (5, I a.1)]) (fun a => ext H H.fresh a.2.2) (fun a => a.1 ≤ (genF n).length ∧ Lst H a.2.2 3 fx 0 a.2.1 (genF n ++ ((genF n).take a.1).map (turnF n))) (fun a => (genF n).length - a.1) (fun a ha ih => ?_) (0, lstV (nb H ([] : List (Option ABlk)).length) (genF n), [] ++ lstL 3 fx (genF n)) ⟨by omega, by simpa using hl0⟩ (by repeat (first | exact sub_nil | apply sub_cons rfl)) (.refl _)
  obtain ⟨i, v, L⟩ := a
  obtain ⟨hi, hv⟩ := ha
  simp only at hi hv ih ⊢
  have ih' := fun i' v' L' a1 a2 a3 => ih (i', v', L') a1 ⟨a2, a3⟩
  simp only at ih'
  clear ih
  apply ct_seq
  apply ct_seq
  apply ct_region
  apply seq_plain; exact do_move rfl; exact rfl
  apply seq_plain; exact do_move rfl; exact rfl
  apply seq_plain; exact do_binInt rfl rfl rfl trivial; exact rfl
  apply seq_nil
  refine ct_cond rfl (fun h1 => ?_) (fun h1 => ?_)
  · simp only [decide_eq_true_eq, Int.ofNat_lt] at h1
    obtain ⟨S, hS⟩ : ∃ S, S = genF n ++ ((genF n).take i).map (turnF n) := ⟨_, rfl⟩
    rw [← hS] at hv
    have hSi : i < S.length := by rw [hS, List.length_append]; omega
    have hSl : S.length = (genF n).length + i := by rw [hS, List.length_append, List.length_map, List.length_take]; omega
    have hSx : S[i] = (genF n)[i] := by subst hS; exact List.getElem_append_left h1
    obtain ⟨d1, d2⟩ := hday _ (List.getElem_mem h1)
    rcases hv.out with ⟨q, _⟩ | ⟨hne, k, hk, rfl, hL⟩
    · rw [q] at hSi; simp at hSi
    have hxd : 0 ≤ S[i].day ∧ S[i].day ≤ 48 := by rw [hSx]; exact ⟨d1, d2⟩
    have hk0 : k < L.length := (List.getElem?_eq_some_iff.1 hL).1
    have b1 : ((n : Int)).tmod 2 = ((n % 2 : Nat) : Int) := tmod_n (a := n) (b := 2)
    have hxe : S[i].day + (n : Int) + (n : Int).tmod 2 - 1 = (turnF n (genF n)[i]).day := by
      rw [hSx, b1]
      simp only [turnF, evenN]; unfold evenN at e1; omega
    have e1' : (turnF n (genF n)[i]).home = S[i].away ∧ (turnF n (genF n)[i]).away = S[i].home := by rw [hSx]; exact ⟨rfl, rfl⟩
    apply ct_skip
    apply ct_seq
    apply ct_block
    apply ct_draw (by assumption); decide +kernel
    apply sd_plain (hfree := rfl); intro _; exact do_move rfl; exact rfl
    apply sd_plain (hfree := rfl); intro _; exact do_move rfl; exact rfl
    apply sd_plain (hfree := rfl); intro _; exact do_move rfl; exact rfl
    apply sd_plain (hfree := rfl); intro _; exact do_indexAddrS rfl rfl rfl (by exact idx_nat (by omega)); exact rfl
    apply sd_plain (hfree := rfl); intro _; exact do_fieldAddr rfl rfl; exact rfl
    apply sd_look (hfree := rfl); exact do_load rfl (by exact ext_get_new (getApp (by assumption))) rfl (by exact pt_flat1 (fun _ => rfl) (by omega) rfl); exact rfl
    apply sd_plain (hfree := rfl); intro _; exact do_move rfl; exact rfl
    apply sd_plain (hfree := rfl); intro _; exact do_add rfl rfl (by omega); exact rfl
    apply sd_plain (hfree := rfl); intro _; exact do_move rfl; exact rfl
    apply sd_plain (hfree := rfl); intro _; exact do_rem rfl rfl (by decide); exact rfl
    apply sd_plain (hfree := rfl); intro _; exact do_add rfl rfl (by omega); exact rfl
    apply sd_plain (hfree := rfl); intro _; exact do_sub rfl rfl (by omega); exact rfl
    apply sd_plain (hfree := rfl); intro _; exact do_move rfl; exact rfl
    apply sd_plain (hfree := rfl); intro _; exact do_move rfl; exact rfl
    apply sd_plain (hfree := rfl); intro _; exact do_indexAddrS rfl rfl rfl (by exact idx_nat (by omega)); exact rfl
    apply sd_plain (hfree := rfl); intro _; exact do_fieldAddr rfl rfl; exact rfl
    apply sd_look (hfree := rfl); exact do_load rfl (by exact ext_get_new (getApp (by assumption))) rfl (by exact pt_flat1 (fun _ => rfl) (by omega) rfl); exact rfl
    apply sd_plain (hfree := rfl); intro _; exact do_move rfl; exact rfl
    apply sd_plain (hfree := rfl); intro _; exact do_move rfl; exact rfl
    apply sd_plain (hfree := rfl); intro _; exact do_indexAddrS rfl rfl rfl (by exact idx_nat (by omega)); exact rfl
    apply sd_plain (hfree := rfl); intro _; exact do_fieldAddr rfl rfl; exact rfl
    apply sd_look (hfree := rfl); exact do_load rfl (by exact ext_get_new (getApp (by assumption))) rfl (by exact pt_flat1 (fun _ => rfl) (by omega) rfl); exact rfl
    apply sd_plain (hfree := rfl); intro _; exact do_build rfl rfl rfl rfl; exact rfl
    apply sd_newS (hfree := rfl); exact do_buildSlice rfl rfl rfl rfl rfl rfl rfl; exact rfl
    rw [hxe, ← e1'.1, ← e1'.2]
    refine sd_pushS (k := k) hc rfl (by decide +kernel) (by simp; omega) (do_append1 (n := 1) rfl rfl rfl rfl rfl rfl (ext_get_new (getR (k := 0) rfl)) rfl (ext_get_new (getApp hL)) (len_flat fx_len S) (nb_own _) rfl (Nat.le_trans (Nat.mul_le_mul_right _ (by omega : 2 * (S.length + 1) + 1000 ≤ 50000)) (Nat.le_of_ble_eq_true rfl)) (Nat.ne_of_beq_eq_false rfl) (Nat.ne_of_beq_eq_false rfl) (by omega)) rfl ?_
    apply sd_plain (hfree := rfl); intro _; exact do_assign rfl; exact rfl
    apply sd_nil
    apply ct_region
    apply seq_plain; exact do_move rfl; exact rfl
    apply seq_plain; exact do_succ rfl (by omega); exact rfl
    apply seq_plain; exact do_assign rfl; exact rfl
    apply seq_nil
    have eS : genF n ++ ((genF n).take (i + 1)).map (turnF n) = S ++ [turnF n (genF n)[i]] := by
      rw [hS, take_snoc h1, List.map_append, List.append_assoc]; rfl
    refine lt_to (by repeat (first | exact sub_nil | apply sub_cons rfl)) (.refl _) (ih' (i + 1) _ _ (by omega) (by omega) ⟨.inr ⟨fun e => ?_, L.length + 1, by omega, ?_, ?_⟩⟩)
    · rw [(List.append_eq_nil_iff.1 e).1] at hpos; simp at hpos
    · have e : (S ++ [turnF n (genF n)[i]]).length = S.length + 1 := by simp
      rw [eS, e]; rfl
    · rw [eS, List.flatMap_append]
      have e : ∀ (M : List (Option ABlk)) (B : Option ABlk), M.length = 1 → ((L ++ M).set k none ++ [B])[L.length + 1]? = some B := fun M B hM => by
        have : L.length + 1 = ((L ++ M).set k none).length := by simp [hM]
        rw [this, List.getElem?_concat_length]
      simp only [List.map_nil, List.append_nil]
      exact (e _ _ rfl).trans rfl
  · have h1 : i = (genF n).length := by simp at h1; omega
    subst h1
    rw [List.take_length] at hv
    apply ct_exit
    apply exit_eq; exact rfl
    apply ct_seq
    apply ct_region
    apply seq_plain; exact do_move rfl; exact rfl
    apply seq_plain; exact do_assign rfl; exact rfl
    apply seq_nil
    apply ct_ret
    exact fin_lst hc hv rfl (fun _ => rfl) ⟨rfl, rfl⟩
end Go.Proofs.YtiggikjbknoohaaGreatDoor
