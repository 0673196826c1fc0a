/- HallSums: the law's own walk. -/
import Derived.Test.YtfegloadbajbhaaGreatDoorHaF
import Derived.Test.YtfegloadbajbhaaGreatDoorSxT
import Derived.Test.YtfegloadbajbhaaGreatDoorAwake
noncomputable section
namespace Go.Proofs.YtfegloadbajbhaaGreatDoor
open Go Go.Den
set_option maxRecDepth 100000

set_option maxHeartbeats 16000000 in
theorem sums_w {H : AHeap} {q : Option Addr} {c : Nat} {l : List Ra} {a0 a1 a2 n : Int} (haw : ∀ h, Ext H h → Ret Tryz.prog 17 [] h (.bool true) h) (hs : SlAt H 3 ra q l) (hlow : LowS q c l.length) :
    Ret Tryz.prog 13 [.slice q l.length c, .agg ⟨[I a0, I a1, I a2]⟩, I n] H (.bool true) H := by
  refine fn_start Tryz.func13 rfl rfl rfl fun hc => ?_
  apply ct_seq
  apply ct_region
  apply seq_newP; exact do_box rfl rfl rfl; exact rfl
  apply seq_plain; exact do_assign rfl; exact rfl
  apply seq_nil
  apply ct_seq
  apply ct_seq
  apply ct_region
  apply seq_call (ht := rfl); exact haw _ (ext_Ext hc); exact rfl
  apply seq_plain; exact do_unOp rfl rfl; exact rfl
  apply seq_plain; exact do_move rfl; exact rfl
  apply seq_guard (hd := rfl) (hl := rfl); exact do_move rfl; exact rfl
  apply seq_guard (hd := rfl) (hl := rfl); exact do_lenS rfl rfl rfl; exact rfl
  apply seq_guard (hd := rfl) (hl := rfl); exact do_binInt rfl rfl rfl trivial; exact rfl
  apply seq_plain; exact do_pick_f rfl rfl; exact rfl
  apply seq_plain; exact do_move rfl; exact rfl
  obtain ⟨T, hT⟩ : ∃ T : Bool, T = (decide ((l.length : Int) > 100) || ((ratesE l != 0) || (decide (a0 < 0) || (decide (a1 < a0) || (decide (a2 < a1) || (decide (a2 > 2000) || (decide (n < 1) || (decide (n > 16))))))))) := ⟨_, rfl⟩
  refine seq_JX (α := List (Option ABlk)) (ds := []) (fun _ => [(0, .slice q l.length c), (2, I n), (4, .pointer (some ⟨nb H 0, 0, none⟩)), (70, .bool T)]) (fun L => ext H H.fresh L) (fun L => L[0]? = some (some (.cells [I a0, I a1, I a2] 0 false false))) ?_ ?_
  · refine seq_gsplit rfl rfl (fun u0 => ?_) (fun u0 => ?_)
    · have u0 : decide ((l.length : Int) > 100) = true := u0
      have e : T = true := by rw [hT, u0]; rfl
      rw [e]
      apply seq_passed (hd := rfl) (hl := rfl) (hb := rfl); exact rfl
      apply seq_passed (hd := rfl) (hl := rfl) (hb := rfl); exact rfl
      apply seq_passed (hd := rfl) (hl := rfl) (hb := rfl); exact rfl
      apply seq_passed (hd := rfl) (hl := rfl) (hb := rfl); exact rfl
      apply seq_plain; exact do_pick_t rfl rfl; exact rfl
      apply seq_plain; exact do_move rfl; exact rfl
      apply seq_passed (hd := rfl) (hl := rfl) (hb := rfl); exact rfl
      apply seq_passed (hd := rfl) (hl := rfl) (hb := rfl); exact rfl
      apply seq_passed (hd := rfl) (hl := rfl) (hb := rfl); exact rfl
      apply seq_plain; exact do_pick_t rfl rfl; exact rfl
      apply seq_plain; exact do_move rfl; exact rfl
      apply seq_passed (hd := rfl) (hl := rfl) (hb := rfl); exact rfl
      apply seq_passed (hd := rfl) (hl := rfl) (hb := rfl); exact rfl
      apply seq_passed (hd := rfl) (hl := rfl) (hb := rfl); exact rfl
      apply seq_passed (hd := rfl) (hl := rfl) (hb := rfl); exact rfl
      apply seq_passed (hd := rfl) (hl := rfl) (hb := rfl); exact rfl
      apply seq_plain; exact do_pick_t rfl rfl; exact rfl
      apply seq_plain; exact do_move rfl; exact rfl
      apply seq_passed (hd := rfl) (hl := rfl) (hb := rfl); exact rfl
      apply seq_passed (hd := rfl) (hl := rfl) (hb := rfl); exact rfl
      apply seq_passed (hd := rfl) (hl := rfl) (hb := rfl); exact rfl
      apply seq_passed (hd := rfl) (hl := rfl) (hb := rfl); exact rfl
      apply seq_passed (hd := rfl) (hl := rfl) (hb := rfl); exact rfl
      apply seq_plain; exact do_pick_t rfl rfl; exact rfl
      apply seq_plain; exact do_move rfl; exact rfl
      apply seq_passed (hd := rfl) (hl := rfl) (hb := rfl); exact rfl
      apply seq_passed (hd := rfl) (hl := rfl) (hb := rfl); exact rfl
      apply seq_passed (hd := rfl) (hl := rfl) (hb := rfl); exact rfl
      apply seq_plain; exact do_pick_t rfl rfl; exact rfl
      apply seq_plain; exact do_move rfl; exact rfl
      apply seq_passed (hd := rfl) (hl := rfl) (hb := rfl); exact rfl
      apply seq_passed (hd := rfl) (hl := rfl) (hb := rfl); exact rfl
      apply seq_plain; exact do_pick_t rfl rfl; exact rfl
      apply seq_plain; exact do_move rfl; exact rfl
      apply seq_passed (hd := rfl) (hl := rfl) (hb := rfl); exact rfl
      apply seq_passed (hd := rfl) (hl := rfl) (hb := rfl); exact rfl
      apply seq_plain; exact do_pick_t rfl rfl; exact rfl
      apply seq_nil
      exact jx_of _ (by first | rfl | exact getApp rfl) (by repeat (first | exact sub_nil | apply sub_cons rfl)) rfl
    · have u0 : decide ((l.length : Int) > 100) = false := u0
      simp only [decide_eq_false_iff_not] at u0
      have hl1 : l.length ≤ 100 := by omega
      have u0 : decide ((l.length : Int) > 100) = false := decide_eq_false (by omega)
      have cO : Ret Tryz.prog 49 [.slice q l.length c] (ext H H.fresh [some (.cells [I a0, I a1, I a2] 0 false false)]) (lstV (nb H 1) l) (ext H H.fresh ([some (.cells [I a0, I a1, I a2] 0 false false)] ++ lstL 3 ra l)) := by
        have := ownRates_c (c := c) (hs.ext (ext_Ext hc (lo := H.fresh) (L := [some (.cells [I a0, I a1, I a2] 0 false false)]))) (by omega)
        rwa [lstH_ext, ext_fresh] at this
      have cC : Ret Tryz.prog 50 [lstV (nb H 1) l] (ext H H.fresh ([some (.cells [I a0, I a1, I a2] 0 false false)] ++ lstL 3 ra l)) (I (ratesE l)) (ext H H.fresh ([some (.cells [I a0, I a1, I a2] 0 false false)] ++ lstL 3 ra l)) := refRates_c (lst_slAt ra_len) (by omega)
      apply seq_guard (hd := rfl) (hl := rfl); exact do_move rfl; exact rfl
      apply seq_gcall (hg := rfl) (hl := rfl) (ht := rfl); exact cO; exact rfl
      skip
      apply seq_gcall (hg := rfl) (hl := rfl) (ht := rfl); exact cC; exact rfl
      apply seq_guard (hd := rfl) (hl := rfl); exact do_binInt rfl rfl rfl trivial; exact rfl
      apply seq_plain; exact do_pick_f rfl rfl; exact rfl
      apply seq_plain; exact do_move rfl; exact rfl
      refine seq_gsplit rfl rfl (fun u1 => ?_) (fun u1 => ?_)
      · have u1 : (ratesE l != 0) = true := u1
        have e : T = true := by rw [hT, u0, u1]; rfl
        rw [e]
        apply seq_passed (hd := rfl) (hl := rfl) (hb := rfl); exact rfl
        apply seq_passed (hd := rfl) (hl := rfl) (hb := rfl); exact rfl
        apply seq_passed (hd := rfl) (hl := rfl) (hb := rfl); exact rfl
        apply seq_plain; exact do_pick_t rfl rfl; exact rfl
        apply seq_plain; exact do_move rfl; exact rfl
        apply seq_passed (hd := rfl) (hl := rfl) (hb := rfl); exact rfl
        apply seq_passed (hd := rfl) (hl := rfl) (hb := rfl); exact rfl
        apply seq_passed (hd := rfl) (hl := rfl) (hb := rfl); exact rfl
        apply seq_passed (hd := rfl) (hl := rfl) (hb := rfl); exact rfl
        apply seq_passed (hd := rfl) (hl := rfl) (hb := rfl); exact rfl
        apply seq_plain; exact do_pick_t rfl rfl; exact rfl
        apply seq_plain; exact do_move rfl; exact rfl
        apply seq_passed (hd := rfl) (hl := rfl) (hb := rfl); exact rfl
        apply seq_passed (hd := rfl) (hl := rfl) (hb := rfl); exact rfl
        apply seq_passed (hd := rfl) (hl := rfl) (hb := rfl); exact rfl
        apply seq_passed (hd := rfl) (hl := rfl) (hb := rfl); exact rfl
        apply seq_passed (hd := rfl) (hl := rfl) (hb := rfl); exact rfl
        apply seq_plain; exact do_pick_t rfl rfl; exact rfl
        apply seq_plain; exact do_move rfl; exact rfl
        apply seq_passed (hd := rfl) (hl := rfl) (hb := rfl); exact rfl
        apply seq_passed (hd := rfl) (hl := rfl) (hb := rfl); exact rfl
        apply seq_passed (hd := rfl) (hl := rfl) (hb := rfl); exact rfl
        apply seq_plain; exact do_pick_t rfl rfl; exact rfl
        apply seq_plain; exact do_move rfl; exact rfl
        apply seq_passed (hd := rfl) (hl := rfl) (hb := rfl); exact rfl
        apply seq_passed (hd := rfl) (hl := rfl) (hb := rfl); exact rfl
        apply seq_plain; exact do_pick_t rfl rfl; exact rfl
        apply seq_plain; exact do_move rfl; exact rfl
        apply seq_passed (hd := rfl) (hl := rfl) (hb := rfl); exact rfl
        apply seq_passed (hd := rfl) (hl := rfl) (hb := rfl); exact rfl
        apply seq_plain; exact do_pick_t rfl rfl; exact rfl
        apply seq_nil
        exact jx_of _ (by first | rfl | exact getApp rfl) (by repeat (first | exact sub_nil | apply sub_cons rfl)) rfl
      · have u1 : (ratesE l != 0) = false := u1
        apply seq_guard (hd := rfl) (hl := rfl); exact do_indexAddrA rfl rfl rfl (by exact rfl); exact rfl
        apply seq_guard (hd := rfl) (hl := rfl); exact do_load rfl (by exact ext_get_new rfl) rfl (by exact rfl); exact rfl
        apply seq_guard (hd := rfl) (hl := rfl); exact do_binInt rfl rfl rfl trivial; exact rfl
        apply seq_plain; exact do_pick_f rfl rfl; exact rfl
        apply seq_plain; exact do_move rfl; exact rfl
        refine seq_gsplit rfl rfl (fun u2 => ?_) (fun u2 => ?_)
        · have u2 : decide (a0 < 0) = true := u2
          have e : T = true := by rw [hT, u0, u1, u2]; rfl
          rw [e]
          apply seq_passed (hd := rfl) (hl := rfl) (hb := rfl); exact rfl
          apply seq_passed (hd := rfl) (hl := rfl) (hb := rfl); exact rfl
          apply seq_passed (hd := rfl) (hl := rfl) (hb := rfl); exact rfl
          apply seq_passed (hd := rfl) (hl := rfl) (hb := rfl); exact rfl
          apply seq_passed (hd := rfl) (hl := rfl) (hb := rfl); exact rfl
          apply seq_plain; exact do_pick_t rfl rfl; exact rfl
          apply seq_plain; exact do_move rfl; exact rfl
          apply seq_passed (hd := rfl) (hl := rfl) (hb := rfl); exact rfl
          apply seq_passed (hd := rfl) (hl := rfl) (hb := rfl); exact rfl
          apply seq_passed (hd := rfl) (hl := rfl) (hb := rfl); exact rfl
          apply seq_passed (hd := rfl) (hl := rfl) (hb := rfl); exact rfl
          apply seq_passed (hd := rfl) (hl := rfl) (hb := rfl); exact rfl
          apply seq_plain; exact do_pick_t rfl rfl; exact rfl
          apply seq_plain; exact do_move rfl; exact rfl
          apply seq_passed (hd := rfl) (hl := rfl) (hb := rfl); exact rfl
          apply seq_passed (hd := rfl) (hl := rfl) (hb := rfl); exact rfl
          apply seq_passed (hd := rfl) (hl := rfl) (hb := rfl); exact rfl
          apply seq_plain; exact do_pick_t rfl rfl; exact rfl
          apply seq_plain; exact do_move rfl; exact rfl
          apply seq_passed (hd := rfl) (hl := rfl) (hb := rfl); exact rfl
          apply seq_passed (hd := rfl) (hl := rfl) (hb := rfl); exact rfl
          apply seq_plain; exact do_pick_t rfl rfl; exact rfl
          apply seq_plain; exact do_move rfl; exact rfl
          apply seq_passed (hd := rfl) (hl := rfl) (hb := rfl); exact rfl
          apply seq_passed (hd := rfl) (hl := rfl) (hb := rfl); exact rfl
          apply seq_plain; exact do_pick_t rfl rfl; exact rfl
          apply seq_nil
          exact jx_of _ (by first | rfl | exact getApp rfl) (by repeat (first | exact sub_nil | apply sub_cons rfl)) rfl
        · have u2 : decide (a0 < 0) = false := u2
          apply seq_guard (hd := rfl) (hl := rfl); exact do_indexAddrA rfl rfl rfl (by exact rfl); exact rfl
          apply seq_guard (hd := rfl) (hl := rfl); exact do_load rfl (by exact ext_get_new rfl) rfl (by exact rfl); exact rfl
          apply seq_guard (hd := rfl) (hl := rfl); exact do_indexAddrA rfl rfl rfl (by exact rfl); exact rfl
          apply seq_guard (hd := rfl) (hl := rfl); exact do_load rfl (by exact ext_get_new rfl) rfl (by exact rfl); exact rfl
          apply seq_guard (hd := rfl) (hl := rfl); exact do_binInt rfl rfl rfl trivial; exact rfl
          apply seq_plain; exact do_pick_f rfl rfl; exact rfl
          apply seq_plain; exact do_move rfl; exact rfl
          refine seq_gsplit rfl rfl (fun u3 => ?_) (fun u3 => ?_)
          · have u3 : decide (a1 < a0) = true := u3
            have e : T = true := by rw [hT, u0, u1, u2, u3]; rfl
            rw [e]
            apply seq_passed (hd := rfl) (hl := rfl) (hb := rfl); exact rfl
            apply seq_passed (hd := rfl) (hl := rfl) (hb := rfl); exact rfl
            apply seq_passed (hd := rfl) (hl := rfl) (hb := rfl); exact rfl
            apply seq_passed (hd := rfl) (hl := rfl) (hb := rfl); exact rfl
            apply seq_passed (hd := rfl) (hl := rfl) (hb := rfl); exact rfl
            apply seq_plain; exact do_pick_t rfl rfl; exact rfl
            apply seq_plain; exact do_move rfl; exact rfl
            apply seq_passed (hd := rfl) (hl := rfl) (hb := rfl); exact rfl
            apply seq_passed (hd := rfl) (hl := rfl) (hb := rfl); exact rfl
            apply seq_passed (hd := rfl) (hl := rfl) (hb := rfl); exact rfl
            apply seq_plain; exact do_pick_t rfl rfl; exact rfl
            apply seq_plain; exact do_move rfl; exact rfl
            apply seq_passed (hd := rfl) (hl := rfl) (hb := rfl); exact rfl
            apply seq_passed (hd := rfl) (hl := rfl) (hb := rfl); exact rfl
            apply seq_plain; exact do_pick_t rfl rfl; exact rfl
            apply seq_plain; exact do_move rfl; exact rfl
            apply seq_passed (hd := rfl) (hl := rfl) (hb := rfl); exact rfl
            apply seq_passed (hd := rfl) (hl := rfl) (hb := rfl); exact rfl
            apply seq_plain; exact do_pick_t rfl rfl; exact rfl
            apply seq_nil
            exact jx_of _ (by first | rfl | exact getApp rfl) (by repeat (first | exact sub_nil | apply sub_cons rfl)) rfl
          · have u3 : decide (a1 < a0) = false := u3
            apply seq_guard (hd := rfl) (hl := rfl); exact do_indexAddrA rfl rfl rfl (by exact rfl); exact rfl
            apply seq_guard (hd := rfl) (hl := rfl); exact do_load rfl (by exact ext_get_new rfl) rfl (by exact rfl); exact rfl
            apply seq_guard (hd := rfl) (hl := rfl); exact do_indexAddrA rfl rfl rfl (by exact rfl); exact rfl
            apply seq_guard (hd := rfl) (hl := rfl); exact do_load rfl (by exact ext_get_new rfl) rfl (by exact rfl); exact rfl
            apply seq_guard (hd := rfl) (hl := rfl); exact do_binInt rfl rfl rfl trivial; exact rfl
            apply seq_plain; exact do_pick_f rfl rfl; exact rfl
            apply seq_plain; exact do_move rfl; exact rfl
            refine seq_gsplit rfl rfl (fun u4 => ?_) (fun u4 => ?_)
            · have u4 : decide (a2 < a1) = true := u4
              have e : T = true := by rw [hT, u0, u1, u2, u3, u4]; rfl
              rw [e]
              apply seq_passed (hd := rfl) (hl := rfl) (hb := rfl); exact rfl
              apply seq_passed (hd := rfl) (hl := rfl) (hb := rfl); exact rfl
              apply seq_passed (hd := rfl) (hl := rfl) (hb := rfl); exact rfl
              apply seq_plain; exact do_pick_t rfl rfl; exact rfl
              apply seq_plain; exact do_move rfl; exact rfl
              apply seq_passed (hd := rfl) (hl := rfl) (hb := rfl); exact rfl
              apply seq_passed (hd := rfl) (hl := rfl) (hb := rfl); exact rfl
              apply seq_plain; exact do_pick_t rfl rfl; exact rfl
              apply seq_plain; exact do_move rfl; exact rfl
              apply seq_passed (hd := rfl) (hl := rfl) (hb := rfl); exact rfl
              apply seq_passed (hd := rfl) (hl := rfl) (hb := rfl); exact rfl
              apply seq_plain; exact do_pick_t rfl rfl; exact rfl
              apply seq_nil
              exact jx_of _ (by first | rfl | exact getApp rfl) (by repeat (first | exact sub_nil | apply sub_cons rfl)) rfl
            · have u4 : decide (a2 < a1) = false := u4
              apply seq_guard (hd := rfl) (hl := rfl); exact do_indexAddrA rfl rfl rfl (by exact rfl); exact rfl
              apply seq_guard (hd := rfl) (hl := rfl); exact do_load rfl (by exact ext_get_new rfl) rfl (by exact rfl); exact rfl
              apply seq_guard (hd := rfl) (hl := rfl); exact do_binInt rfl rfl rfl trivial; exact rfl
              apply seq_plain; exact do_pick_f rfl rfl; exact rfl
              apply seq_plain; exact do_move rfl; exact rfl
              refine seq_gsplit rfl rfl (fun u5 => ?_) (fun u5 => ?_)
              · have u5 : decide (a2 > 2000) = true := u5
                have e : T = true := by rw [hT, u0, u1, u2, u3, u4, u5]; rfl
                rw [e]
                apply seq_passed (hd := rfl) (hl := rfl) (hb := rfl); exact rfl
                apply seq_passed (hd := rfl) (hl := rfl) (hb := rfl); exact rfl
                apply seq_plain; exact do_pick_t rfl rfl; exact rfl
                apply seq_plain; exact do_move rfl; exact rfl
                apply seq_passed (hd := rfl) (hl := rfl) (hb := rfl); exact rfl
                apply seq_passed (hd := rfl) (hl := rfl) (hb := rfl); exact rfl
                apply seq_plain; exact do_pick_t rfl rfl; exact rfl
                apply seq_nil
                exact jx_of _ (by first | rfl | exact getApp rfl) (by repeat (first | exact sub_nil | apply sub_cons rfl)) rfl
              · have u5 : decide (a2 > 2000) = false := u5
                apply seq_guard (hd := rfl) (hl := rfl); exact do_move rfl; exact rfl
                apply seq_guard (hd := rfl) (hl := rfl); exact do_binInt rfl rfl rfl trivial; exact rfl
                apply seq_plain; exact do_pick_f rfl rfl; exact rfl
                apply seq_plain; exact do_move rfl; exact rfl
                refine seq_gsplit rfl rfl (fun u6 => ?_) (fun u6 => ?_)
                · have u6 : decide (n < 1) = true := u6
                  have e : T = true := by rw [hT, u0, u1, u2, u3, u4, u5, u6]; rfl
                  rw [e]
                  apply seq_passed (hd := rfl) (hl := rfl) (hb := rfl); exact rfl
                  apply seq_passed (hd := rfl) (hl := rfl) (hb := rfl); exact rfl
                  apply seq_plain; exact do_pick_t rfl rfl; exact rfl
                  apply seq_nil
                  exact jx_of _ (by first | rfl | exact getApp rfl) (by repeat (first | exact sub_nil | apply sub_cons rfl)) rfl
                · have u6 : decide (n < 1) = false := u6
                  apply seq_guard (hd := rfl) (hl := rfl); exact do_move rfl; exact rfl
                  apply seq_guard (hd := rfl) (hl := rfl); exact do_binInt rfl rfl rfl trivial; exact rfl
                  apply seq_plain; exact do_pick_f rfl rfl; exact rfl
                  apply seq_nil
                  have e : T = decide (n > 16) := by rw [hT, u0, u1, u2, u3, u4, u5, u6]; rfl
                  rw [e]
                  exact jx_of _ (by first | rfl | exact getApp rfl) (by repeat (first | exact sub_nil | apply sub_cons rfl)) rfl
  intro L hL0
  refine ct_cond rfl (fun h1 => ?_) (fun h1 => ?_)
  · apply ct_seq
    apply ct_region
    apply seq_call (ht := rfl); exact haw _ (ext_Ext hc); exact rfl
    apply seq_plain; exact do_assign rfl; exact rfl
    apply seq_nil
    apply ct_ret
    exact fin_flat hc rfl rfl ⟨rfl, rfl⟩
  have hn : l.length ≤ 100 ∧ ratesE l = 0 ∧ 0 ≤ a0 ∧ a0 ≤ a1 ∧ a1 ≤ a2 ∧ a2 ≤ 2000 ∧ 1 ≤ n ∧ n ≤ 16 := by
    rw [h1] at hT
    have hT := hT.symm
    simp only [Bool.or_eq_false_iff, decide_eq_false_iff_not, bne_eq_false_iff_eq] at hT
    omega
  apply ct_skip
  refine ct_to (l' := [(0, .slice q l.length c), (2, I n), (4, .pointer (some ⟨nb H 0, 0, none⟩))]) (by repeat (first | exact sub_nil | apply sub_cons rfl)) (.refl _) ?_
  clear hT h1 T
  obtain ⟨n1, n2, n3, n4, n5, n6, n7, n8⟩ := hn
  obtain ⟨a0, rfl⟩ := Int.eq_ofNat_of_zero_le n3
  obtain ⟨a1, rfl⟩ := Int.eq_ofNat_of_zero_le (by omega : 0 ≤ a1)
  obtain ⟨a2, rfl⟩ := Int.eq_ofNat_of_zero_le (by omega : 0 ≤ a2)
  obtain ⟨n, rfl⟩ := Int.eq_ofNat_of_zero_le (by omega : 0 ≤ n)
  have hr := rates_ok n2
  have sp : ∀ a b : Nat, a ≤ b → b ≤ 2100 → spanE l a b = 0 := fun a b hab hb => by
    unfold spanE
    have x1 : outL (a : Int) 0 99999 = false := by simp [outL]; omega
    have x2 : outL (b : Int) 0 99999 = false := by simp [outL]; omega
    have x3 : decide ((b : Int) < (a : Int)) = false := decide_eq_false (by omega)
    rw [n2, x1, x2, x3]; rfl
  have pb : ∀ a b : Nat, a ≤ b → b ≤ 2100 → 0 ≤ priceP l a b ∧ priceP l a b ≤ 210000000 := fun a b hab hb => by
    have := priceP_bd hr hab
    omega
  have cP : ∀ (a b : Nat) (M : List (Option ABlk)), a ≤ b → b ≤ 2100 → Ret Tryz.prog 52 [.slice q l.length c, I (a : Int), I (b : Int)] (ext H H.fresh M) (.tuple ⟨[I (priceP l a b), I 0]⟩) (ext H H.fresh M) := fun a b M hab hb => by
    have := Price_c (c := c) (a := (a : Int)) (b := (b : Int)) (hs.ext (ext_Ext hc (lo := H.fresh) (L := M))) hlow (by omega)
    have hz : ¬ spanE l (a : Int) (b : Int) ≠ 0 := by rw [sp a b hab hb]; simp
    have hy := (pb a b hab hb).2
    have hx : ¬ priceP l a b > 999999999 := by omega
    simp only [priceV, priceE, if_neg hz, Int.toNat_natCast, if_neg hx] at this
    exact this
  have cQ : ∀ (M : List (Option ABlk)), Ret Tryz.prog 53 [.slice q l.length c, I (a0 : Int), I (a2 : Int), I (n : Int)] (ext H H.fresh M) (.tuple ⟨[.slice (some ⟨nb H M.length, 0, none⟩) n n, I 0]⟩) (ext H H.fresh (M ++ [some (.cells ((sharesP (priceP l a0 a2).toNat n).map I) 1 false false)])) := fun M => by
    have hy := (pb a0 a2 (by omega) (by omega)).2
    have := split_c (c := c) (hs.ext (ext_Ext hc (lo := H.fresh) (L := M))) hlow (by omega) (sp a0 a2 (by omega) (by omega)) (show 1 ≤ n by omega) (by omega) (by omega)
    rwa [ext_add, ext_fresh] at this
  have ca0 : (a0 : Int) + 96 = ((a0 + 96 : Nat) : Int) := by omega
  have ca1 : (a1 : Int) + 96 = ((a1 + 96 : Nat) : Int) := by omega
  have ca2 : (a2 : Int) + 1 = ((a2 + 1 : Nat) : Int) := by omega
  have q1 := pb a0 a1 (by omega) (by omega)
  have q2 := pb a1 a2 (by omega) (by omega)
  apply ct_seq
  apply ct_region
  apply seq_plain; exact do_move rfl; exact rfl
  apply seq_plain; exact do_indexAddrA rfl rfl rfl (by exact rfl); exact rfl
  apply seq_plain; exact do_load rfl (by exact ext_get_new (by assumption)) rfl (by exact rfl); exact rfl
  apply seq_plain; exact do_indexAddrA rfl rfl rfl (by exact rfl); exact rfl
  apply seq_plain; exact do_load rfl (by exact ext_get_new (by assumption)) rfl (by exact rfl); exact rfl
  apply seq_call (ht := rfl); exact cP a0 a1 _ (by omega) (by omega); exact rfl
  apply seq_plain; exact do_move rfl; exact rfl
  apply seq_plain; exact do_extract rfl rfl; exact rfl
  apply seq_plain; exact do_extract rfl rfl; exact rfl
  apply seq_plain; exact do_assign rfl; exact rfl
  apply seq_plain; exact do_assign rfl; exact rfl
  apply seq_nil
  apply ct_seq
  apply ct_region
  apply seq_plain; exact do_move rfl; exact rfl
  apply seq_plain; exact do_indexAddrA rfl rfl rfl (by exact rfl); exact rfl
  apply seq_plain; exact do_load rfl (by exact ext_get_new (by assumption)) rfl (by exact rfl); exact rfl
  apply seq_plain; exact do_indexAddrA rfl rfl rfl (by exact rfl); exact rfl
  apply seq_plain; exact do_load rfl (by exact ext_get_new (by assumption)) rfl (by exact rfl); exact rfl
  apply seq_call (ht := rfl); exact cP a1 a2 _ (by omega) (by omega); exact rfl
  apply seq_plain; exact do_move rfl; exact rfl
  apply seq_plain; exact do_extract rfl rfl; exact rfl
  apply seq_plain; exact do_extract rfl rfl; exact rfl
  apply seq_plain; exact do_assign rfl; exact rfl
  apply seq_plain; exact do_assign rfl; exact rfl
  apply seq_nil
  apply ct_seq
  apply ct_region
  apply seq_plain; exact do_move rfl; exact rfl
  apply seq_plain; exact do_indexAddrA rfl rfl rfl (by exact rfl); exact rfl
  apply seq_plain; exact do_load rfl (by exact ext_get_new (by assumption)) rfl (by exact rfl); exact rfl
  apply seq_plain; exact do_indexAddrA rfl rfl rfl (by exact rfl); exact rfl
  apply seq_plain; exact do_load rfl (by exact ext_get_new (by assumption)) rfl (by exact rfl); exact rfl
  apply seq_call (ht := rfl); exact cP a0 a2 _ (by omega) (by omega); exact rfl
  apply seq_plain; exact do_move rfl; exact rfl
  apply seq_plain; exact do_extract rfl rfl; exact rfl
  apply seq_plain; exact do_extract rfl rfl; exact rfl
  apply seq_plain; exact do_assign rfl; exact rfl
  apply seq_plain; exact do_assign rfl; exact rfl
  apply seq_nil
  apply ct_seq
  apply ct_region
  apply seq_plain; exact do_move rfl; exact rfl
  apply seq_plain; exact do_indexAddrA rfl rfl rfl (by exact rfl); exact rfl
  apply seq_plain; exact do_load rfl (by exact ext_get_new (by assumption)) rfl (by exact rfl); exact rfl
  apply seq_plain; exact do_indexAddrA rfl rfl rfl (by exact rfl); exact rfl
  apply seq_plain; exact do_load rfl (by exact ext_get_new (by assumption)) rfl (by exact rfl); exact rfl
  apply seq_plain; exact do_add rfl rfl (by omega); exact rfl
  rw [ca0]
  apply seq_call (ht := rfl); exact cP a0 (a0 + 96) _ (by omega) (by omega); exact rfl
  apply seq_plain; exact do_move rfl; exact rfl
  apply seq_plain; exact do_extract rfl rfl; exact rfl
  apply seq_plain; exact do_extract rfl rfl; exact rfl
  apply seq_plain; exact do_assign rfl; exact rfl
  apply seq_plain; exact do_assign rfl; exact rfl
  apply seq_nil
  apply ct_seq
  apply ct_region
  apply seq_plain; exact do_move rfl; exact rfl
  apply seq_plain; exact do_indexAddrA rfl rfl rfl (by exact rfl); exact rfl
  apply seq_plain; exact do_load rfl (by exact ext_get_new (by assumption)) rfl (by exact rfl); exact rfl
  apply seq_plain; exact do_indexAddrA rfl rfl rfl (by exact rfl); exact rfl
  apply seq_plain; exact do_load rfl (by exact ext_get_new (by assumption)) rfl (by exact rfl); exact rfl
  apply seq_plain; exact do_add rfl rfl (by omega); exact rfl
  rw [ca1]
  apply seq_call (ht := rfl); exact cP a1 (a1 + 96) _ (by omega) (by omega); exact rfl
  apply seq_plain; exact do_move rfl; exact rfl
  apply seq_plain; exact do_extract rfl rfl; exact rfl
  apply seq_plain; exact do_extract rfl rfl; exact rfl
  apply seq_plain; exact do_assign rfl; exact rfl
  apply seq_plain; exact do_assign rfl; exact rfl
  apply seq_nil
  apply ct_seq
  apply ct_region
  apply seq_plain; exact do_move rfl; exact rfl
  apply seq_plain; exact do_indexAddrA rfl rfl rfl (by exact rfl); exact rfl
  apply seq_plain; exact do_load rfl (by exact ext_get_new (by assumption)) rfl (by exact rfl); exact rfl
  apply seq_plain; exact do_indexAddrA rfl rfl rfl (by exact rfl); exact rfl
  apply seq_plain; exact do_load rfl (by exact ext_get_new (by assumption)) rfl (by exact rfl); exact rfl
  apply seq_plain; exact do_succ rfl (by omega); exact rfl
  apply seq_call (ht := rfl); exact cP a2 (a2 + 1) _ (by omega) (by omega); exact rfl
  apply seq_plain; exact do_move rfl; exact rfl
  apply seq_plain; exact do_extract rfl rfl; exact rfl
  apply seq_plain; exact do_extract rfl rfl; exact rfl
  apply seq_plain; exact do_assign rfl; exact rfl
  apply seq_plain; exact do_assign rfl; exact rfl
  apply seq_nil
  apply ct_seq
  apply ct_region
  apply seq_plain; exact do_move rfl; exact rfl
  apply seq_plain; exact do_indexAddrA rfl rfl rfl (by exact rfl); exact rfl
  apply seq_plain; exact do_load rfl (by exact ext_get_new (by assumption)) rfl (by exact rfl); exact rfl
  apply seq_plain; exact do_indexAddrA rfl rfl rfl (by exact rfl); exact rfl
  apply seq_plain; exact do_load rfl (by exact ext_get_new (by assumption)) rfl (by exact rfl); exact rfl
  apply seq_plain; exact do_move rfl; exact rfl
  apply seq_call (ht := rfl); exact cQ _; exact rfl
  have x1 : (priceP l a0 a1 + priceP l a1 a2 != priceP l a0 a2) = false := by rw [bne_eq_false_iff_eq]; exact priceP_add a0 a1 a2
  have x2 : (priceP l a0 (a0 + 96) != priceP l a1 (a1 + 96)) = false := by rw [bne_eq_false_iff_eq]; exact priceP_day hr a0 a1
  have x3 : ((n : Int) != (n : Int)) = false := by simp
  apply seq_plain; exact do_move rfl; exact rfl
  apply seq_plain; exact do_extract rfl rfl; exact rfl
  apply seq_plain; exact do_extract rfl rfl; exact rfl
  apply seq_plain; exact do_assign rfl; exact rfl
  apply seq_plain; exact do_assign rfl; exact rfl
  apply seq_nil
  apply ct_seq
  apply ct_seq
  apply ct_region
  apply seq_plain; exact do_move rfl; exact rfl
  apply seq_plain; exact do_move rfl; exact rfl
  apply seq_plain; exact do_add rfl rfl (by omega); exact rfl
  apply seq_plain; exact do_move rfl; exact rfl
  apply seq_plain; exact do_add rfl rfl (by omega); exact rfl
  apply seq_plain; exact do_move rfl; exact rfl
  apply seq_plain; exact do_add rfl rfl (by omega); exact rfl
  apply seq_plain; exact do_move rfl; exact rfl
  apply seq_plain; exact do_add rfl rfl (by omega); exact rfl
  apply seq_plain; exact do_move rfl; exact rfl
  apply seq_plain; exact do_add rfl rfl (by omega); exact rfl
  apply seq_plain; exact do_move rfl; exact rfl
  apply seq_plain; exact do_add rfl rfl (by omega); exact rfl
  apply seq_plain; exact do_binInt rfl rfl rfl trivial; exact rfl
  apply seq_plain; exact do_move rfl; exact rfl
  apply seq_guard (hd := rfl) (hl := rfl); exact do_move rfl; exact rfl
  apply seq_guard (hd := rfl) (hl := rfl); exact do_move rfl; exact rfl
  apply seq_guard (hd := rfl) (hl := rfl); exact do_add rfl rfl (by omega); exact rfl
  apply seq_guard (hd := rfl) (hl := rfl); exact do_move rfl; exact rfl
  apply seq_guard (hd := rfl) (hl := rfl); exact do_binInt rfl rfl rfl trivial; exact rfl
  apply seq_plain; exact do_pick_f rfl rfl; exact rfl
  apply seq_plain; exact do_move rfl; exact rfl
  rw [x1]
  apply seq_guard (hd := rfl) (hl := rfl); exact do_move rfl; exact rfl
  apply seq_guard (hd := rfl) (hl := rfl); exact do_move rfl; exact rfl
  apply seq_guard (hd := rfl) (hl := rfl); exact do_binInt rfl rfl rfl trivial; exact rfl
  apply seq_plain; exact do_pick_f rfl rfl; exact rfl
  apply seq_plain; exact do_move rfl; exact rfl
  rw [x2]
  apply seq_guard (hd := rfl) (hl := rfl); exact do_move rfl; exact rfl
  apply seq_guard (hd := rfl) (hl := rfl); exact do_lenS rfl rfl rfl; exact rfl
  apply seq_guard (hd := rfl) (hl := rfl); exact do_move rfl; exact rfl
  apply seq_guard (hd := rfl) (hl := rfl); exact do_binInt rfl rfl rfl trivial; exact rfl
  apply seq_plain; exact do_pick_f rfl rfl; exact rfl
  apply seq_nil
  rw [x3]
  refine ct_cond_f rfl rfl ?_
  obtain ⟨S, hS⟩ : ∃ S, S = sharesP (priceP l a0 a2).toNat n := ⟨_, rfl⟩
  have hSl : S.length = n := by rw [hS]; exact sharesP_len
  rw [← hS]
  apply ct_skip
  apply ct_seq
  apply ct_seq
  apply ct_region
  apply seq_plain; exact do_move rfl; exact rfl
  apply seq_plain; exact do_lenS rfl rfl rfl; exact rfl
  apply seq_plain; exact do_move rfl; exact rfl
  apply seq_nil
  apply ct_block
  apply ct_loop
  refine lt_meas (α := Nat × List (Option ABlk)) (fun a => [(4, .pointer (some ⟨nb H 0, 0, none⟩)), (11, I (priceP l a0 a2)), (17, I (priceP l a2 (a2 + 1))), (19, .slice (some ⟨nb H L.length, 0, none⟩) n n), (171, .slice q l.length c), (172, I l.length), (173, I a.1)]) (fun a => ext H H.fresh a.2)
    (fun a => a.1 ≤ l.length ∧ a.2[0]? = some (some (.cells [I a0, I a1, I a2] 0 false false)) ∧ a.2[L.length]? = some (some (.cells (S.map I) 1 false false))) (fun a => l.length - a.1) (fun a ha ih => ?_) (0, L ++ [some (.cells (S.map I) 1 false false)]) ⟨by simp, getApp hL0, List.getElem?_concat_length⟩ (by repeat (first | exact sub_nil | apply sub_cons rfl)) (.refl _)
  obtain ⟨i, M⟩ := a
  obtain ⟨hi, f0, fS⟩ := ha
  simp only at hi f0 fS ih ⊢
  have ih' := fun i' L' a1 a2 a3 a4 => ih (i', L') a1 ⟨a2, a3, a4⟩
  simp only at ih'
  clear ih x1 x2 x3 cP cQ ca0 ca1 ca2 sp
  apply ct_seq
  apply ct_region
  apply seq_plain; exact do_binInt rfl rfl rfl trivial; exact rfl
  apply seq_nil
  apply ct_seq
  refine ct_cond rfl (fun g1 => ?_) (fun g1 => ?_)
  · simp only [decide_eq_true_eq, Int.ofNat_lt] at g1
    obtain ⟨b, o, cs, z, s, ro, rfl, hg, hw⟩ := hs.out (by intro e; rw [e] at g1; simp at g1)
    apply ct_skip
    apply ct_seq
    apply ct_block
    apply ct_seq
    apply ct_region
    apply seq_plain; exact do_indexAddrS rfl rfl rfl (by exact idx_nat (by omega)); exact rfl
    apply seq_plain; exact do_load rfl (by exact ext_get_old (by assumption) (by assumption)) rfl (by exact pt_sl (by assumption) (by omega)); exact rfl
    apply seq_newP; exact do_alloc rfl rfl; exact rfl
    apply seq_putC (hc := by assumption); rotate_left; exact do_store rfl rfl (by exact ext_get_new List.getElem?_concat_length) rfl rfl (nb_own _); rotate_left; exact (by simp)
    apply ct_seq
    apply ct_region
    apply seq_plain; exact do_indexAddrA rfl rfl rfl (by exact rfl); exact rfl
    rw [set_mid rfl]
    apply seq_plain; exact do_load rfl (by exact ext_get_new (getApp (by assumption))) rfl (by exact rfl); exact rfl
    apply seq_plain; exact do_remN rfl rfl (by decide); exact rfl
    apply seq_plain; exact do_assign rfl; exact rfl
    apply seq_nil
    apply ct_seq
    apply ct_region
    apply seq_plain; exact do_fieldAddr rfl rfl; exact rfl
    apply seq_plain; exact do_load rfl (by exact ext_get_new List.getElem?_concat_length) rfl (by exact rfl); exact rfl
    apply seq_plain; exact do_move rfl; exact rfl
    apply seq_plain; exact do_binInt rfl rfl rfl trivial; exact rfl
    apply seq_plain; exact do_move rfl; exact rfl
    refine seq_J [(4, .pointer (some ⟨nb H 0, 0, none⟩)), (11, I (priceP l a0 a2)), (17, I (priceP l a2 (a2 + 1))), (19, .slice (some ⟨nb H L.length, 0, none⟩) n n), (171, .slice (some ⟨b, o, none⟩) l.length c), (172, I l.length), (173, I i), (195, .bool false)] (ds := []) (h := ext H H.fresh (M ++ [some (.cells [I l[i].frm, I l[i].to, I l[i].price] 0 false false)])) ?_ ?_
    · refine seq_gsplit rfl rfl (fun u => ?_) (fun u => ?_)
      · have u : decide (l[i].frm ≤ ((a2 % 96 : Nat) : Int)) = true := u
        rw [u]
        apply seq_guard (hd := rfl) (hl := rfl); exact do_move rfl; exact rfl
        apply seq_guard (hd := rfl) (hl := rfl); exact do_fieldAddr rfl rfl; exact rfl
        apply seq_guard (hd := rfl) (hl := rfl); exact do_load rfl (by exact ext_get_new List.getElem?_concat_length) rfl (by exact rfl); exact rfl
        apply seq_guard (hd := rfl) (hl := rfl); exact do_binInt rfl rfl rfl trivial; exact rfl
        apply seq_plain; exact do_pick_t rfl rfl; exact rfl
        apply seq_plain; exact do_move rfl; exact rfl
        refine seq_gsplit rfl rfl (fun u2 => ?_) (fun u2 => ?_)
        · have u2 : decide (((a2 % 96 : Nat) : Int) < l[i].to) = true := u2
          have x4 : (priceP l a2 (a2 + 1) != l[i].price) = false := by
            rw [bne_eq_false_iff_eq]
            exact priceP_one hr (List.getElem_mem g1) (of_decide_eq_true u) (of_decide_eq_true u2)
          rw [u2]
          apply seq_guard (hd := rfl) (hl := rfl); exact do_move rfl; exact rfl
          apply seq_guard (hd := rfl) (hl := rfl); exact do_fieldAddr rfl rfl; exact rfl
          apply seq_guard (hd := rfl) (hl := rfl); exact do_load rfl (by exact ext_get_new List.getElem?_concat_length) rfl (by exact rfl); exact rfl
          apply seq_guard (hd := rfl) (hl := rfl); exact do_binInt rfl rfl rfl trivial; exact rfl
          apply seq_plain; exact do_pick_t rfl rfl; exact rfl
          apply seq_nil
          rw [x4]
          skip
          exact jp_of (by repeat (first | exact sub_nil | apply sub_cons rfl))
        · have u2 : decide (((a2 % 96 : Nat) : Int) < l[i].to) = false := u2
          rw [u2]
          apply seq_passed (hd := rfl) (hl := rfl) (hb := rfl); exact rfl
          apply seq_passed (hd := rfl) (hl := rfl) (hb := rfl); exact rfl
          apply seq_passed (hd := rfl) (hl := rfl) (hb := rfl); exact rfl
          apply seq_passed (hd := rfl) (hl := rfl) (hb := rfl); exact rfl
          apply seq_plain; exact do_pick_f rfl rfl; exact rfl
          apply seq_nil
          exact jp_of (by repeat (first | exact sub_nil | apply sub_cons rfl))
      · have u : decide (l[i].frm ≤ ((a2 % 96 : Nat) : Int)) = false := u
        rw [u]
        apply seq_passed (hd := rfl) (hl := rfl) (hb := rfl); exact rfl
        apply seq_passed (hd := rfl) (hl := rfl) (hb := rfl); exact rfl
        apply seq_passed (hd := rfl) (hl := rfl) (hb := rfl); exact rfl
        apply seq_passed (hd := rfl) (hl := rfl) (hb := rfl); exact rfl
        apply seq_plain; exact do_pick_f rfl rfl; exact rfl
        apply seq_plain; exact do_move rfl; exact rfl
        apply seq_passed (hd := rfl) (hl := rfl) (hb := rfl); exact rfl
        apply seq_passed (hd := rfl) (hl := rfl) (hb := rfl); exact rfl
        apply seq_passed (hd := rfl) (hl := rfl) (hb := rfl); exact rfl
        apply seq_passed (hd := rfl) (hl := rfl) (hb := rfl); exact rfl
        apply seq_plain; exact do_pick_f rfl rfl; exact rfl
        apply seq_nil
        exact jp_of (by repeat (first | exact sub_nil | apply sub_cons rfl))
    refine ct_cond_f rfl rfl ?_
    apply ct_skip
    apply ct_region
    apply seq_plain; exact do_succ rfl (by omega); exact rfl
    apply seq_plain; exact do_move rfl; exact rfl
    apply seq_nil
    exact lt_to (by repeat (first | exact sub_nil | apply sub_cons rfl)) (.refl _) (ih' (i + 1) _ (by omega) (by omega) (getApp f0) (getApp fS))
  have g1 : l.length = i := by simp only [decide_eq_false_iff_not] at g1; omega
  clear ih'
  apply ct_exit
  apply exit_eq; exact rfl
  apply ct_seq
  apply ct_region
  apply seq_plain; exact do_assign rfl; exact rfl
  apply seq_nil
  apply ct_seq
  apply ct_seq
  apply ct_region
  apply seq_plain; exact do_move rfl; exact rfl
  apply seq_plain; exact do_lenS rfl rfl rfl; exact rfl
  apply seq_plain; exact do_move rfl; exact rfl
  apply seq_nil
  apply ct_block
  apply ct_loop
  have hSi : ∀ k (h : k < S.length), S[k] = shareP (priceP l a0 a2).toNat n k := fun k h => by simp only [hS, sharesP, List.getElem_map, List.getElem_range]
  have pb2 := pb a0 a2 (by omega) (by omega)
  have hdv : (priceP l a0 a2).toNat / n ≤ (priceP l a0 a2).toNat := Nat.div_le_self ..
  have hSb : ∀ k (h : k < S.length), 0 ≤ S[k] ∧ S[k] ≤ 210000001 := fun k h => by
    rw [hSi k h]
    unfold shareP
    generalize (priceP l a0 a2).toNat / n = W at hdv ⊢
    split <;> omega
  have hsum : S.sum = priceP l a0 a2 := by
    rw [hS, shares_sum (by omega), Int.toNat_of_nonneg pb2.1]
  have hsn : ∀ k (h : k < S.length), (S.take (k + 1)).sum = (S.take k).sum + S[k] := fun k h => by
    rw [take_snoc h, List.sum_append]; simp
  have hsb : ∀ k, k ≤ S.length → 0 ≤ (S.take k).sum ∧ (S.take k).sum ≤ 210000001 * (k : Int) := by
    intro k
    induction k with
    | zero => intro _; simp
    | succ k ihk =>
      intro h
      have a := ihk (by omega)
      have b := hSb k (by omega)
      rw [hsn k (by omega)]
      omega
  refine lt_up (fun k => [(11, I (priceP l a0 a2)), (19, .slice (some ⟨nb H L.length, 0, none⟩) n n), (24, I (S.take k).sum), (198, I n), (199, I k)]) (fun _ => True) n (fun k hk _ ih => ?_) 0 (by omega) trivial (by repeat (first | exact sub_nil | apply sub_cons rfl))
  apply ct_seq
  apply ct_region
  apply seq_plain; exact do_binInt rfl rfl rfl trivial; exact rfl
  apply seq_nil
  apply ct_seq
  refine ct_cond rfl (fun g2 => ?_) (fun g2 => ?_)
  · simp only [decide_eq_true_eq, Int.ofNat_lt] at g2
    have hkS : k < S.length := by omega
    have hm : (max 0 ((k : Int) - 1)).toNat < S.length := by omega
    have e1 : decide (S[k] > S[(max 0 ((k : Int) - 1)).toNat]) = false := by
      refine decide_eq_false ?_
      rw [hSi, hSi]
      unfold shareP
      split <;> split <;> omega
    have e2 : decide (S[(0 : Int).toNat]'(by simpa using (by omega : 0 < S.length)) - S[k] > 1) = false := by
      refine decide_eq_false ?_
      rw [hSi, hSi]
      unfold shareP
      split <;> split <;> omega
    have b1 := hSb k hkS
    have b2 := hSb 0 (by omega)
    have b2' : 0 ≤ S[(0 : Int).toNat]'(by simpa using (by omega : 0 < S.length)) ∧ S[(0 : Int).toNat]'(by simpa using (by omega : 0 < S.length)) ≤ 210000001 := b2
    have b3 := hsb k (by omega)
    have e3 := hsn k hkS
    apply ct_skip
    apply ct_seq
    apply ct_block
    apply ct_seq
    apply ct_region
    apply seq_plain; exact do_move rfl; exact rfl
    apply seq_plain; exact do_assign rfl; exact rfl
    apply seq_nil
    apply ct_seq
    apply ct_seq
    apply ct_draw (by assumption); decide +kernel
    apply sd_plain (hfree := rfl); intro _; exact do_move rfl; exact rfl
    apply sd_plain (hfree := rfl); intro _; exact do_move rfl; exact rfl
    apply sd_plain (hfree := rfl); intro _; exact do_indexAddrS rfl rfl rfl (by exact idx_nat (by omega)); exact rfl
    apply sd_look (hfree := rfl); exact do_load rfl (by exact ext_get_new (getApp (by assumption))) rfl (by exact pt_map (by omega)); exact rfl
    apply sd_plain (hfree := rfl); intro _; exact do_move rfl; exact rfl
    apply sd_plain (hfree := rfl); intro _; exact do_move rfl; exact rfl
    apply sd_plain (hfree := rfl); intro _; exact do_sub rfl rfl (by omega); exact rfl
    apply sd_look (hfree := rfl); exact do_max rfl; exact rfl
    apply sd_plain (hfree := rfl); intro _; exact do_indexAddrS rfl rfl rfl (by exact idx_int (by omega)); exact rfl
    apply sd_look (hfree := rfl); exact do_load rfl (by exact ext_get_new (getApp (by assumption))) rfl (by exact pt_map (by omega)); exact rfl
    apply sd_plain (hfree := rfl); intro _; exact do_binInt rfl rfl rfl trivial; exact rfl
    apply sd_plain (hfree := rfl); intro _; exact do_move rfl; exact rfl
    rw [e1]
    apply sd_guard (hfree := rfl) (hg := rfl) (hl := rfl); intro _; exact do_move rfl; exact rfl
    apply sd_guard (hfree := rfl) (hg := rfl) (hl := rfl); intro _; exact do_indexAddrS rfl rfl rfl (by exact idx_int (by omega)); exact rfl
    apply sd_guardL (hfree := rfl) (hg := rfl) (hl := rfl); exact do_load rfl (by exact ext_get_new (getApp (by assumption))) rfl (by exact pt_map (by omega)); exact rfl
    apply sd_guard (hfree := rfl) (hg := rfl) (hl := rfl); intro _; exact do_move rfl; exact rfl
    apply sd_guard (hfree := rfl) (hg := rfl) (hl := rfl); intro _; exact do_move rfl; exact rfl
    apply sd_guard (hfree := rfl) (hg := rfl) (hl := rfl); intro _; exact do_indexAddrS rfl rfl rfl (by exact idx_nat (by omega)); exact rfl
    apply sd_guardL (hfree := rfl) (hg := rfl) (hl := rfl); exact do_load rfl (by exact ext_get_new (getApp (by assumption))) rfl (by exact pt_map (by omega)); exact rfl
    apply sd_guard (hfree := rfl) (hg := rfl) (hl := rfl); intro _; exact do_sub rfl rfl (by omega); exact rfl
    apply sd_guard (hfree := rfl) (hg := rfl) (hl := rfl); intro _; exact do_binInt rfl rfl rfl trivial; exact rfl
    apply sd_plain (hfree := rfl); intro _; exact do_pick_f rfl rfl; exact rfl
    apply sd_nil
    rw [e2]
    skip
    refine ct_cond_f rfl rfl ?_
    apply ct_skip
    apply ct_region
    apply seq_plain; exact do_move rfl; exact rfl
    apply seq_plain; exact do_move rfl; exact rfl
    apply seq_plain; exact do_move rfl; exact rfl
    apply seq_plain; exact do_indexAddrS rfl rfl rfl (by exact idx_nat (by omega)); exact rfl
    apply seq_plain; exact do_load rfl (by exact ext_get_new (getApp (by assumption))) rfl (by exact pt_map (by omega)); exact rfl
    apply seq_plain; exact do_add rfl rfl (by omega); exact rfl
    apply seq_plain; exact do_assign rfl; exact rfl
    apply seq_nil
    apply ct_region
    apply seq_plain; exact do_succ rfl (by omega); exact rfl
    apply seq_plain; exact do_move rfl; exact rfl
    apply seq_nil
    simp only [List.map_nil, List.append_nil]
    refine lt_sub ?_ (ih (k + 1) (by omega) (by omega) trivial)
    rw [e3]
    (repeat (first | exact sub_nil | apply sub_cons rfl))
  have g2 : n = k := by simp only [decide_eq_false_iff_not] at g2; omega
  subst g2
  rw [List.take_of_length_le (by omega), hsum]
  apply ct_exit
  apply exit_eq; exact rfl
  apply ct_seq
  apply ct_region
  apply seq_plain; exact do_move rfl; exact rfl
  apply seq_plain; exact do_move rfl; exact rfl
  apply seq_plain; exact do_binInt rfl rfl rfl trivial; exact rfl
  apply seq_plain; exact do_assign rfl; exact rfl
  apply seq_nil
  apply ct_ret
  refine fin_flat hc rfl rfl ⟨?_, rfl⟩
  simp [packA]
end Go.Proofs.YtfegloadbajbhaaGreatDoor
