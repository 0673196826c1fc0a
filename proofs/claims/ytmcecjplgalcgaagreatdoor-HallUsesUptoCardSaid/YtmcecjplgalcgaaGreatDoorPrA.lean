/- Contracts: names, lists of words. -/
import Derived.Test.YtmcecjplgalcgaaGreatDoorPrL
noncomputable section
namespace Go.Proofs.YtmcecjplgalcgaaGreatDoor
open Go Go.Den
set_option maxRecDepth 100000
abbrev s1 (x : ByteArray) : List Value := [.string x]
theorem isLetter_c {H : AHeap} {c : Int} : Ret Tryz.prog 153 [.int .i32 c] H (.bool (alphaI c)) H := by
 refine fn_start Tryz.func153 rfl rfl rfl fun hc => ?_
 apply ct_seq
 apply ct_region
 apply seq_plain; exact do_assign rfl; exact rfl
 apply seq_nil
 apply ct_seq
 apply ct_region
 apply seq_plain; exact do_move rfl; exact rfl
 apply seq_plain; exact do_binInt rfl rfl rfl trivial; exact rfl
 apply seq_plain; exact do_move rfl; exact rfl
 refine seq_gsplit rfl rfl (fun u1 => ?_) (fun u1 => ?_)
 ·have u1 : decide (c ≥ 97) = true := u1
  apply seq_guard (hd := rfl) (hl := rfl); exact do_move rfl; exact rfl
  apply seq_guard (hd := rfl) (hl := rfl); exact do_binInt rfl rfl rfl trivial; exact rfl
  apply seq_plain; exact do_pick_t rfl rfl; exact rfl
  apply seq_plain; exact do_move rfl; exact rfl
  refine seq_gsplit rfl rfl (fun u2 => ?_) (fun u2 => ?_)
  ·have u2 : decide (c ≤ 122) = true := u2
   iterate 3 (apply seq_passed (hd := rfl) (hl := rfl) (hb := rfl); exact rfl)
   iterate 2 (apply seq_passedU (hd := rfl) (hl := rfl); exact rfl)
   apply seq_passed (hd := rfl) (hl := rfl) (hb := rfl); exact rfl
   apply seq_plain; exact do_pick_t rfl rfl; exact rfl
   apply seq_plain; exact do_assign rfl; exact rfl
   apply seq_nil
   apply ct_ret
   refine fin_flat hc rfl rfl ⟨?_, rfl⟩
   simp only [packA, alphaI, u1, u2]; rfl
  ·have u2 : decide (c ≤ 122) = false := u2
   have u3 : decide (c ≤ 90) = false := by simp at u2 ⊢; omega
   have u4 : alphaI c = false := by simp only [alphaI, u1, u2, u3]; simp
   apply seq_guard (hd := rfl) (hl := rfl); exact do_move rfl; exact rfl
   apply seq_guard (hd := rfl) (hl := rfl); exact do_binInt rfl rfl rfl trivial; exact rfl
   apply seq_guard (hd := rfl) (hl := rfl); exact do_move rfl; exact rfl
   refine seq_gsplit rfl rfl (fun u5 => ?_) (fun u5 => ?_)
   ·apply seq_guard (hd := rfl) (hl := rfl); exact do_move rfl; exact rfl
    apply seq_guard (hd := rfl) (hl := rfl); exact do_binInt rfl rfl rfl trivial; exact rfl
    apply seq_guard (hd := rfl) (hl := rfl); exact do_pick_t rfl rfl; exact rfl
    apply seq_plain; exact do_pick_f rfl rfl; exact rfl
    apply seq_plain; exact do_assign rfl; exact rfl
    apply seq_nil
    apply ct_ret
    refine fin_flat hc rfl rfl ⟨?_, rfl⟩
    rw [u4, u3]; rfl
   ·apply seq_passed (hd := rfl) (hl := rfl) (hb := rfl); exact rfl
    apply seq_passed (hd := rfl) (hl := rfl) (hb := rfl); exact rfl
    apply seq_guard (hd := rfl) (hl := rfl); exact do_pick_f rfl rfl; exact rfl
    apply seq_plain; exact do_pick_f rfl rfl; exact rfl
    apply seq_plain; exact do_assign rfl; exact rfl
    apply seq_nil
    apply ct_ret
    refine fin_flat hc rfl rfl ⟨?_, rfl⟩
    rw [u4]; rfl
 ·have u1 : decide (c ≥ 97) = false := u1
  iterate 2 (apply seq_passed (hd := rfl) (hl := rfl) (hb := rfl); exact rfl)
  apply seq_plain; exact do_pick_f rfl rfl; exact rfl
  apply seq_plain; exact do_move rfl; exact rfl
  apply seq_guard (hd := rfl) (hl := rfl); exact do_move rfl; exact rfl
  apply seq_guard (hd := rfl) (hl := rfl); exact do_binInt rfl rfl rfl trivial; exact rfl
  apply seq_guard (hd := rfl) (hl := rfl); exact do_move rfl; exact rfl
  refine seq_gsplit rfl rfl (fun u5 => ?_) (fun u5 => ?_)
  ·have u5 : decide (c ≥ 65) = true := u5
   apply seq_guard (hd := rfl) (hl := rfl); exact do_move rfl; exact rfl
   apply seq_guard (hd := rfl) (hl := rfl); exact do_binInt rfl rfl rfl trivial; exact rfl
   apply seq_guard (hd := rfl) (hl := rfl); exact do_pick_t rfl rfl; exact rfl
   apply seq_plain; exact do_pick_f rfl rfl; exact rfl
   apply seq_plain; exact do_assign rfl; exact rfl
   apply seq_nil
   apply ct_ret
   refine fin_flat hc rfl rfl ⟨?_, rfl⟩
   simp only [packA, alphaI, u1, u5]; simp
  ·have u5 : decide (c ≥ 65) = false := u5
   iterate 2 (apply seq_passed (hd := rfl) (hl := rfl) (hb := rfl); exact rfl)
   apply seq_guard (hd := rfl) (hl := rfl); exact do_pick_f rfl rfl; exact rfl
   apply seq_plain; exact do_pick_f rfl rfl; exact rfl
   apply seq_plain; exact do_assign rfl; exact rfl
   apply seq_nil
   apply ct_ret
   refine fin_flat hc rfl rfl ⟨?_, rfl⟩
   simp only [packA, alphaI, u1, u5]; simp
theorem isName_c {H : AHeap} {s : ByteArray} : Ret Tryz.prog 115 [.string s] H (.bool (nameB s)) H := by
 refine fn_start Tryz.func115 rfl rfl rfl fun hc => ?_
 apply ct_seq
 apply ct_region
 apply seq_plain; exact do_assign rfl; exact rfl
 apply seq_nil
 iterate 2 (apply ct_seq)
 apply ct_region
 apply seq_plain; exact do_move rfl; exact rfl
 apply seq_newP
 exact do_rangeStr rfl rfl
 exact rfl
 apply seq_nil
 apply ct_block
 apply ct_loop
 refine lt_meas (α := Nat) (fun _ => [(0, .string s), (6, .pointer (some ⟨nb H 0, 0, none⟩))]) (fun a => ext H H.fresh [some (.siter s a)]) (fun a => ∀ i, i < a → i < s.size → nameC i (byteI s i) = true) (fun a => s.size - a) (fun a hJ ih => ?_) 0 (by intros; omega) (by repeat (first | exact sub_nil | apply sub_cons rfl)) (.refl _)
 apply ct_seq
 apply ct_region
 by_cases ha : a < s.size
 ·apply seq_putV (k := 0) (hc := hc) (hlt := by simp)
  exact do_nextStr rfl (ext_get_new rfl) (nb_own _) ha
  exact rfl
  apply seq_plain; exact do_extract rfl rfl; exact rfl
  apply seq_nil
  apply ct_seq
  refine ct_cond_t rfl rfl ?_
  apply ct_skip
  apply ct_block
  apply ct_seq
  apply ct_region
  iterate 2 (apply seq_plain; exact do_extract rfl rfl; exact rfl)
  iterate 2 (apply seq_plain; exact do_assign rfl; exact rfl)
  apply seq_nil
  apply ct_seq
  apply ct_region
  apply seq_plain; exact do_move rfl; exact rfl
  apply seq_call (ht := rfl); exact isLetter_c; exact rfl
  apply seq_plain; exact do_unOp rfl rfl; exact rfl
  apply seq_plain; exact do_move rfl; exact rfl
  obtain ⟨r, hr⟩ : ∃ r : Int, r = (((Utf8.decode s a).1 : Nat) : Int) := ⟨_, rfl⟩
  obtain ⟨w, hw⟩ : ∃ w : Nat, w = (Utf8.decode s a).2 := ⟨_, rfl⟩
  have key : (nameC a r = true → w = 1 ∧ nameC a (byteI s a) = true) ∧ (nameC a r = false → nameC a (byteI s a) = false) := by
   obtain ⟨b, _, hb, hbi⟩ := byte_at ha
   rw [hbi]
   by_cases h128 : b.toNat < 128
   ·have := decode_ascii s a ha (by rw [hb]; exact h128)
    rw [hb] at this
    rw [hr, hw, this]
    exact ⟨fun h => ⟨rfl, h⟩, fun h => h⟩
   ·have h1 := decode_high s a ha (by rw [hb]; omega)
    have h2 : nameC a r = false := nameC_high (by rw [hr]; omega)
    exact ⟨fun h => (by rw [h2] at h; cases h), fun _ => nameC_high (by omega)⟩
  rw [← hr, ← hw]
  refine seq_J [(0, .string s), (6, .pointer (some ⟨nb H 0, 0, none⟩)), (29, .bool (!nameC a r))] (ds := []) (h := ext H H.fresh [some (.siter s (a + w))]) ?_ ?_
  ·refine seq_gsplit rfl rfl (fun u1 => ?_) (fun u1 => ?_)
   ·have u1 : alphaI r = false := by simpa using u1
    apply seq_guard (hd := rfl) (hl := rfl); exact do_move rfl; exact rfl
    apply seq_guard (hd := rfl) (hl := rfl); exact do_binInt rfl rfl rfl trivial; exact rfl
    apply seq_guard (hd := rfl) (hl := rfl); exact do_move rfl; exact rfl
    refine seq_gsplit rfl rfl (fun u2 => ?_) (fun u2 => ?_)
    ·have e : nameC a r = false := by
      have u2 : a = 0 := by simpa using u2
      simp [nameC, u1, u2]
     rw [e]
     iterate 3 (apply seq_passed (hd := rfl) (hl := rfl) (hb := rfl); exact rfl)
     iterate 6 (apply seq_passedU (hd := rfl) (hl := rfl); exact rfl)
     apply seq_passed (hd := rfl) (hl := rfl) (hb := rfl); exact rfl
     apply seq_guard (hd := rfl) (hl := rfl); exact do_pick_t rfl rfl; exact rfl
     apply seq_plain; exact do_pick_t rfl rfl; exact rfl
     apply seq_nil
     exact jp_of (by repeat (first | exact sub_nil | apply sub_cons rfl))
    ·have u2 : decide (a ≠ 0) = true := by
      have : a ≠ 0 := by simpa using u2
      exact decide_eq_true this
     apply seq_guard (hd := rfl) (hl := rfl); exact do_move rfl; exact rfl
     apply seq_guard (hd := rfl) (hl := rfl); exact do_binInt rfl rfl rfl trivial; exact rfl
     apply seq_guard (hd := rfl) (hl := rfl); exact do_move rfl; exact rfl
     refine seq_gsplit rfl rfl (fun u3 => ?_) (fun u3 => ?_)
     ·have u3 : (r == 95) = false := by simpa using u3
      apply seq_guard (hd := rfl) (hl := rfl); exact do_move rfl; exact rfl
      apply seq_guard (hd := rfl) (hl := rfl); exact do_binInt rfl rfl rfl trivial; exact rfl
      apply seq_guard (hd := rfl) (hl := rfl); exact do_move rfl; exact rfl
      refine seq_gsplit rfl rfl (fun u4 => ?_) (fun u4 => ?_)
      ·have e : nameC a r = false := by
        have u4 : decide (r ≥ 48) = false := by simp at u4 ⊢; exact u4
        simp [nameC, u1, u2, u3, u4]
       rw [e]
       iterate 2 (apply seq_passed (hd := rfl) (hl := rfl) (hb := rfl); exact rfl)
       iterate 2 (apply seq_guard (hd := rfl) (hl := rfl); exact do_pick_t rfl rfl; exact rfl)
       apply seq_guard (hd := rfl) (hl := rfl); exact do_pick_f rfl rfl; exact rfl
       apply seq_plain; exact do_pick_t rfl rfl; exact rfl
       apply seq_nil
       exact jp_of (by repeat (first | exact sub_nil | apply sub_cons rfl))
      ·have e : nameC a r = !decide (r > 57) := by
        have u4 : decide (r ≥ 48) = true := by simp at u4 ⊢; exact u4
        have u5 : decide (r ≤ 57) = !decide (r > 57) := by rw [Bool.eq_iff_iff]; simp
        rw [← u5]
        unfold nameC
        rw [u1, u2, u3, u4]; simp
       rw [e, Bool.not_not]
       apply seq_guard (hd := rfl) (hl := rfl); exact do_move rfl; exact rfl
       apply seq_guard (hd := rfl) (hl := rfl); exact do_binInt rfl rfl rfl trivial; exact rfl
       apply seq_guard (hd := rfl) (hl := rfl); exact do_pick_f rfl rfl; exact rfl
       apply seq_guard (hd := rfl) (hl := rfl); exact do_pick_t rfl rfl; exact rfl
       apply seq_guard (hd := rfl) (hl := rfl); exact do_pick_f rfl rfl; exact rfl
       apply seq_plain; exact do_pick_t rfl rfl; exact rfl
       apply seq_nil
       exact jp_of (by repeat (first | exact sub_nil | apply sub_cons rfl))
     ·have e : nameC a r = true := by
       have u3 : (r == 95) = true := by simpa using u3
       unfold nameC
       rw [u1, u2, u3]; simp
      rw [e]
      iterate 3 (apply seq_passed (hd := rfl) (hl := rfl) (hb := rfl); exact rfl)
      iterate 2 (apply seq_passedU (hd := rfl) (hl := rfl); exact rfl)
      apply seq_passed (hd := rfl) (hl := rfl) (hb := rfl); exact rfl
      iterate 2 (apply seq_guard (hd := rfl) (hl := rfl); exact do_pick_f rfl rfl; exact rfl)
      apply seq_plain; exact do_pick_t rfl rfl; exact rfl
      apply seq_nil
      exact jp_of (by repeat (first | exact sub_nil | apply sub_cons rfl))
   ·have e : nameC a r = true := by
     have u1 : alphaI r = true := by simpa using u1
     unfold nameC
     rw [u1]; rfl
    rw [e]
    iterate 3 (apply seq_passed (hd := rfl) (hl := rfl) (hb := rfl); exact rfl)
    iterate 10 (apply seq_passedU (hd := rfl) (hl := rfl); exact rfl)
    apply seq_passed (hd := rfl) (hl := rfl) (hb := rfl); exact rfl
    apply seq_plain; exact do_pick_f rfl rfl; exact rfl
    apply seq_nil
    exact jp_of (by repeat (first | exact sub_nil | apply sub_cons rfl))
  skip
  cases hn : nameC a r with
  | false =>
   refine ct_cond_t rfl rfl ?_
   apply ct_seq
   apply ct_region
   apply seq_plain; exact do_assign rfl; exact rfl
   apply seq_nil
   apply ct_ret
   refine fin_flat hc rfl rfl ⟨?_, rfl⟩
   rw [nameB_bad ha (key.2 hn)]; rfl
  | true =>
   refine ct_cond_f rfl rfl ?_
   apply ct_skip
   have k1 := key.1 hn
   refine lt_sub ?_ (ih (a + w) (by omega) fun i hi his => ?_)
   ·(repeat (first | exact sub_nil | apply sub_cons rfl))
   ·by_cases e : i = a
    ·subst e; exact k1.2
    ·exact hJ i (by omega) his
 ·apply seq_plain; exact do_nextEnd rfl (ext_get_new rfl) (nb_own _) ha; exact rfl
  apply seq_plain; exact do_extract rfl rfl; exact rfl
  apply seq_nil
  apply ct_seq
  refine ct_cond_f rfl rfl ?_
  apply ct_exit
  apply exit_eq; exact rfl
  apply ct_seq
  apply ct_region
  apply seq_plain; exact do_move rfl; exact rfl
  apply seq_plain; exact do_binStr rfl rfl rfl; exact rfl
  apply seq_plain; exact do_move rfl; exact rfl
  have hall := nameB_all (s := s) fun i hi => hJ i (by omega) hi
  refine seq_gsplit rfl rfl (fun u1 => ?_) (fun u1 => ?_)
  ·have u1 : byteL s.data.toList (⟨#[]⟩ : ByteArray).data.toList = false := by simpa using u1
   rw [bytes_eq] at u1
   have u1 := of_decide_eq_false u1
   have h1 : decide (1 ≤ s.size) = true := by
    refine decide_eq_true (Nat.pos_of_ne_zero fun e => u1 ?_)
    cases s
    rename_i d
    simp only [ByteArray.mk.injEq]
    exact Array.eq_empty_of_size_eq_zero e
   apply seq_guard (hd := rfl) (hl := rfl); exact do_move rfl; exact rfl
   apply seq_guard (hd := rfl) (hl := rfl); exact do_lenStr rfl rfl rfl; exact rfl
   apply seq_guard (hd := rfl) (hl := rfl); exact do_binInt rfl rfl rfl trivial; exact rfl
   apply seq_plain; exact do_pick_t rfl rfl; exact rfl
   apply seq_plain; exact do_assign rfl; exact rfl
   apply seq_nil
   apply ct_ret
   refine fin_flat hc rfl rfl ⟨?_, rfl⟩
   rw [hall, h1]
   simp [packA]
   omega
  ·have u1 : byteL s.data.toList (⟨#[]⟩ : ByteArray).data.toList = true := by simpa using u1
   rw [bytes_eq] at u1
   have u1 := of_decide_eq_true u1
   iterate 3 (apply seq_passed (hd := rfl) (hl := rfl) (hb := rfl); exact rfl)
   apply seq_plain; exact do_pick_f rfl rfl; exact rfl
   apply seq_plain; exact do_assign rfl; exact rfl
   apply seq_nil
   apply ct_ret
   refine fin_flat hc rfl rfl ⟨?_, rfl⟩
   rw [hall, u1]; rfl
end Go.Proofs.YtmcecjplgalcgaaGreatDoor
