/- Contracts: the reference's names, divisions that are not too large. -/
import Derived.Test.YtflbffhahoblfaaGreatDoorPrA
noncomputable section
namespace Go.Proofs.YtflbffhahoblfaaGreatDoor
open Go Go.Den
set_option maxRecDepth 100000
structure Sz where
  p : Option Addr
  c : Nat
  l : List ByteArray
def sz (x : Sz) : List Value := [.slice x.p x.l.length x.c]
structure SzAt (H : AHeap) (q : Option Addr) (d : List Sz) : Prop where
  at_ : SlAt H 1 sz q d
  each : ∀ x ∈ d, SlAt H 1 s1 x.p x.l
theorem SzAt.ext {H H' : AHeap} {q : Option Addr} {d : List Sz} (h : SzAt H q d) (hE : Ext H H') : SzAt H' q d := ⟨h.at_.ext hE, fun x hx => (h.each x hx).ext hE⟩
set_option maxHeartbeats 1000000 in
theorem refIsName_c {H : AHeap} {s : ByteArray} : Ret Tryz.prog 82 [.string s] H (.bool (nameB s)) H := by
  refine fn_start Tryz.func82 rfl rfl rfl fun hc => ?_
  apply ct_seq
  apply ct_region
  apply seq_plain; exact do_assign rfl; exact rfl
  apply seq_nil
  iterate 2 (apply ct_seq)
  apply ct_region
  apply seq_plain; exact do_move rfl; exact rfl
  apply seq_plain; exact do_lenStr rfl rfl rfl; exact rfl
  apply seq_plain; exact do_binInt rfl rfl rfl trivial; exact rfl
  apply seq_plain; exact do_move rfl; exact rfl
  refine seq_J [(0, .string s), (13, .bool (!(decide (1 ≤ s.size) && decide (s.size ≤ 24))))] (ds := []) (h := ext H H.fresh []) ?_ ?_
  · refine seq_gsplit rfl rfl (fun u1 => ?_) (fun u1 => ?_)
    · have u1 : decide ((s.size : Int) < 1) = true := u1
      have u1 : decide (1 ≤ s.size) = false := decide_eq_false (by have := of_decide_eq_true u1; omega)
      rw [u1]
      iterate 3 (apply seq_passed (hd := rfl) (hl := rfl) (hb := rfl); exact rfl)
      apply seq_plain; exact do_pick_t rfl rfl; exact rfl
      apply seq_nil
      exact jp_of (by repeat (first | exact sub_nil | apply sub_cons rfl))
    · have u1 : decide ((s.size : Int) < 1) = false := u1
      have u1 : decide (1 ≤ s.size) = true := decide_eq_true (by have := of_decide_eq_false u1; omega)
      have e : (!(decide (1 ≤ s.size) && decide (s.size ≤ 24))) = decide ((s.size : Int) > 24) := by
        rw [u1, Bool.eq_iff_iff]; simp; omega
      rw [e]
      apply seq_guard (hd := rfl) (hl := rfl); exact do_move rfl; exact rfl
      apply seq_guard (hd := rfl) (hl := rfl); exact do_lenStr rfl rfl rfl; exact rfl
      apply seq_guard (hd := rfl) (hl := rfl); exact do_binInt rfl rfl rfl trivial; exact rfl
      apply seq_plain; exact do_pick_f rfl rfl; exact rfl
      apply seq_nil
      exact jp_of (by repeat (first | exact sub_nil | apply sub_cons rfl))
  skip
  refine ct_cond rfl (fun h1 => ?_) (fun h1 => ?_)
  · have h1 : (!(decide (1 ≤ s.size) && decide (s.size ≤ 24))) = true := h1
    apply ct_seq
    apply ct_region
    apply seq_plain; exact do_assign rfl; exact rfl
    apply seq_nil
    apply ct_ret
    refine fin_flat hc rfl rfl ⟨?_, rfl⟩
    unfold nameB
    rw [Bool.not_eq_true'] at h1
    rw [h1]; rfl
  have h1 : (decide (1 ≤ s.size) && decide (s.size ≤ 24)) = true := by simpa using h1
  have hsz : 1 ≤ s.size ∧ s.size ≤ 24 := by simpa using h1
  apply ct_skip
  iterate 2 (apply ct_seq)
  apply ct_region
  apply seq_plain; exact do_assign rfl; exact rfl
  apply seq_nil
  apply ct_block
  apply ct_loop
  refine lt_up (fun i => [(0, .string s), (3, I i)]) (fun i => ∀ j, j < i → nameC j (byteI s j) = true) s.size (fun i hi hJ ih => ?_) 0 (by omega) (by intros; omega) (by repeat (first | exact sub_nil | apply sub_cons rfl))
  iterate 2 (apply ct_seq)
  apply ct_region
  iterate 2 (apply seq_plain; exact do_move rfl; exact rfl)
  apply seq_plain; exact do_lenStr rfl rfl rfl; exact rfl
  apply seq_plain; exact do_binInt rfl rfl rfl trivial; exact rfl
  apply seq_nil
  refine ct_cond rfl (fun h2 => ?_) (fun h2 => ?_)
  · simp only [decide_eq_true_eq, Int.ofNat_lt] at h2
    obtain ⟨b, hb1, _, hbi⟩ := byte_at h2
    apply ct_skip
    apply ct_seq
    apply ct_block
    apply ct_seq
    apply ct_region
    iterate 2 (apply seq_plain; exact do_move rfl; exact rfl)
    apply seq_plain; exact do_indexStr rfl rfl rfl (idx_nat (by omega)) hb1; exact rfl
    rw [← hbi]
    obtain ⟨r, hr⟩ : ∃ r : Int, r = byteI s i := ⟨_, rfl⟩
    rw [← hr]
    apply seq_plain; exact do_assign rfl; exact rfl
    apply seq_nil
    apply ct_seq
    apply ct_region
    apply seq_plain; exact do_move rfl; exact rfl
    apply seq_plain; exact do_binInt rfl rfl rfl trivial; exact rfl
    apply seq_plain; exact do_move rfl; exact rfl
    refine seq_J [(0, .string s), (3, I i), (4, .int .u8 r), (5, .bool (alphaI r))] (ds := []) (h := ext H H.fresh []) ?_ ?_
    · refine seq_gsplit rfl rfl (fun u1 => ?_) (fun u1 => ?_)
      · have u1 : decide (r ≥ 97) = true := u1
        apply seq_guard (hd := rfl) (hl := rfl); exact do_move rfl; exact rfl
        apply seq_guard (hd := rfl) (hl := rfl); exact do_binInt rfl rfl rfl trivial; exact rfl
        apply seq_plain; exact do_pick_t rfl rfl; exact rfl
        apply seq_plain; exact do_move rfl; exact rfl
        refine seq_gsplit rfl rfl (fun u2 => ?_) (fun u2 => ?_)
        · have u2 : decide (r ≤ 122) = true := u2
          rw [show alphaI r = true by simp only [alphaI, u1, u2]; rfl]
          iterate 3 (apply seq_passed (hd := rfl) (hl := rfl) (hb := rfl); exact rfl)
          iterate 2 (apply seq_passedU (hd := rfl) (hl := rfl); exact rfl)
          apply seq_passed (hd := rfl) (hl := rfl) (hb := rfl); exact rfl
          apply seq_plain; exact do_pick_t rfl rfl; exact rfl
          apply seq_plain; exact do_assign rfl; exact rfl
          apply seq_nil
          exact jp_of (by repeat (first | exact sub_nil | apply sub_cons rfl))
        · have u2 : decide (r ≤ 122) = false := u2
          have u3 : decide (r ≤ 90) = false := by simp at u2 ⊢; omega
          have u5 : decide (r ≥ 65) = true := by simp at u1 ⊢; omega
          rw [show alphaI r = false by simp only [alphaI, u1, u2, u3]; simp]
          apply seq_guard (hd := rfl) (hl := rfl); exact do_move rfl; exact rfl
          apply seq_guard (hd := rfl) (hl := rfl); exact do_binInt rfl rfl rfl trivial; exact rfl
          apply seq_guard (hd := rfl) (hl := rfl); exact do_move rfl; exact rfl
          rw [u5]
          apply seq_guard (hd := rfl) (hl := rfl); exact do_move rfl; exact rfl
          apply seq_guard (hd := rfl) (hl := rfl); exact do_binInt rfl rfl rfl trivial; exact rfl
          apply seq_guard (hd := rfl) (hl := rfl); exact do_pick_t rfl rfl; exact rfl
          apply seq_plain; exact do_pick_f rfl rfl; exact rfl
          apply seq_plain; exact do_assign rfl; exact rfl
          apply seq_nil
          rw [u3]
          exact jp_of (by repeat (first | exact sub_nil | apply sub_cons rfl))
      · have u1 : decide (r ≥ 97) = false := u1
        iterate 2 (apply seq_passed (hd := rfl) (hl := rfl) (hb := rfl); exact rfl)
        apply seq_plain; exact do_pick_f rfl rfl; exact rfl
        apply seq_plain; exact do_move rfl; exact rfl
        apply seq_guard (hd := rfl) (hl := rfl); exact do_move rfl; exact rfl
        apply seq_guard (hd := rfl) (hl := rfl); exact do_binInt rfl rfl rfl trivial; exact rfl
        apply seq_guard (hd := rfl) (hl := rfl); exact do_move rfl; exact rfl
        refine seq_gsplit rfl rfl (fun u5 => ?_) (fun u5 => ?_)
        · have u5 : decide (r ≥ 65) = true := u5
          rw [show alphaI r = decide (r ≤ 90) by simp only [alphaI, u1, u5]; simp]
          apply seq_guard (hd := rfl) (hl := rfl); exact do_move rfl; exact rfl
          apply seq_guard (hd := rfl) (hl := rfl); exact do_binInt rfl rfl rfl trivial; exact rfl
          apply seq_guard (hd := rfl) (hl := rfl); exact do_pick_t rfl rfl; exact rfl
          apply seq_plain; exact do_pick_f rfl rfl; exact rfl
          apply seq_plain; exact do_assign rfl; exact rfl
          apply seq_nil
          exact jp_of (by repeat (first | exact sub_nil | apply sub_cons rfl))
        · have u5 : decide (r ≥ 65) = false := u5
          rw [show alphaI r = false by simp only [alphaI, u1, u5]; simp]
          iterate 2 (apply seq_passed (hd := rfl) (hl := rfl) (hb := rfl); exact rfl)
          apply seq_guard (hd := rfl) (hl := rfl); exact do_pick_f rfl rfl; exact rfl
          apply seq_plain; exact do_pick_f rfl rfl; exact rfl
          apply seq_plain; exact do_assign rfl; exact rfl
          apply seq_nil
          exact jp_of (by repeat (first | exact sub_nil | apply sub_cons rfl))
    apply ct_seq
    apply ct_region
    apply seq_plain; exact do_move rfl; exact rfl
    apply seq_plain; exact do_unOp rfl rfl; exact rfl
    apply seq_plain; exact do_move rfl; exact rfl
    refine seq_J [(0, .string s), (3, I i), (55, .bool (!nameC i r))] (ds := []) (h := ext H H.fresh []) ?_ ?_
    · refine seq_gsplit rfl rfl (fun u1 => ?_) (fun u1 => ?_)
      · have u1 : alphaI r = false := by simpa using u1
        apply seq_guard (hd := rfl) (hl := rfl); exact do_move rfl; exact rfl
        apply seq_guard (hd := rfl) (hl := rfl); exact do_binInt rfl rfl rfl trivial; exact rfl
        apply seq_guard (hd := rfl) (hl := rfl); exact do_move rfl; exact rfl
        refine seq_gsplit rfl rfl (fun u2 => ?_) (fun u2 => ?_)
        · have e : nameC i r = false := by
            have u2 : i = 0 := by simpa using u2
            simp [nameC, u1, u2]
          rw [e]
          iterate 3 (apply seq_passed (hd := rfl) (hl := rfl) (hb := rfl); exact rfl)
          iterate 2 (apply seq_passedU (hd := rfl) (hl := rfl); exact rfl)
          iterate 2 (apply seq_passed (hd := rfl) (hl := rfl) (hb := rfl); exact rfl)
          iterate 2 (apply seq_passedU (hd := rfl) (hl := rfl); exact rfl)
          iterate 2 (apply seq_passed (hd := rfl) (hl := rfl) (hb := rfl); exact rfl)
          apply seq_guard (hd := rfl) (hl := rfl); exact do_pick_t rfl rfl; exact rfl
          apply seq_plain; exact do_pick_t rfl rfl; exact rfl
          apply seq_nil
          exact jp_of (by repeat (first | exact sub_nil | apply sub_cons rfl))
        · have u2 : decide (i ≠ 0) = true := by
            have : i ≠ 0 := by simpa using u2
            exact decide_eq_true this
          have e : nameC i r = ((decide (r ≥ 48) && decide (r ≤ 57)) || r == 95) := by
            unfold nameC
            rw [u1, u2]; simp
          rw [e]
          apply seq_guard (hd := rfl) (hl := rfl); exact do_move rfl; exact rfl
          apply seq_guard (hd := rfl) (hl := rfl); exact do_binInt rfl rfl rfl trivial; exact rfl
          apply seq_guard (hd := rfl) (hl := rfl); exact do_move rfl; exact rfl
          refine seq_gsplit rfl rfl (fun u3 => ?_) (fun u3 => ?_)
          · have u3 : decide (r ≥ 48) = true := u3
            rw [u3]
            apply seq_guard (hd := rfl) (hl := rfl); exact do_move rfl; exact rfl
            apply seq_guard (hd := rfl) (hl := rfl); exact do_binInt rfl rfl rfl trivial; exact rfl
            apply seq_guard (hd := rfl) (hl := rfl); exact do_pick_t rfl rfl; exact rfl
            apply seq_guard (hd := rfl) (hl := rfl); exact do_move rfl; exact rfl
            refine seq_gsplit rfl rfl (fun u4 => ?_) (fun u4 => ?_)
            · have u4 : decide (r ≤ 57) = true := u4
              rw [u4]
              iterate 2 (apply seq_passed (hd := rfl) (hl := rfl) (hb := rfl); exact rfl)
              apply seq_guard (hd := rfl) (hl := rfl); exact do_pick_t rfl rfl; exact rfl
              apply seq_guard (hd := rfl) (hl := rfl); exact do_unOp rfl rfl; exact rfl
              apply seq_guard (hd := rfl) (hl := rfl); exact do_pick_f rfl rfl; exact rfl
              apply seq_plain; exact do_pick_t rfl rfl; exact rfl
              apply seq_nil
              exact jp_of (by repeat (first | exact sub_nil | apply sub_cons rfl))
            · have u4 : decide (r ≤ 57) = false := u4
              rw [u4]
              apply seq_guard (hd := rfl) (hl := rfl); exact do_move rfl; exact rfl
              apply seq_guard (hd := rfl) (hl := rfl); exact do_binInt rfl rfl rfl trivial; exact rfl
              apply seq_guard (hd := rfl) (hl := rfl); exact do_pick_f rfl rfl; exact rfl
              apply seq_guard (hd := rfl) (hl := rfl); exact do_unOp rfl rfl; exact rfl
              apply seq_guard (hd := rfl) (hl := rfl); exact do_pick_f rfl rfl; exact rfl
              apply seq_plain; exact do_pick_t rfl rfl; exact rfl
              apply seq_nil
              exact jp_of (by repeat (first | exact sub_nil | apply sub_cons rfl))
          · have u3 : decide (r ≥ 48) = false := u3
            rw [u3]
            iterate 2 (apply seq_passed (hd := rfl) (hl := rfl) (hb := rfl); exact rfl)
            apply seq_guard (hd := rfl) (hl := rfl); exact do_pick_f rfl rfl; exact rfl
            iterate 2 (apply seq_guard (hd := rfl) (hl := rfl); exact do_move rfl; exact rfl)
            apply seq_guard (hd := rfl) (hl := rfl); exact do_binInt rfl rfl rfl trivial; exact rfl
            apply seq_guard (hd := rfl) (hl := rfl); exact do_pick_f rfl rfl; exact rfl
            apply seq_guard (hd := rfl) (hl := rfl); exact do_unOp rfl rfl; exact rfl
            apply seq_guard (hd := rfl) (hl := rfl); exact do_pick_f rfl rfl; exact rfl
            apply seq_plain; exact do_pick_t rfl rfl; exact rfl
            apply seq_nil
            exact jp_of (by repeat (first | exact sub_nil | apply sub_cons rfl))
      · have e : nameC i r = true := by
          have u1 : alphaI r = true := by simpa using u1
          unfold nameC
          rw [u1]; rfl
        rw [e]
        iterate 3 (apply seq_passed (hd := rfl) (hl := rfl) (hb := rfl); exact rfl)
        iterate 11 (apply seq_passedU (hd := rfl) (hl := rfl); exact rfl)
        apply seq_passed (hd := rfl) (hl := rfl) (hb := rfl); exact rfl
        apply seq_plain; exact do_pick_f rfl rfl; exact rfl
        apply seq_nil
        exact jp_of (by repeat (first | exact sub_nil | apply sub_cons rfl))
    skip
    cases hn : nameC i r with
    | false =>
      refine ct_cond_t rfl rfl ?_
      apply ct_seq
      apply ct_region
      apply seq_plain; exact do_assign rfl; exact rfl
      apply seq_nil
      apply ct_ret
      refine fin_flat hc rfl rfl ⟨?_, rfl⟩
      rw [nameB_bad h2 (hr ▸ hn)]; rfl
    | true =>
      refine ct_cond_f rfl rfl ?_
      apply ct_skip
      apply ct_region
      apply seq_plain; exact do_move rfl; exact rfl
      apply seq_plain; exact do_succ rfl (by omega); exact rfl
      apply seq_plain; exact do_assign rfl; exact rfl
      apply seq_nil
      refine lt_sub ?_ (ih (i + 1) (by omega) (by omega) fun j hj => ?_)
      · (repeat (first | exact sub_nil | apply sub_cons rfl))
      · by_cases e : j = i
        · subst e; rw [← hr]; exact hn
        · exact hJ j (by omega)
  · simp only [decide_eq_false_iff_not, Int.ofNat_lt] at h2
    apply ct_exit
    apply exit_eq; exact rfl
    apply ct_seq
    apply ct_region
    apply seq_plain; exact do_assign rfl; exact rfl
    apply seq_nil
    apply ct_ret
    refine fin_flat hc rfl rfl ⟨?_, rfl⟩
    rw [nameB_all (fun j hj => hJ j (by omega)), h1]; rfl
end Go.Proofs.YtflbffhahoblfaaGreatDoor
