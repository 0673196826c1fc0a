/- Contracts: the reference's names, divisions that are not too large. -/
import Derived.Test.YtiggikjbknoohaaGreatDoorPrA
noncomputable section
namespace Go.Proofs.YtiggikjbknoohaaGreatDoor
open Go Go.Den
set_option maxRecDepth 100000

structure Sz where
  p : Option Addr
  c : Nat
  l : List ByteArray
def sz (x : Sz) : List Value := [.slice x.p x.l.length x.c]
structure SzAt (H : AHeap) (q : Option Addr) (d : List Sz) : Prop where
  at_ : SlAt H 1 sz q d
  each : ∀ x ∈ d, SlAt H 1 s1 x.p x.l
theorem SzAt.ext {H H' : AHeap} {q : Option Addr} {d : List Sz} (h : SzAt H q d) (hE : Ext H H') : SzAt H' q d := ⟨h.at_.ext hE, fun x hx => (h.each x hx).ext hE⟩
theorem sz_get {d : List Sz} {cs : List Value} {o i n : Nat} (hw : ∀ i (h : i < d.length), sliceIn cs (o + i * 1) 1 = some (sz d[i])) (h : i < d.length) : pt false n cs (o + i * 1) = some (.slice d[i].p d[i].l.length d[i].c) := by
  have := sliceIn_at (hw i h) (j := 0) (by omega)
  simpa [pt, sz] using this

set_option maxHeartbeats 1000000 in
theorem refIsName_c {H : AHeap} {s : ByteArray} : Ret Tryz.prog 103 [.string s] H (.bool (nameB s)) H := by
  refine fn_start Tryz.func103 rfl rfl rfl fun hc => ?_
  apply ct_seq
  apply ct_region
  apply seq_plain; exact do_assign rfl; exact rfl
  apply seq_nil
  apply ct_seq
  apply ct_seq
  apply ct_region
  apply seq_plain; exact do_move rfl; exact rfl
  apply seq_plain; exact do_lenStr rfl rfl rfl; exact rfl
  apply seq_plain; exact do_binInt rfl rfl rfl trivial; exact rfl
  apply seq_plain; exact do_move rfl; exact rfl
  refine seq_J [(0, .string s), (13, .bool (!(decide (1 ≤ s.size) && decide (s.size ≤ 24))))] (ds := []) (h := ext H H.fresh []) ?_ ?_
  · refine seq_gsplit rfl rfl (fun u1 => ?_) (fun u1 => ?_)
    · have u1 : decide ((s.size : Int) < 1) = true := u1
      have u1 : decide (1 ≤ s.size) = false := decide_eq_false (by have := of_decide_eq_true u1; omega)
      rw [u1]
      apply seq_passed (hd := rfl) (hl := rfl) (hb := rfl); exact rfl
      apply seq_passed (hd := rfl) (hl := rfl) (hb := rfl); exact rfl
      apply seq_passed (hd := rfl) (hl := rfl) (hb := rfl); exact rfl
      apply seq_plain; exact do_pick_t rfl rfl; exact rfl
      apply seq_nil
      exact jp_of (by repeat (first | exact sub_nil | apply sub_cons rfl))
    · have u1 : decide ((s.size : Int) < 1) = false := u1
      have u1 : decide (1 ≤ s.size) = true := decide_eq_true (by have := of_decide_eq_false u1; omega)
      have e : (!(decide (1 ≤ s.size) && decide (s.size ≤ 24))) = decide ((s.size : Int) > 24) := by
        rw [u1, Bool.eq_iff_iff]; simp; omega
      rw [e]
      apply seq_guard (hd := rfl) (hl := rfl); exact do_move rfl; exact rfl
      apply seq_guard (hd := rfl) (hl := rfl); exact do_lenStr rfl rfl rfl; exact rfl
      apply seq_guard (hd := rfl) (hl := rfl); exact do_binInt rfl rfl rfl trivial; exact rfl
      apply seq_plain; exact do_pick_f rfl rfl; exact rfl
      apply seq_nil
      exact jp_of (by repeat (first | exact sub_nil | apply sub_cons rfl))
  skip
  refine ct_cond rfl (fun h1 => ?_) (fun h1 => ?_)
  · have h1 : (!(decide (1 ≤ s.size) && decide (s.size ≤ 24))) = true := h1
    apply ct_seq
    apply ct_region
    apply seq_plain; exact do_assign rfl; exact rfl
    apply seq_nil
    apply ct_ret
    refine fin_flat hc rfl rfl ⟨?_, rfl⟩
    unfold nameB
    rw [Bool.not_eq_true'] at h1
    rw [h1]; rfl
  have h1 : (decide (1 ≤ s.size) && decide (s.size ≤ 24)) = true := by simpa using h1
  have hsz : 1 ≤ s.size ∧ s.size ≤ 24 := by simpa using h1
  apply ct_skip
  apply ct_seq
  apply ct_seq
  apply ct_region
  apply seq_plain; exact do_assign rfl; exact rfl
  apply seq_nil
  apply ct_block
  apply ct_loop
  refine lt_up (fun i => [(0, .string s), (3, I i)]) (fun i => ∀ j, j < i → nameC j (byteI s j) = true) s.size (fun i hi hJ ih => ?_) 0 (by omega) (by intros; omega) (by repeat (first | exact sub_nil | apply sub_cons rfl))
  apply ct_seq
  apply ct_seq
  apply ct_region
  apply seq_plain; exact do_move rfl; exact rfl
  apply seq_plain; exact do_move rfl; exact rfl
  apply seq_plain; exact do_lenStr rfl rfl rfl; exact rfl
  apply seq_plain; exact do_binInt rfl rfl rfl trivial; exact rfl
  apply seq_nil
  refine ct_cond rfl (fun h2 => ?_) (fun h2 => ?_)
  · simp only [decide_eq_true_eq, Int.ofNat_lt] at h2
    obtain ⟨b, hb1, _, hbi⟩ := byte_at h2
    apply ct_skip
    apply ct_seq
    apply ct_block
    apply ct_seq
    apply ct_region
    apply seq_plain; exact do_move rfl; exact rfl
    apply seq_plain; exact do_move rfl; exact rfl
    apply seq_plain; exact do_indexStr rfl rfl rfl (idx_nat (by omega)) hb1; exact rfl
    rw [← hbi]
    obtain ⟨r, hr⟩ : ∃ r : Int, r = byteI s i := ⟨_, rfl⟩
    rw [← hr]
    apply seq_plain; exact do_assign rfl; exact rfl
    apply seq_nil
    apply ct_seq
    apply ct_region
    apply seq_plain; exact do_move rfl; exact rfl
    apply seq_plain; exact do_binInt rfl rfl rfl trivial; exact rfl
    apply seq_plain; exact do_move rfl; exact rfl
    refine seq_J [(0, .string s), (3, I i), (4, .int .u8 r), (5, .bool (alphaI r))] (ds := []) (h := ext H H.fresh []) ?_ ?_
    · refine seq_gsplit rfl rfl (fun u1 => ?_) (fun u1 => ?_)
      · have u1 : decide (r ≥ 97) = true := u1
        apply seq_guard (hd := rfl) (hl := rfl); exact do_move rfl; exact rfl
        apply seq_guard (hd := rfl) (hl := rfl); exact do_binInt rfl rfl rfl trivial; exact rfl
        apply seq_plain; exact do_pick_t rfl rfl; exact rfl
        apply seq_plain; exact do_move rfl; exact rfl
        refine seq_gsplit rfl rfl (fun u2 => ?_) (fun u2 => ?_)
        · have u2 : decide (r ≤ 122) = true := u2
          rw [show alphaI r = true by simp only [alphaI, u1, u2]; rfl]
          apply seq_passed (hd := rfl) (hl := rfl) (hb := rfl); exact rfl
          apply seq_passed (hd := rfl) (hl := rfl) (hb := rfl); exact rfl
          apply seq_passed (hd := rfl) (hl := rfl) (hb := rfl); exact rfl
          apply seq_passedU (hd := rfl) (hl := rfl); exact rfl
          apply seq_passedU (hd := rfl) (hl := rfl); exact rfl
          apply seq_passed (hd := rfl) (hl := rfl) (hb := rfl); exact rfl
          apply seq_plain; exact do_pick_t rfl rfl; exact rfl
          apply seq_plain; exact do_assign rfl; exact rfl
          apply seq_nil
          exact jp_of (by repeat (first | exact sub_nil | apply sub_cons rfl))
        · have u2 : decide (r ≤ 122) = false := u2
          have u3 : decide (r ≤ 90) = false := by simp at u2 ⊢; omega
          have u5 : decide (r ≥ 65) = true := by simp at u1 ⊢; omega
          rw [show alphaI r = false by simp only [alphaI, u1, u2, u3]; simp]
          apply seq_guard (hd := rfl) (hl := rfl); exact do_move rfl; exact rfl
          apply seq_guard (hd := rfl) (hl := rfl); exact do_binInt rfl rfl rfl trivial; exact rfl
          apply seq_guard (hd := rfl) (hl := rfl); exact do_move rfl; exact rfl
          rw [u5]
          apply seq_guard (hd := rfl) (hl := rfl); exact do_move rfl; exact rfl
          apply seq_guard (hd := rfl) (hl := rfl); exact do_binInt rfl rfl rfl trivial; exact rfl
          apply seq_guard (hd := rfl) (hl := rfl); exact do_pick_t rfl rfl; exact rfl
          apply seq_plain; exact do_pick_f rfl rfl; exact rfl
          apply seq_plain; exact do_assign rfl; exact rfl
          apply seq_nil
          rw [u3]
          exact jp_of (by repeat (first | exact sub_nil | apply sub_cons rfl))
      · have u1 : decide (r ≥ 97) = false := u1
        apply seq_passed (hd := rfl) (hl := rfl) (hb := rfl); exact rfl
        apply seq_passed (hd := rfl) (hl := rfl) (hb := rfl); exact rfl
        apply seq_plain; exact do_pick_f rfl rfl; exact rfl
        apply seq_plain; exact do_move rfl; exact rfl
        apply seq_guard (hd := rfl) (hl := rfl); exact do_move rfl; exact rfl
        apply seq_guard (hd := rfl) (hl := rfl); exact do_binInt rfl rfl rfl trivial; exact rfl
        apply seq_guard (hd := rfl) (hl := rfl); exact do_move rfl; exact rfl
        refine seq_gsplit rfl rfl (fun u5 => ?_) (fun u5 => ?_)
        · have u5 : decide (r ≥ 65) = true := u5
          rw [show alphaI r = decide (r ≤ 90) by simp only [alphaI, u1, u5]; simp]
          apply seq_guard (hd := rfl) (hl := rfl); exact do_move rfl; exact rfl
          apply seq_guard (hd := rfl) (hl := rfl); exact do_binInt rfl rfl rfl trivial; exact rfl
          apply seq_guard (hd := rfl) (hl := rfl); exact do_pick_t rfl rfl; exact rfl
          apply seq_plain; exact do_pick_f rfl rfl; exact rfl
          apply seq_plain; exact do_assign rfl; exact rfl
          apply seq_nil
          exact jp_of (by repeat (first | exact sub_nil | apply sub_cons rfl))
        · have u5 : decide (r ≥ 65) = false := u5
          rw [show alphaI r = false by simp only [alphaI, u1, u5]; simp]
          apply seq_passed (hd := rfl) (hl := rfl) (hb := rfl); exact rfl
          apply seq_passed (hd := rfl) (hl := rfl) (hb := rfl); exact rfl
          apply seq_guard (hd := rfl) (hl := rfl); exact do_pick_f rfl rfl; exact rfl
          apply seq_plain; exact do_pick_f rfl rfl; exact rfl
          apply seq_plain; exact do_assign rfl; exact rfl
          apply seq_nil
          exact jp_of (by repeat (first | exact sub_nil | apply sub_cons rfl))
    apply ct_seq
    apply ct_region
    apply seq_plain; exact do_move rfl; exact rfl
    apply seq_plain; exact do_unOp rfl rfl; exact rfl
    apply seq_plain; exact do_move rfl; exact rfl
    refine seq_J [(0, .string s), (3, I i), (55, .bool (!nameC i r))] (ds := []) (h := ext H H.fresh []) ?_ ?_
    · refine seq_gsplit rfl rfl (fun u1 => ?_) (fun u1 => ?_)
      · have u1 : alphaI r = false := by simpa using u1
        apply seq_guard (hd := rfl) (hl := rfl); exact do_move rfl; exact rfl
        apply seq_guard (hd := rfl) (hl := rfl); exact do_binInt rfl rfl rfl trivial; exact rfl
        apply seq_guard (hd := rfl) (hl := rfl); exact do_move rfl; exact rfl
        refine seq_gsplit rfl rfl (fun u2 => ?_) (fun u2 => ?_)
        · have e : nameC i r = false := by
            have u2 : i = 0 := by simpa using u2
            simp [nameC, u1, u2]
          rw [e]
          apply seq_passed (hd := rfl) (hl := rfl) (hb := rfl); exact rfl
          apply seq_passed (hd := rfl) (hl := rfl) (hb := rfl); exact rfl
          apply seq_passed (hd := rfl) (hl := rfl) (hb := rfl); exact rfl
          apply seq_passedU (hd := rfl) (hl := rfl); exact rfl
          apply seq_passedU (hd := rfl) (hl := rfl); exact rfl
          apply seq_passed (hd := rfl) (hl := rfl) (hb := rfl); exact rfl
          apply seq_passed (hd := rfl) (hl := rfl) (hb := rfl); exact rfl
          apply seq_passedU (hd := rfl) (hl := rfl); exact rfl
          apply seq_passedU (hd := rfl) (hl := rfl); exact rfl
          apply seq_passed (hd := rfl) (hl := rfl) (hb := rfl); exact rfl
          apply seq_passed (hd := rfl) (hl := rfl) (hb := rfl); exact rfl
          apply seq_guard (hd := rfl) (hl := rfl); exact do_pick_t rfl rfl; exact rfl
          apply seq_plain; exact do_pick_t rfl rfl; exact rfl
          apply seq_nil
          exact jp_of (by repeat (first | exact sub_nil | apply sub_cons rfl))
        · have u2 : decide (i ≠ 0) = true := by
            have : i ≠ 0 := by simpa using u2
            exact decide_eq_true this
          have e : nameC i r = ((decide (r ≥ 48) && decide (r ≤ 57)) || r == 95) := by
            unfold nameC
            rw [u1, u2]; simp
          rw [e]
          apply seq_guard (hd := rfl) (hl := rfl); exact do_move rfl; exact rfl
          apply seq_guard (hd := rfl) (hl := rfl); exact do_binInt rfl rfl rfl trivial; exact rfl
          apply seq_guard (hd := rfl) (hl := rfl); exact do_move rfl; exact rfl
          refine seq_gsplit rfl rfl (fun u3 => ?_) (fun u3 => ?_)
          · have u3 : decide (r ≥ 48) = true := u3
            rw [u3]
            apply seq_guard (hd := rfl) (hl := rfl); exact do_move rfl; exact rfl
            apply seq_guard (hd := rfl) (hl := rfl); exact do_binInt rfl rfl rfl trivial; exact rfl
            apply seq_guard (hd := rfl) (hl := rfl); exact do_pick_t rfl rfl; exact rfl
            apply seq_guard (hd := rfl) (hl := rfl); exact do_move rfl; exact rfl
            refine seq_gsplit rfl rfl (fun u4 => ?_) (fun u4 => ?_)
            · have u4 : decide (r ≤ 57) = true := u4
              rw [u4]
              apply seq_passed (hd := rfl) (hl := rfl) (hb := rfl); exact rfl
              apply seq_passed (hd := rfl) (hl := rfl) (hb := rfl); exact rfl
              apply seq_guard (hd := rfl) (hl := rfl); exact do_pick_t rfl rfl; exact rfl
              apply seq_guard (hd := rfl) (hl := rfl); exact do_unOp rfl rfl; exact rfl
              apply seq_guard (hd := rfl) (hl := rfl); exact do_pick_f rfl rfl; exact rfl
              apply seq_plain; exact do_pick_t rfl rfl; exact rfl
              apply seq_nil
              exact jp_of (by repeat (first | exact sub_nil | apply sub_cons rfl))
            · have u4 : decide (r ≤ 57) = false := u4
              rw [u4]
              apply seq_guard (hd := rfl) (hl := rfl); exact do_move rfl; exact rfl
              apply seq_guard (hd := rfl) (hl := rfl); exact do_binInt rfl rfl rfl trivial; exact rfl
              apply seq_guard (hd := rfl) (hl := rfl); exact do_pick_f rfl rfl; exact rfl
              apply seq_guard (hd := rfl) (hl := rfl); exact do_unOp rfl rfl; exact rfl
              apply seq_guard (hd := rfl) (hl := rfl); exact do_pick_f rfl rfl; exact rfl
              apply seq_plain; exact do_pick_t rfl rfl; exact rfl
              apply seq_nil
              exact jp_of (by repeat (first | exact sub_nil | apply sub_cons rfl))
          · have u3 : decide (r ≥ 48) = false := u3
            rw [u3]
            apply seq_passed (hd := rfl) (hl := rfl) (hb := rfl); exact rfl
            apply seq_passed (hd := rfl) (hl := rfl) (hb := rfl); exact rfl
            apply seq_guard (hd := rfl) (hl := rfl); exact do_pick_f rfl rfl; exact rfl
            apply seq_guard (hd := rfl) (hl := rfl); exact do_move rfl; exact rfl
            apply seq_guard (hd := rfl) (hl := rfl); exact do_move rfl; exact rfl
            apply seq_guard (hd := rfl) (hl := rfl); exact do_binInt rfl rfl rfl trivial; exact rfl
            apply seq_guard (hd := rfl) (hl := rfl); exact do_pick_f rfl rfl; exact rfl
            apply seq_guard (hd := rfl) (hl := rfl); exact do_unOp rfl rfl; exact rfl
            apply seq_guard (hd := rfl) (hl := rfl); exact do_pick_f rfl rfl; exact rfl
            apply seq_plain; exact do_pick_t rfl rfl; exact rfl
            apply seq_nil
            exact jp_of (by repeat (first | exact sub_nil | apply sub_cons rfl))
      · have e : nameC i r = true := by
          have u1 : alphaI r = true := by simpa using u1
          unfold nameC
          rw [u1]; rfl
        rw [e]
        apply seq_passed (hd := rfl) (hl := rfl) (hb := rfl); exact rfl
        apply seq_passed (hd := rfl) (hl := rfl) (hb := rfl); exact rfl
        apply seq_passed (hd := rfl) (hl := rfl) (hb := rfl); exact rfl
        apply seq_passedU (hd := rfl) (hl := rfl); exact rfl
        apply seq_passedU (hd := rfl) (hl := rfl); exact rfl
        apply seq_passedU (hd := rfl) (hl := rfl); exact rfl
        apply seq_passedU (hd := rfl) (hl := rfl); exact rfl
        apply seq_passedU (hd := rfl) (hl := rfl); exact rfl
        apply seq_passedU (hd := rfl) (hl := rfl); exact rfl
        apply seq_passedU (hd := rfl) (hl := rfl); exact rfl
        apply seq_passedU (hd := rfl) (hl := rfl); exact rfl
        apply seq_passedU (hd := rfl) (hl := rfl); exact rfl
        apply seq_passedU (hd := rfl) (hl := rfl); exact rfl
        apply seq_passedU (hd := rfl) (hl := rfl); exact rfl
        apply seq_passed (hd := rfl) (hl := rfl) (hb := rfl); exact rfl
        apply seq_plain; exact do_pick_f rfl rfl; exact rfl
        apply seq_nil
        exact jp_of (by repeat (first | exact sub_nil | apply sub_cons rfl))
    skip
    cases hn : nameC i r with
    | false =>
      refine ct_cond_t rfl rfl ?_
      apply ct_seq
      apply ct_region
      apply seq_plain; exact do_assign rfl; exact rfl
      apply seq_nil
      apply ct_ret
      refine fin_flat hc rfl rfl ⟨?_, rfl⟩
      rw [nameB_bad h2 (hr ▸ hn)]; rfl
    | true =>
      refine ct_cond_f rfl rfl ?_
      apply ct_skip
      apply ct_region
      apply seq_plain; exact do_move rfl; exact rfl
      apply seq_plain; exact do_succ rfl (by omega); exact rfl
      apply seq_plain; exact do_assign rfl; exact rfl
      apply seq_nil
      refine lt_sub ?_ (ih (i + 1) (by omega) (by omega) fun j hj => ?_)
      · (repeat (first | exact sub_nil | apply sub_cons rfl))
      · by_cases e : j = i
        · subst e; rw [← hr]; exact hn
        · exact hJ j (by omega)
  · simp only [decide_eq_false_iff_not, Int.ofNat_lt] at h2
    apply ct_exit
    apply exit_eq; exact rfl
    apply ct_seq
    apply ct_region
    apply seq_plain; exact do_assign rfl; exact rfl
    apply seq_nil
    apply ct_ret
    refine fin_flat hc rfl rfl ⟨?_, rfl⟩
    rw [nameB_all (fun j hj => hJ j (by omega)), h1]; rfl

theorem sameWords_c {H : AHeap} {p q : Option Addr} {c c' : Nat} {l m : List ByteArray} (hs : SlAt H 1 s1 p l) (ht : SlAt H 1 s1 q m) (hn : l.length < 1000000000000) :
    Ret Tryz.prog 81 [.slice p l.length c, .slice q m.length c'] H (.bool (decide (l = m))) H := by
  refine fn_start Tryz.func81 rfl rfl rfl fun hc => ?_
  apply ct_seq
  apply ct_region
  apply seq_plain; exact do_assign rfl; exact rfl
  apply seq_nil
  apply ct_seq
  apply ct_seq
  apply ct_region
  apply seq_plain; exact do_move rfl; exact rfl
  apply seq_plain; exact do_lenS rfl rfl rfl; exact rfl
  apply seq_plain; exact do_move rfl; exact rfl
  apply seq_plain; exact do_lenS rfl rfl rfl; exact rfl
  apply seq_plain; exact do_binInt rfl rfl rfl trivial; exact rfl
  apply seq_nil
  refine ct_cond rfl (fun h0 => ?_) (fun h0 => ?_)
  · have h0 : l.length ≠ m.length := by simp at h0; omega
    apply ct_seq
    apply ct_region
    apply seq_plain; exact do_assign rfl; exact rfl
    apply seq_nil
    apply ct_ret
    refine fin_flat hc rfl rfl ⟨?_, rfl⟩
    rw [decide_eq_false (fun e => h0 (by rw [e]))]; rfl
  · have h0 : l.length = m.length := by simp at h0; omega
    apply ct_skip
    apply ct_seq
    apply ct_seq
    apply ct_region
    apply seq_plain; exact do_assign rfl; exact rfl
    apply seq_nil
    apply ct_block
    apply ct_loop
    refine lt_up (fun i => [(0, .slice p l.length c), (1, .slice q m.length c'), (5, I i)]) (fun i => ∀ j (hj : j < l.length) (hj' : j < m.length), j < i → l[j] = m[j]) l.length (fun i hi hJ ih => ?_) 0 (by omega) (by intros; omega) (by repeat (first | exact sub_nil | apply sub_cons rfl))
    apply ct_seq
    apply ct_seq
    apply ct_region
    apply seq_plain; exact do_move rfl; exact rfl
    apply seq_plain; exact do_move rfl; exact rfl
    apply seq_plain; exact do_lenS rfl rfl rfl; exact rfl
    apply seq_plain; exact do_binInt rfl rfl rfl trivial; exact rfl
    apply seq_nil
    refine ct_cond rfl (fun h1 => ?_) (fun h1 => ?_)
    · simp only [decide_eq_true_eq, Int.ofNat_lt] at h1
      obtain ⟨b, o, cs, z, s, ro, rfl, hg, hw⟩ := hs.out (by intro e; rw [e] at h1; simp at h1)
      obtain ⟨b', o', cs', z', s', ro', rfl, hg', hw'⟩ := ht.out (fun e => by have h5 := congrArg List.length e; simp only [List.length_nil] at h5; omega)
      have h1' : i < m.length := by omega
      apply ct_skip
      apply ct_seq
      apply ct_block
      apply ct_seq
      apply ct_draw (by assumption); decide +kernel
      apply sd_plain (hfree := rfl); intro _; exact do_move rfl; exact rfl
      apply sd_plain (hfree := rfl); intro _; exact do_move rfl; exact rfl
      apply sd_plain (hfree := rfl); intro _; exact do_indexAddrS rfl rfl rfl (by exact idx_nat (by omega)); exact rfl
      apply sd_look (hfree := rfl); exact do_load rfl (by exact ext_get_old (by assumption) (by assumption)) rfl (by exact pt_sl0 (by assumption) (by omega)); exact rfl
      apply sd_plain (hfree := rfl); intro _; exact do_move rfl; exact rfl
      apply sd_plain (hfree := rfl); intro _; exact do_move rfl; exact rfl
      apply sd_plain (hfree := rfl); intro _; exact do_indexAddrS rfl rfl rfl (by exact idx_nat (by omega)); exact rfl
      apply sd_look (hfree := rfl); exact do_load rfl (by exact ext_get_old (by assumption) (by assumption)) rfl (by exact pt_sl0 (by assumption) (by omega)); exact rfl
      apply sd_plain (hfree := rfl); intro _; exact do_binStr rfl rfl rfl; exact rfl
      apply sd_nil
      refine ct_cond rfl (fun h2 => ?_) (fun h2 => ?_)
      · have h2 : byteL l[i].data.toList m[i].data.toList = false := by simpa using h2
        rw [bytes_eq] at h2
        have h2 := of_decide_eq_false h2
        apply ct_seq
        apply ct_region
        apply seq_plain; exact do_assign rfl; exact rfl
        apply seq_nil
        apply ct_ret
        refine fin_flat hc rfl rfl ⟨?_, rfl⟩
        rw [decide_eq_false (fun e => h2 (by subst e; rfl))]; rfl
      · have h2 : byteL l[i].data.toList m[i].data.toList = true := by simpa using h2
        rw [bytes_eq] at h2
        have h2 := of_decide_eq_true h2
        apply ct_skip
        apply ct_region
        apply seq_plain; exact do_move rfl; exact rfl
        apply seq_plain; exact do_succ rfl (by omega); exact rfl
        apply seq_plain; exact do_assign rfl; exact rfl
        apply seq_nil
        refine lt_sub ?_ (ih (i + 1) (by omega) (by omega) fun j hj hj' hji => ?_)
        · (repeat (first | exact sub_nil | apply sub_cons rfl))
        · rcases Nat.lt_or_ge j i with h | h
          · exact hJ j hj hj' h
          · have : j = i := by omega
            subst this; exact h2
    · simp only [decide_eq_false_iff_not, Int.ofNat_lt] at h1
      apply ct_exit
      apply exit_eq; exact rfl
      apply ct_seq
      apply ct_region
      apply seq_plain; exact do_assign rfl; exact rfl
      apply seq_nil
      apply ct_ret
      refine fin_flat hc rfl rfl ⟨?_, rfl⟩
      rw [decide_eq_true (List.ext_getElem h0 fun j hj hj' => hJ j hj hj' (by omega))]; rfl

def rowS (l : List ByteArray) : Bool := decide (l.length ≤ 27) && l.all fun s => decide (s.size ≤ 40)
def shortD (d : List Sz) : Bool := (d.take 25).all (fun x => rowS x.l) && decide (d.length ≤ 27)
theorem shortDivisions_c {H : AHeap} {q : Option Addr} {c : Nat} {d : List Sz} (hd : SzAt H q d) :
    Ret Tryz.prog 29 [.slice q d.length c] H (.bool (shortD d)) H := by
  refine fn_start Tryz.func29 rfl rfl rfl fun hc => ?_
  apply ct_seq
  apply ct_region
  apply seq_plain; exact do_assign rfl; exact rfl
  apply seq_nil
  apply ct_seq
  apply ct_seq
  apply ct_region
  apply seq_plain; exact do_assign rfl; exact rfl
  apply seq_nil
  apply ct_block
  apply ct_loop
  refine lt_up (fun i => [(0, .slice q d.length c), (3, I i)]) (fun i => ∀ j (hj : j < d.length), j < i → rowS d[j].l = true) 25 (fun i hi hJ ih => ?_) 0 (by omega) (by intros; omega) (by repeat (first | exact sub_nil | apply sub_cons rfl))
  apply ct_seq
  apply ct_seq
  apply ct_region
  apply seq_plain; exact do_move rfl; exact rfl
  apply seq_plain; exact do_move rfl; exact rfl
  apply seq_plain; exact do_lenS rfl rfl rfl; exact rfl
  apply seq_plain; exact do_binInt rfl rfl rfl trivial; exact rfl
  apply seq_plain; exact do_move rfl; exact rfl
  have e : (decide ((i : Int) < d.length) && decide ((i : Int) ≤ 24)) = decide (i < d.length ∧ i ≤ 24) := by
    rw [Bool.eq_iff_iff]; simp; omega
  refine seq_J [(0, .slice q d.length c), (3, I i), (12, .bool (decide (i < d.length ∧ i ≤ 24)))] (ds := []) (h := ext H H.fresh []) ?_ ?_
  · rw [← e]
    refine seq_gsplit rfl rfl (fun u1 => ?_) (fun u1 => ?_)
    · rw [u1]
      apply seq_guard (hd := rfl) (hl := rfl); exact do_move rfl; exact rfl
      apply seq_guard (hd := rfl) (hl := rfl); exact do_binInt rfl rfl rfl trivial; exact rfl
      apply seq_plain; exact do_pick_t rfl rfl; exact rfl
      apply seq_nil
      exact jp_of (by repeat (first | exact sub_nil | apply sub_cons rfl))
    · rw [u1]
      apply seq_passed (hd := rfl) (hl := rfl) (hb := rfl); exact rfl
      apply seq_passed (hd := rfl) (hl := rfl) (hb := rfl); exact rfl
      apply seq_plain; exact do_pick_f rfl rfl; exact rfl
      apply seq_nil
      exact jp_of (by repeat (first | exact sub_nil | apply sub_cons rfl))
  skip
  refine ct_cond rfl (fun h1 => ?_) (fun h1 => ?_)
  · simp only [decide_eq_true_eq] at h1
    obtain ⟨h1, h24⟩ := h1
    obtain ⟨b, o, cs, z, s, ro, rfl, hg, hw⟩ := hd.at_.out (by intro e; rw [e] at h1; simp at h1)
    have hx := hd.each d[i] (List.getElem_mem h1)
    have bad : rowS d[i].l = false → shortD d = false := fun hb => by
      have : (d.take 25).all (fun x => rowS x.l) = false := by
        rw [List.all_eq_false]
        exact ⟨d[i], List.mem_take_iff_getElem.2 ⟨i, by omega, rfl⟩, by rw [hb]; simp⟩
      unfold shortD
      rw [this]; rfl
    apply ct_skip
    apply ct_seq
    apply ct_block
    apply ct_seq
    apply ct_seq
    apply ct_region
    apply seq_plain; exact do_move rfl; exact rfl
    apply seq_plain; exact do_move rfl; exact rfl
    apply seq_plain; exact do_indexAddrS rfl rfl rfl (by exact idx_nat (by omega)); exact rfl
    apply seq_plain; exact do_load rfl (by exact ext_get_old (by assumption) (by assumption)) rfl (by exact sz_get (by assumption) (by omega)); exact rfl
    apply seq_plain; exact do_lenS rfl rfl rfl; exact rfl
    apply seq_plain; exact do_binInt rfl rfl rfl trivial; exact rfl
    apply seq_nil
    refine ct_cond rfl (fun h2 => ?_) (fun h2 => ?_)
    · simp only [decide_eq_true_eq] at h2
      apply ct_seq
      apply ct_region
      apply seq_plain; exact do_assign rfl; exact rfl
      apply seq_nil
      apply ct_ret
      refine fin_flat hc rfl rfl ⟨?_, rfl⟩
      rw [bad (by unfold rowS; rw [decide_eq_false (by omega)]; rfl)]; rfl
    · simp only [decide_eq_false_iff_not] at h2
      apply ct_skip
      apply ct_seq
      apply ct_region
      apply seq_plain; exact do_assign rfl; exact rfl
      apply seq_nil
      apply ct_block
      apply ct_loop
      refine lt_up (fun j => [(0, .slice (some ⟨b, o, none⟩) d.length c), (3, I i), (4, I j)]) (fun j => ∀ k (hk : k < d[i].l.length), k < j → d[i].l[k].size ≤ 40) d[i].l.length (fun j hj hJ2 ih2 => ?_) 0 (by omega) (by intros; omega) (by repeat (first | exact sub_nil | apply sub_cons rfl))
      apply ct_seq
      apply ct_seq
      apply ct_region
      apply seq_plain; exact do_move rfl; exact rfl
      apply seq_plain; exact do_move rfl; exact rfl
      apply seq_plain; exact do_move rfl; exact rfl
      apply seq_plain; exact do_indexAddrS rfl rfl rfl (by exact idx_nat (by omega)); exact rfl
      apply seq_plain; exact do_load rfl (by exact ext_get_old (by assumption) (by assumption)) rfl (by exact sz_get (by assumption) (by omega)); exact rfl
      apply seq_plain; exact do_lenS rfl rfl rfl; exact rfl
      apply seq_plain; exact do_binInt rfl rfl rfl trivial; exact rfl
      apply seq_nil
      refine ct_cond rfl (fun h3 => ?_) (fun h3 => ?_)
      · simp only [decide_eq_true_eq, Int.ofNat_lt] at h3
        obtain ⟨b2, o2, cs2, z2, s2, ro2, hp2, hg2, hw2⟩ := hx.out (by intro e; rw [e] at h3; simp at h3)
        apply ct_skip
        apply ct_seq
        apply ct_block
        apply ct_seq
        apply ct_region
        apply seq_plain; exact do_move rfl; exact rfl
        apply seq_plain; exact do_move rfl; exact rfl
        apply seq_plain; exact do_indexAddrS rfl rfl rfl (by exact idx_nat (by omega)); exact rfl
        apply seq_plain; exact do_load rfl (by exact ext_get_old (by assumption) (by assumption)) rfl (by exact sz_get (by assumption) (by omega)); exact rfl
        apply seq_plain; exact do_move rfl; exact rfl
        rw [hp2]
        apply seq_plain; exact do_indexAddrS rfl rfl rfl (by exact idx_nat (by omega)); exact rfl
        apply seq_plain; exact do_load rfl (by exact ext_get_old (by assumption) (by assumption)) rfl (by exact pt_sl0 (by assumption) (by omega)); exact rfl
        apply seq_plain; exact do_lenStr rfl rfl rfl; exact rfl
        apply seq_plain; exact do_binInt rfl rfl rfl trivial; exact rfl
        apply seq_nil
        refine ct_cond rfl (fun h4 => ?_) (fun h4 => ?_)
        · simp only [decide_eq_true_eq] at h4
          apply ct_seq
          apply ct_region
          apply seq_plain; exact do_assign rfl; exact rfl
          apply seq_nil
          apply ct_ret
          refine fin_flat hc rfl rfl ⟨?_, rfl⟩
          have : d[i].l.all (fun s => decide (s.size ≤ 40)) = false := by
            rw [List.all_eq_false]
            exact ⟨d[i].l[j], List.getElem_mem h3, by simp; omega⟩
          rw [bad (by unfold rowS; rw [this, Bool.and_false])]; rfl
        · simp only [decide_eq_false_iff_not] at h4
          apply ct_skip
          apply ct_region
          apply seq_plain; exact do_move rfl; exact rfl
          apply seq_plain; exact do_succ rfl (by omega); exact rfl
          apply seq_plain; exact do_assign rfl; exact rfl
          apply seq_nil
          refine lt_sub (by repeat (first | exact sub_nil | apply sub_cons rfl)) (ih2 (j + 1) (by omega) (by omega) fun k hk hkj => ?_)
          rcases Nat.lt_or_ge k j with h | h
          · exact hJ2 k hk h
          · have : k = j := by omega
            subst this; omega
      · simp only [decide_eq_false_iff_not, Int.ofNat_lt] at h3
        apply ct_exit
        apply exit_eq; exact rfl
        apply ct_region
        apply seq_plain; exact do_move rfl; exact rfl
        apply seq_plain; exact do_succ rfl (by omega); exact rfl
        apply seq_plain; exact do_assign rfl; exact rfl
        apply seq_nil
        refine lt_sub (by repeat (first | exact sub_nil | apply sub_cons rfl)) (ih (i + 1) (by omega) (by omega) fun k hk hki => ?_)
        rcases Nat.lt_or_ge k i with h | h
        · exact hJ k hk h
        · have : k = i := by omega
          subst this
          unfold rowS
          rw [decide_eq_true (by omega), List.all_eq_true.2 fun x hx => by
            obtain ⟨n, hn, rfl⟩ := List.mem_iff_getElem.1 hx
            exact decide_eq_true (hJ2 n hn (by omega))]; rfl
  · simp only [decide_eq_false_iff_not] at h1
    have hall : (d.take 25).all (fun x => rowS x.l) = true := by
      rw [List.all_eq_true]
      intro x hx
      obtain ⟨j, hj, rfl⟩ := List.mem_take_iff_getElem.1 hx
      exact hJ j (by omega) (by omega)
    have e1 : decide ((d.length : Int) ≤ 27) = decide (d.length ≤ 27) := by rw [Bool.eq_iff_iff]; simp; omega
    apply ct_exit
    apply exit_eq; exact rfl
    apply ct_seq
    apply ct_region
    apply seq_plain; exact do_move rfl; exact rfl
    apply seq_plain; exact do_lenS rfl rfl rfl; exact rfl
    apply seq_plain; exact do_binInt rfl rfl rfl trivial; exact rfl
    apply seq_plain; exact do_assign rfl; exact rfl
    apply seq_nil
    apply ct_ret
    refine fin_flat hc rfl rfl ⟨?_, rfl⟩
    unfold shortD
    rw [hall, ← e1]; rfl
end Go.Proofs.YtiggikjbknoohaaGreatDoor
