/- Contracts: the reference's word on a list of fixtures. -/
import Derived.Test.YtiggikjbknoohaaGreatDoorFnD
import Derived.Test.YtiggikjbknoohaaGreatDoorSxA
noncomputable section
namespace Go.Proofs.YtiggikjbknoohaaGreatDoor
open Go Go.Den
set_option maxRecDepth 10000

theorem outL_f {n a b : Int} (h : outL n a b = false) : a ≤ n ∧ n ≤ b := by simp [outL] at h; omega
theorem errAt_day {n : Int} {pre : List Fx} {x : Fx} (h : outL x.day 0 48 = true) : errAt n pre x = 3 := by simp [errAt, firstL, whenL, h]
theorem errAt_who {n : Int} {pre : List Fx} {x : Fx} (h : outL x.day 0 48 = false) (h1 : [x.home, x.away].any (unknownL n) = true) : errAt n pre x = 10 := by simp [errAt, pairL, firstL, whenL, h, h1]
theorem errAt_own {n : Int} {pre : List Fx} {x : Fx} (h : outL x.day 0 48 = false) (h1 : [x.home, x.away].any (unknownL n) = false) (h2 : (x.home == x.away) = true) : errAt n pre x = 9 := by simp [errAt, pairL, firstL, whenL, h, h1, h2]
theorem errAt_clash {n : Int} {pre : List Fx} {x : Fx} (h : outL x.day 0 48 = false) (h1 : [x.home, x.away].any (unknownL n) = false) (h2 : (x.home == x.away) = false) (h3 : pre.any (clashL x) = true) : errAt n pre x = 29 := by simp [errAt, pairL, firstL, whenL, h, h1, h2, h3]
theorem errAt_twice {n : Int} {pre : List Fx} {x : Fx} (h : outL x.day 0 48 = false) (h1 : [x.home, x.away].any (unknownL n) = false) (h2 : (x.home == x.away) = false) (h3 : pre.any (clashL x) = false) (h4 : pre.any (twiceL x) = true) : errAt n pre x = 17 := by simp [errAt, pairL, firstL, whenL, h, h1, h2, h3, h4]
theorem errAt_ok {n : Int} {pre : List Fx} {x : Fx} (h : outL x.day 0 48 = false) (h1 : [x.home, x.away].any (unknownL n) = false) (h2 : (x.home == x.away) = false) (h3 : pre.any (clashL x) = false) (h4 : pre.any (twiceL x) = false) : errAt n pre x = 0 := by simp [errAt, pairL, firstL, whenL, h, h1, h2, h3, h4]
theorem take_any_t {l : List Fx} {i j : Nat} {p : Fx → Bool} (hj : j < l.length) (hji : j < i) (h : p l[j] = true) : (l.take i).any p = true := by
  rw [List.any_eq_true]
  exact ⟨l[j], List.mem_take_iff_getElem.2 ⟨j, by omega, rfl⟩, h⟩
theorem take_any_f {l : List Fx} {i : Nat} {p : Fx → Bool} (h : ∀ j (hj : j < l.length), j < i → p l[j] = false) : (l.take i).any p = false := by
  rw [List.any_eq_false]
  intro x hx
  obtain ⟨j, hj, rfl⟩ := List.mem_take_iff_getElem.1 hx
  rw [h j (by omega) (by omega)]
  simp

set_option maxHeartbeats 1000000 in
theorem checkList57 {H : AHeap} {n : Int} {q : Option Addr} {c : Nat} {l : List Fx} (hs : SlAt H 3 fx q l) (hn : l.length < 1000000000000) :
    Ret Tryz.prog 57 [I n, .slice q l.length c] H (I (chkL n l)) H := by
  refine fn_start Tryz.func57 rfl rfl rfl fun hc => ?_
  apply ct_seq
  apply ct_region
  apply seq_plain; exact do_assign rfl; exact rfl
  apply seq_nil
  apply ct_seq
  apply ct_seq
  apply ct_region
  apply seq_plain; exact do_move rfl; exact rfl
  apply seq_call (ht := rfl); exact checkTeams72; exact rfl
  apply seq_plain; exact do_assign rfl; exact rfl
  apply seq_nil
  apply ct_seq
  apply ct_region
  apply seq_plain; exact do_move rfl; exact rfl
  apply seq_plain; exact do_binInt rfl rfl rfl trivial; exact rfl
  apply seq_nil
  refine ct_cond rfl (fun hb => ?_) (fun hb => ?_)
  · have hb : outL n 2 24 = true := by
      cases h : outL n 2 24
      · rw [h] at hb; simp [whenL] at hb
      · rfl
    apply ct_seq
    apply ct_region
    apply seq_plain; exact do_move rfl; exact rfl
    apply seq_plain; exact do_assign rfl; exact rfl
    apply seq_nil
    apply ct_ret
    refine fin_flat hc rfl rfl ⟨?_, rfl⟩
    have : topL n l = 3 := by simp [topL, firstL, whenL, hb]
    simp [packA, chkL, this, hb, whenL]
  · have hb : outL n 2 24 = false := by
      cases h : outL n 2 24
      · rfl
      · rw [h] at hb; simp [whenL] at hb
    have hnb := outL_f hb
    apply ct_skip
    apply ct_seq
    apply ct_seq
    apply ct_region
    apply seq_plain; exact do_move rfl; exact rfl
    apply seq_plain; exact do_lenS rfl rfl rfl; exact rfl
    apply seq_plain; exact do_binInt rfl rfl rfl trivial; exact rfl
    apply seq_nil
    refine ct_cond rfl (fun h0 => ?_) (fun h0 => ?_)
    · apply ct_seq
      apply ct_region
      apply seq_plain; exact do_assign rfl; exact rfl
      apply seq_nil
      apply ct_ret
      refine fin_flat hc rfl rfl ⟨?_, rfl⟩
      simp only [decide_eq_true_eq] at h0
      have : topL n l = 5 := by simp [topL, firstL, whenL, hb, h0]
      simp [packA, chkL, this]
    · simp only [decide_eq_false_iff_not] at h0
      have ht : topL n l = 0 := by simp [topL, firstL, whenL, hb, h0]
      apply ct_skip
      apply ct_seq
      apply ct_seq
      apply ct_region
      apply seq_plain; exact do_assign rfl; exact rfl
      apply seq_nil
      apply ct_block
      apply ct_loop
      refine lt_upB hc (fun i => [(0, I n), (1, .slice q l.length c), (6, I i)]) (fun i => ∀ j, j < i → errI n l j = 0) l.length (fun i h lo hc' hE0 hi hJ ih => ?_) 0 (by omega) (by intros; omega) (by repeat (first | exact sub_nil | apply sub_cons rfl))
      have hE := (ext_Ext hc).trans hE0
      clear hE0
      apply ct_seq
      apply ct_seq
      apply ct_region
      apply seq_plain; exact do_move rfl; exact rfl
      apply seq_plain; exact do_move rfl; exact rfl
      apply seq_plain; exact do_lenS rfl rfl rfl; exact rfl
      apply seq_plain; exact do_binInt rfl rfl rfl trivial; exact rfl
      apply seq_nil
      refine ct_cond rfl (fun h1 => ?_) (fun h1 => ?_)
      · simp only [decide_eq_true_eq, Int.ofNat_lt] at h1
        have hs' := hs
        obtain ⟨b, o, cs, z, s, ro, rfl, hg, hw⟩ := hs.out (by intro e; rw [e] at h1; simp at h1)
        have hg := hE _ _ hg
        apply ct_skip
        apply ct_seq
        apply ct_block
        apply ct_seq
        apply ct_region
        apply seq_plain; exact do_move rfl; exact rfl
        apply seq_plain; exact do_move rfl; exact rfl
        apply seq_plain; exact do_indexAddrS rfl rfl rfl (by exact idx_nat (by omega)); exact rfl
        apply seq_plain; exact do_load rfl (by exact ext_get_old (by assumption) (by assumption)) rfl (by exact pt_sl (by assumption) (by omega)); exact rfl
        apply seq_newP; exact do_alloc rfl rfl; exact rfl
        apply seq_putC (hc := by assumption); rotate_left; exact do_store rfl rfl (by exact ext_get_new rfl) rfl rfl (nb_own _); rotate_left; exact Nat.le_of_ble_eq_true rfl
        apply ct_seq
        apply ct_seq
        apply ct_region
        apply seq_plain; exact do_fieldAddr rfl rfl; exact rfl
        apply seq_plain; exact do_load rfl (by exact ext_get_new rfl) rfl (by exact rfl); exact rfl
        apply seq_call (ht := rfl); exact outside24; exact rfl
        apply seq_nil
        refine ct_cond rfl (fun d1 => ?_) (fun d1 => ?_)
        · have d1 : outL l[i].day 0 48 = true := d1
          apply ct_seq
          apply ct_region
          apply seq_plain; exact do_assign rfl; exact rfl
          apply seq_nil
          apply ct_ret
          refine fin_flatB hc hc' hE rfl rfl ⟨?_, rfl⟩
          have e := errAt_day (n := n) (pre := l.take i) d1
          rw [← errI_at h1] at e
          simp only [chkL]; rw [if_pos ht, restL_at h1 hJ (by rw [e]; decide), e]; rfl
        · have d1 : outL l[i].day 0 48 = false := d1
          apply ct_skip
          repeat apply ct_seq
          refine ct_J [(0, I n), (1, .slice (some ⟨b, o, none⟩) l.length c), (6, I i), (7, .pointer (some ⟨nb h 0, 0, none⟩)), (43, .bool ([l[i].home, l[i].away].any (unknownL n)))] (ds := []) (h := ext h lo [some (.cells [I l[i].day, I l[i].home, I l[i].away] 0 false false)]) ?_ ?_
          · apply ct_region
            apply seq_plain; exact do_fieldAddr rfl rfl; exact rfl
            apply seq_plain; exact do_load rfl (by exact ext_get_new rfl) rfl (by exact rfl); exact rfl
            apply seq_plain; exact do_move rfl; exact rfl
            apply seq_plain; exact do_sub rfl rfl (by omega); exact rfl
            apply seq_call (ht := rfl); exact outside24; exact rfl
            apply seq_plain; exact do_move rfl; exact rfl
            refine seq_gsplit rfl rfl (fun u1 => ?_) (fun u1 => ?_)
            · apply seq_passed (hd := rfl) (hl := rfl) (hb := rfl); exact rfl
              apply seq_passed (hd := rfl) (hl := rfl) (hb := rfl); exact rfl
              apply seq_passed (hd := rfl) (hl := rfl) (hb := rfl); exact rfl
              apply seq_passed (hd := rfl) (hl := rfl) (hb := rfl); exact rfl
              apply seq_passed (hd := rfl) (hl := rfl) (hb := rfl); exact rfl
              apply seq_plain; exact do_pick_t rfl rfl; exact rfl
              apply seq_nil
              have e : [l[i].home, l[i].away].any (unknownL n) = true := by
                have u1 : outL l[i].home 0 (n - 1) = true := u1
                simp [outL] at u1
                simp [unknownL]; omega
              rw [e]
              exact jp_of (by repeat (first | exact sub_nil | apply sub_cons rfl))
            · apply seq_guard (hd := rfl) (hl := rfl); exact do_fieldAddr rfl rfl; exact rfl
              apply seq_guard (hd := rfl) (hl := rfl); exact do_load rfl (by exact ext_get_new rfl) rfl (by exact rfl); exact rfl
              apply seq_guard (hd := rfl) (hl := rfl); exact do_move rfl; exact rfl
              apply seq_guard (hd := rfl) (hl := rfl); exact do_sub rfl rfl (by omega); exact rfl
              apply seq_gcall (hg := rfl) (hl := rfl) (ht := rfl); exact outside24; exact rfl
              apply seq_plain; exact do_pick_f rfl rfl; exact rfl
              apply seq_nil
              have e : [l[i].home, l[i].away].any (unknownL n) = outL l[i].away 0 (n - 1) := by
                have u1 : outL l[i].home 0 (n - 1) = false := u1
                simp [outL] at u1
                rw [Bool.eq_iff_iff]
                simp [unknownL, outL]; omega
              rw [e]
              exact jp_of (by repeat (first | exact sub_nil | apply sub_cons rfl))
          skip
          refine ct_cond rfl (fun d2 => ?_) (fun d2 => ?_)
          · apply ct_seq
            apply ct_region
            apply seq_plain; exact do_assign rfl; exact rfl
            apply seq_nil
            apply ct_ret
            refine fin_flatB hc hc' hE rfl rfl ⟨?_, rfl⟩
            have e := errAt_who (pre := l.take i) d1 d2
            rw [← errI_at h1] at e
            simp only [chkL]; rw [if_pos ht, restL_at h1 hJ (by rw [e]; decide), e]; rfl
          · apply ct_skip
            apply ct_seq
            apply ct_seq
            apply ct_region
            apply seq_plain; exact do_fieldAddr rfl rfl; exact rfl
            apply seq_plain; exact do_load rfl (by exact ext_get_new rfl) rfl (by exact rfl); exact rfl
            apply seq_plain; exact do_fieldAddr rfl rfl; exact rfl
            apply seq_plain; exact do_load rfl (by exact ext_get_new rfl) rfl (by exact rfl); exact rfl
            apply seq_plain; exact do_binInt rfl rfl rfl trivial; exact rfl
            apply seq_nil
            refine ct_cond rfl (fun d3 => ?_) (fun d3 => ?_)
            · have d3 : (l[i].home == l[i].away) = true := d3
              apply ct_seq
              apply ct_region
              apply seq_plain; exact do_assign rfl; exact rfl
              apply seq_nil
              apply ct_ret
              refine fin_flatB hc hc' hE rfl rfl ⟨?_, rfl⟩
              have e := errAt_own (pre := l.take i) d1 d2 d3
              rw [← errI_at h1] at e
              simp only [chkL]; rw [if_pos ht, restL_at h1 hJ (by rw [e]; decide), e]; rfl
            · have d3 : (l[i].home == l[i].away) = false := d3
              apply ct_skip
              apply ct_seq
              apply ct_seq
              apply ct_region
              apply seq_plain; exact do_assign rfl; exact rfl
              apply seq_nil
              apply ct_block
              apply ct_loop
              refine lt_upB hc' (fun j => [(0, I n), (1, .slice (some ⟨b, o, none⟩) l.length c), (6, I i), (7, .pointer (some ⟨nb h 0, 0, none⟩)), (8, I j)]) (fun j => ∀ k (hk : k < l.length), k < j → clashL l[i] l[k] = false) i (fun j h2 lo2 hc2 hE2 hj hJ2 ih2 => ?_) 0 (by omega) (by intros; omega) (by repeat (first | exact sub_nil | apply sub_cons rfl))
              have hg2 := hE2 _ _ (ext_get_old hc' hg)
              have h7 := hE2 _ _ (ext_get_new (k := 0) rfl)
              have hhE := (ext_Ext hc').trans hE2
              apply ct_seq
              apply ct_seq
              apply ct_region
              apply seq_plain; exact do_move rfl; exact rfl
              apply seq_plain; exact do_move rfl; exact rfl
              apply seq_plain; exact do_binInt rfl rfl rfl trivial; exact rfl
              apply seq_nil
              refine ct_cond rfl (fun j1 => ?_) (fun j1 => ?_)
              · simp only [decide_eq_true_eq, Int.ofNat_lt] at j1
                have hjl : j < l.length := by omega
                apply ct_skip
                apply ct_seq
                apply ct_block
                apply ct_seq
                apply ct_region
                apply seq_plain; exact do_move rfl; exact rfl
                apply seq_plain; exact do_move rfl; exact rfl
                apply seq_plain; exact do_indexAddrS rfl rfl rfl (by exact idx_nat (by omega)); exact rfl
                apply seq_plain; exact do_load rfl (by exact ext_get_old (by assumption) (by assumption)) rfl (by exact pt_sl (by assumption) (by omega)); exact rfl
                apply seq_newP; exact do_alloc rfl rfl; exact rfl
                apply seq_putC (hc := by assumption); rotate_left; exact do_store rfl rfl (by exact ext_get_new rfl) rfl rfl (nb_own _); rotate_left; exact Nat.le_of_ble_eq_true rfl
                apply ct_seq
                apply ct_region
                apply seq_plain; exact do_fieldAddr rfl rfl; exact rfl
                apply seq_plain; exact do_load rfl (by exact ext_get_new rfl) rfl (by exact rfl); exact rfl
                apply seq_plain; exact do_fieldAddr rfl rfl; exact rfl
                apply seq_plain; exact do_load rfl (by exact ext_get_old (by assumption) (by assumption)) rfl (by exact rfl); exact rfl
                apply seq_plain; exact do_binInt rfl rfl rfl trivial; exact rfl
                apply seq_plain; exact do_move rfl; exact rfl
                refine seq_J [(0, I n), (1, .slice (some ⟨b, o, none⟩) l.length c), (6, I i), (7, .pointer (some ⟨nb h 0, 0, none⟩)), (8, I j), (90, .bool (clashL l[i] l[j]))] (ds := []) (h := ext h2 lo2 [some (.cells [I l[j].day, I l[j].home, I l[j].away] 0 false false)]) ?_ ?_
                · refine seq_gsplit rfl rfl (fun u1 => ?_) (fun u1 => ?_)
                  · have u1 : (l[j].day == l[i].day) = true := u1
                    first | replace u1 := eq_of_beq u1 | replace u1 := ne_of_beq_false u1
                    apply seq_guard (hd := rfl) (hl := rfl); exact do_fieldAddr rfl rfl; exact rfl
                    apply seq_guard (hd := rfl) (hl := rfl); exact do_load rfl (by exact ext_get_new rfl) rfl (by exact rfl); exact rfl
                    apply seq_guard (hd := rfl) (hl := rfl); exact do_fieldAddr rfl rfl; exact rfl
                    apply seq_guard (hd := rfl) (hl := rfl); exact do_load rfl (by exact ext_get_old (by assumption) (by assumption)) rfl (by exact rfl); exact rfl
                    apply seq_guard (hd := rfl) (hl := rfl); exact do_binInt rfl rfl rfl trivial; exact rfl
                    apply seq_guard (hd := rfl) (hl := rfl); exact do_move rfl; exact rfl
                    refine seq_gsplit rfl rfl (fun u2 => ?_) (fun u2 => ?_)
                    · have u2 : (l[j].home == l[i].home) = true := u2
                      first | replace u2 := eq_of_beq u2 | replace u2 := ne_of_beq_false u2
                      have e : clashL l[i] l[j] = true := (by rw [Bool.eq_iff_iff]; simp [clashL, meetsL, twiceL] <;> omega)
                      rw [e]
                      apply seq_passed (hd := rfl) (hl := rfl) (hb := rfl); exact rfl
                      apply seq_passed (hd := rfl) (hl := rfl) (hb := rfl); exact rfl
                      apply seq_passed (hd := rfl) (hl := rfl) (hb := rfl); exact rfl
                      apply seq_passed (hd := rfl) (hl := rfl) (hb := rfl); exact rfl
                      apply seq_passed (hd := rfl) (hl := rfl) (hb := rfl); exact rfl
                      apply seq_guard (hd := rfl) (hl := rfl); exact do_pick_t rfl rfl; exact rfl
                      apply seq_guard (hd := rfl) (hl := rfl); exact do_move rfl; exact rfl
                      apply seq_passed (hd := rfl) (hl := rfl) (hb := rfl); exact rfl
                      apply seq_passed (hd := rfl) (hl := rfl) (hb := rfl); exact rfl
                      apply seq_passed (hd := rfl) (hl := rfl) (hb := rfl); exact rfl
                      apply seq_passed (hd := rfl) (hl := rfl) (hb := rfl); exact rfl
                      apply seq_passed (hd := rfl) (hl := rfl) (hb := rfl); exact rfl
                      apply seq_guard (hd := rfl) (hl := rfl); exact do_pick_t rfl rfl; exact rfl
                      apply seq_guard (hd := rfl) (hl := rfl); exact do_move rfl; exact rfl
                      apply seq_passed (hd := rfl) (hl := rfl) (hb := rfl); exact rfl
                      apply seq_passed (hd := rfl) (hl := rfl) (hb := rfl); exact rfl
                      apply seq_passed (hd := rfl) (hl := rfl) (hb := rfl); exact rfl
                      apply seq_passed (hd := rfl) (hl := rfl) (hb := rfl); exact rfl
                      apply seq_passed (hd := rfl) (hl := rfl) (hb := rfl); exact rfl
                      apply seq_guard (hd := rfl) (hl := rfl); exact do_pick_t rfl rfl; exact rfl
                      apply seq_plain; exact do_pick_t rfl rfl; exact rfl
                      apply seq_nil
                      exact jp_of (by repeat (first | exact sub_nil | apply sub_cons rfl))
                    · have u2 : (l[j].home == l[i].home) = false := u2
                      first | replace u2 := eq_of_beq u2 | replace u2 := ne_of_beq_false u2
                      apply seq_guard (hd := rfl) (hl := rfl); exact do_fieldAddr rfl rfl; exact rfl
                      apply seq_guard (hd := rfl) (hl := rfl); exact do_load rfl (by exact ext_get_new rfl) rfl (by exact rfl); exact rfl
                      apply seq_guard (hd := rfl) (hl := rfl); exact do_fieldAddr rfl rfl; exact rfl
                      apply seq_guard (hd := rfl) (hl := rfl); exact do_load rfl (by exact ext_get_old (by assumption) (by assumption)) rfl (by exact rfl); exact rfl
                      apply seq_guard (hd := rfl) (hl := rfl); exact do_binInt rfl rfl rfl trivial; exact rfl
                      apply seq_guard (hd := rfl) (hl := rfl); exact do_pick_f rfl rfl; exact rfl
                      apply seq_guard (hd := rfl) (hl := rfl); exact do_move rfl; exact rfl
                      refine seq_gsplit rfl rfl (fun u3 => ?_) (fun u3 => ?_)
                      · have u3 : (l[j].home == l[i].away) = true := u3
                        first | replace u3 := eq_of_beq u3 | replace u3 := ne_of_beq_false u3
                        have e : clashL l[i] l[j] = true := (by rw [Bool.eq_iff_iff]; simp [clashL, meetsL, twiceL] <;> omega)
                        rw [e]
                        apply seq_passed (hd := rfl) (hl := rfl) (hb := rfl); exact rfl
                        apply seq_passed (hd := rfl) (hl := rfl) (hb := rfl); exact rfl
                        apply seq_passed (hd := rfl) (hl := rfl) (hb := rfl); exact rfl
                        apply seq_passed (hd := rfl) (hl := rfl) (hb := rfl); exact rfl
                        apply seq_passed (hd := rfl) (hl := rfl) (hb := rfl); exact rfl
                        apply seq_guard (hd := rfl) (hl := rfl); exact do_pick_t rfl rfl; exact rfl
                        apply seq_guard (hd := rfl) (hl := rfl); exact do_move rfl; exact rfl
                        apply seq_passed (hd := rfl) (hl := rfl) (hb := rfl); exact rfl
                        apply seq_passed (hd := rfl) (hl := rfl) (hb := rfl); exact rfl
                        apply seq_passed (hd := rfl) (hl := rfl) (hb := rfl); exact rfl
                        apply seq_passed (hd := rfl) (hl := rfl) (hb := rfl); exact rfl
                        apply seq_passed (hd := rfl) (hl := rfl) (hb := rfl); exact rfl
                        apply seq_guard (hd := rfl) (hl := rfl); exact do_pick_t rfl rfl; exact rfl
                        apply seq_plain; exact do_pick_t rfl rfl; exact rfl
                        apply seq_nil
                        exact jp_of (by repeat (first | exact sub_nil | apply sub_cons rfl))
                      · have u3 : (l[j].home == l[i].away) = false := u3
                        first | replace u3 := eq_of_beq u3 | replace u3 := ne_of_beq_false u3
                        apply seq_guard (hd := rfl) (hl := rfl); exact do_fieldAddr rfl rfl; exact rfl
                        apply seq_guard (hd := rfl) (hl := rfl); exact do_load rfl (by exact ext_get_new rfl) rfl (by exact rfl); exact rfl
                        apply seq_guard (hd := rfl) (hl := rfl); exact do_fieldAddr rfl rfl; exact rfl
                        apply seq_guard (hd := rfl) (hl := rfl); exact do_load rfl (by exact ext_get_old (by assumption) (by assumption)) rfl (by exact rfl); exact rfl
                        apply seq_guard (hd := rfl) (hl := rfl); exact do_binInt rfl rfl rfl trivial; exact rfl
                        apply seq_guard (hd := rfl) (hl := rfl); exact do_pick_f rfl rfl; exact rfl
                        apply seq_guard (hd := rfl) (hl := rfl); exact do_move rfl; exact rfl
                        refine seq_gsplit rfl rfl (fun u4 => ?_) (fun u4 => ?_)
                        · have u4 : (l[j].away == l[i].home) = true := u4
                          first | replace u4 := eq_of_beq u4 | replace u4 := ne_of_beq_false u4
                          have e : clashL l[i] l[j] = true := (by rw [Bool.eq_iff_iff]; simp [clashL, meetsL, twiceL] <;> omega)
                          rw [e]
                          apply seq_passed (hd := rfl) (hl := rfl) (hb := rfl); exact rfl
                          apply seq_passed (hd := rfl) (hl := rfl) (hb := rfl); exact rfl
                          apply seq_passed (hd := rfl) (hl := rfl) (hb := rfl); exact rfl
                          apply seq_passed (hd := rfl) (hl := rfl) (hb := rfl); exact rfl
                          apply seq_passed (hd := rfl) (hl := rfl) (hb := rfl); exact rfl
                          apply seq_guard (hd := rfl) (hl := rfl); exact do_pick_t rfl rfl; exact rfl
                          apply seq_plain; exact do_pick_t rfl rfl; exact rfl
                          apply seq_nil
                          exact jp_of (by repeat (first | exact sub_nil | apply sub_cons rfl))
                        · have u4 : (l[j].away == l[i].home) = false := u4
                          first | replace u4 := eq_of_beq u4 | replace u4 := ne_of_beq_false u4
                          have e : clashL l[i] l[j] = (l[j].away == l[i].away) := (by rw [Bool.eq_iff_iff]; simp [clashL, meetsL, twiceL] <;> omega)
                          rw [e]
                          apply seq_guard (hd := rfl) (hl := rfl); exact do_fieldAddr rfl rfl; exact rfl
                          apply seq_guard (hd := rfl) (hl := rfl); exact do_load rfl (by exact ext_get_new rfl) rfl (by exact rfl); exact rfl
                          apply seq_guard (hd := rfl) (hl := rfl); exact do_fieldAddr rfl rfl; exact rfl
                          apply seq_guard (hd := rfl) (hl := rfl); exact do_load rfl (by exact ext_get_old (by assumption) (by assumption)) rfl (by exact rfl); exact rfl
                          apply seq_guard (hd := rfl) (hl := rfl); exact do_binInt rfl rfl rfl trivial; exact rfl
                          apply seq_guard (hd := rfl) (hl := rfl); exact do_pick_f rfl rfl; exact rfl
                          apply seq_plain; exact do_pick_t rfl rfl; exact rfl
                          apply seq_nil
                          exact jp_of (by repeat (first | exact sub_nil | apply sub_cons rfl))
                  · have u1 : (l[j].day == l[i].day) = false := u1
                    first | replace u1 := eq_of_beq u1 | replace u1 := ne_of_beq_false u1
                    have e : clashL l[i] l[j] = false := (by rw [Bool.eq_iff_iff]; simp [clashL, meetsL, twiceL] <;> omega)
                    rw [e]
                    apply seq_passed (hd := rfl) (hl := rfl) (hb := rfl); exact rfl
                    apply seq_passed (hd := rfl) (hl := rfl) (hb := rfl); exact rfl
                    apply seq_passed (hd := rfl) (hl := rfl) (hb := rfl); exact rfl
                    apply seq_passed (hd := rfl) (hl := rfl) (hb := rfl); exact rfl
                    apply seq_passed (hd := rfl) (hl := rfl) (hb := rfl); exact rfl
                    apply seq_passed (hd := rfl) (hl := rfl) (hb := rfl); exact rfl
                    apply seq_passedU (hd := rfl) (hl := rfl); exact rfl
                    apply seq_passedU (hd := rfl) (hl := rfl); exact rfl
                    apply seq_passedU (hd := rfl) (hl := rfl); exact rfl
                    apply seq_passedU (hd := rfl) (hl := rfl); exact rfl
                    apply seq_passedU (hd := rfl) (hl := rfl); exact rfl
                    apply seq_passed (hd := rfl) (hl := rfl) (hb := rfl); exact rfl
                    apply seq_passed (hd := rfl) (hl := rfl) (hb := rfl); exact rfl
                    apply seq_passedU (hd := rfl) (hl := rfl); exact rfl
                    apply seq_passedU (hd := rfl) (hl := rfl); exact rfl
                    apply seq_passedU (hd := rfl) (hl := rfl); exact rfl
                    apply seq_passedU (hd := rfl) (hl := rfl); exact rfl
                    apply seq_passedU (hd := rfl) (hl := rfl); exact rfl
                    apply seq_passed (hd := rfl) (hl := rfl) (hb := rfl); exact rfl
                    apply seq_passed (hd := rfl) (hl := rfl) (hb := rfl); exact rfl
                    apply seq_passedU (hd := rfl) (hl := rfl); exact rfl
                    apply seq_passedU (hd := rfl) (hl := rfl); exact rfl
                    apply seq_passedU (hd := rfl) (hl := rfl); exact rfl
                    apply seq_passedU (hd := rfl) (hl := rfl); exact rfl
                    apply seq_passedU (hd := rfl) (hl := rfl); exact rfl
                    apply seq_passed (hd := rfl) (hl := rfl) (hb := rfl); exact rfl
                    apply seq_plain; exact do_pick_f rfl rfl; exact rfl
                    apply seq_nil
                    exact jp_of (by repeat (first | exact sub_nil | apply sub_cons rfl))
                · skip
                  refine ct_cond rfl (fun d4 => ?_) (fun d4 => ?_)
                  · apply ct_seq
                    apply ct_region
                    apply seq_plain; exact do_assign rfl; exact rfl
                    apply seq_nil
                    apply ct_ret
                    refine fin_flatB hc hc2 (hE.trans hhE) rfl rfl ⟨?_, rfl⟩
                    have e := errAt_clash d1 d2 d3 (take_any_t hjl j1 d4)
                    rw [← errI_at h1] at e
                    simp only [chkL]; rw [if_pos ht, restL_at h1 hJ (by rw [e]; decide), e]; rfl
                  · apply ct_skip
                    apply ct_region
                    apply seq_plain; exact do_move rfl; exact rfl
                    apply seq_plain; exact do_succ rfl (by omega); exact rfl
                    apply seq_plain; exact do_assign rfl; exact rfl
                    apply seq_nil
                    refine lt_sub ?_ (ih2 (j + 1) _ _ _ hc2 (.refl _) (by omega) (by omega) fun k hk hkj => ?_)
                    · (repeat (first | exact sub_nil | apply sub_cons rfl))
                    · rcases Nat.lt_or_ge k j with h | h
                      · exact hJ2 k hk h
                      · have : k = j := by omega
                        subst this; exact d4
              · simp only [decide_eq_false_iff_not, Int.ofNat_lt] at j1
                have d4 : (l.take i).any (clashL l[i]) = false := take_any_f fun k hk hki => hJ2 k hk (by omega)
                apply ct_exit
                apply exit_eq; exact rfl
                apply ct_seq
                apply ct_region
                apply seq_plain; exact do_assign rfl; exact rfl
                apply seq_nil
                apply ct_block
                apply ct_loop
                refine lt_up (fun j => [(0, I n), (1, .slice (some ⟨b, o, none⟩) l.length c), (6, I i), (7, .pointer (some ⟨nb h 0, 0, none⟩)), (10, I j)]) (fun j => ∀ k (hk : k < l.length), k < j → twiceL l[i] l[k] = false) i (fun j hj hJ4 ih4 => ?_) 0 (by omega) (by intros; omega) (by repeat (first | exact sub_nil | apply sub_cons rfl))
                apply ct_seq
                apply ct_seq
                apply ct_region
                apply seq_plain; exact do_move rfl; exact rfl
                apply seq_plain; exact do_move rfl; exact rfl
                apply seq_plain; exact do_binInt rfl rfl rfl trivial; exact rfl
                apply seq_nil
                refine ct_cond rfl (fun k1 => ?_) (fun k1 => ?_)
                · simp only [decide_eq_true_eq, Int.ofNat_lt] at k1
                  have hjl : j < l.length := by omega
                  apply ct_skip
                  apply ct_seq
                  apply ct_block
                  apply ct_seq
                  apply ct_draw (by assumption); decide +kernel
                  apply sd_plain (hfree := rfl); intro _; exact do_move rfl; exact rfl
                  apply sd_plain (hfree := rfl); intro _; exact do_move rfl; exact rfl
                  apply sd_plain (hfree := rfl); intro _; exact do_indexAddrS rfl rfl rfl (by exact idx_nat (by omega)); exact rfl
                  apply sd_plain (hfree := rfl); intro _; exact do_fieldAddr rfl rfl; exact rfl
                  apply sd_look (hfree := rfl); exact do_load rfl (by exact ext_get_old (by assumption) (by assumption)) rfl (by exact pt_sl1 (by assumption) (by omega) (Nat.le_of_ble_eq_true rfl) rfl); exact rfl
                  apply sd_plain (hfree := rfl); intro _; exact do_fieldAddr rfl rfl; exact rfl
                  apply sd_look (hfree := rfl); exact do_load rfl (by exact ext_get_old (by assumption) (by assumption)) rfl (by exact rfl); exact rfl
                  apply sd_plain (hfree := rfl); intro _; exact do_binInt rfl rfl rfl trivial; exact rfl
                  apply sd_plain (hfree := rfl); intro _; exact do_move rfl; exact rfl
                  refine sd_J [(0, I n), (1, .slice (some ⟨b, o, none⟩) l.length c), (6, I i), (7, .pointer (some ⟨nb h 0, 0, none⟩)), (10, I j), (113, .bool (twiceL l[i] l[j]))] (h := ext h2 lo2 []) ?_ ?_
                  · refine sd_gsplit rfl rfl (fun u1 => ?_) (fun u1 => ?_)
                    · have u1 : (l[j].home == l[i].home) = true := u1
                      first | replace u1 := eq_of_beq u1 | replace u1 := ne_of_beq_false u1
                      have e : twiceL l[i] l[j] = (l[j].away == l[i].away) := (by rw [Bool.eq_iff_iff]; simp [clashL, meetsL, twiceL] <;> omega)
                      rw [e]
                      apply sd_guard (hfree := rfl) (hg := rfl) (hl := rfl); intro _; exact do_move rfl; exact rfl
                      apply sd_guard (hfree := rfl) (hg := rfl) (hl := rfl); intro _; exact do_move rfl; exact rfl
                      apply sd_guard (hfree := rfl) (hg := rfl) (hl := rfl); intro _; exact do_indexAddrS rfl rfl rfl (by exact idx_nat (by omega)); exact rfl
                      apply sd_guard (hfree := rfl) (hg := rfl) (hl := rfl); intro _; exact do_fieldAddr rfl rfl; exact rfl
                      apply sd_guardL (hfree := rfl) (hg := rfl) (hl := rfl); exact do_load rfl (by exact ext_get_old (by assumption) (by assumption)) rfl (by exact pt_sl1 (by assumption) (by omega) (Nat.le_of_ble_eq_true rfl) rfl); exact rfl
                      apply sd_guard (hfree := rfl) (hg := rfl) (hl := rfl); intro _; exact do_fieldAddr rfl rfl; exact rfl
                      apply sd_guardL (hfree := rfl) (hg := rfl) (hl := rfl); exact do_load rfl (by exact ext_get_old (by assumption) (by assumption)) rfl (by exact rfl); exact rfl
                      apply sd_guard (hfree := rfl) (hg := rfl) (hl := rfl); intro _; exact do_binInt rfl rfl rfl trivial; exact rfl
                      apply sd_plain (hfree := rfl); intro _; exact do_pick_t rfl rfl; exact rfl
                      apply sd_nil
                      exact jp_of (by repeat (first | exact sub_nil | apply sub_cons rfl))
                    · have u1 : (l[j].home == l[i].home) = false := u1
                      first | replace u1 := eq_of_beq u1 | replace u1 := ne_of_beq_false u1
                      have e : twiceL l[i] l[j] = false := (by rw [Bool.eq_iff_iff]; simp [clashL, meetsL, twiceL] <;> omega)
                      rw [e]
                      apply sd_passed (hg := rfl) (hl := rfl) (hb := rfl); exact rfl
                      apply sd_passed (hg := rfl) (hl := rfl) (hb := rfl); exact rfl
                      apply sd_passed (hg := rfl) (hl := rfl) (hb := rfl); exact rfl
                      apply sd_passed (hg := rfl) (hl := rfl) (hb := rfl); exact rfl
                      apply sd_passed (hg := rfl) (hl := rfl) (hb := rfl); exact rfl
                      apply sd_passed (hg := rfl) (hl := rfl) (hb := rfl); exact rfl
                      apply sd_passed (hg := rfl) (hl := rfl) (hb := rfl); exact rfl
                      apply sd_passed (hg := rfl) (hl := rfl) (hb := rfl); exact rfl
                      apply sd_plain (hfree := rfl); intro _; exact do_pick_f rfl rfl; exact rfl
                      apply sd_nil
                      exact jp_of (by repeat (first | exact sub_nil | apply sub_cons rfl))
                  skip
                  refine ct_cond rfl (fun d5 => ?_) (fun d5 => ?_)
                  · apply ct_seq
                    apply ct_region
                    apply seq_plain; exact do_assign rfl; exact rfl
                    apply seq_nil
                    apply ct_ret
                    refine fin_flatB hc hc2 (hE.trans hhE) rfl rfl ⟨?_, rfl⟩
                    have e := errAt_twice d1 d2 d3 d4 (take_any_t hjl k1 d5)
                    rw [← errI_at h1] at e
                    simp only [chkL]; rw [if_pos ht, restL_at h1 hJ (by rw [e]; decide), e]; rfl
                  · apply ct_skip
                    apply ct_region
                    apply seq_plain; exact do_move rfl; exact rfl
                    apply seq_plain; exact do_succ rfl (by omega); exact rfl
                    apply seq_plain; exact do_assign rfl; exact rfl
                    apply seq_nil
                    refine lt_sub ?_ (ih4 (j + 1) (by omega) (by omega) fun k hk hkj => ?_)
                    · (repeat (first | exact sub_nil | apply sub_cons rfl))
                    · rcases Nat.lt_or_ge k j with h | h
                      · exact hJ4 k hk h
                      · have : k = j := by omega
                        subst this; exact d5
                · simp only [decide_eq_false_iff_not, Int.ofNat_lt] at k1
                  have d5 : (l.take i).any (twiceL l[i]) = false := take_any_f fun k hk hki => hJ4 k hk (by omega)
                  have e := errAt_ok d1 d2 d3 d4 d5
                  rw [← errI_at h1] at e
                  apply ct_exit
                  apply exit_eq; exact rfl
                  apply ct_region
                  apply seq_plain; exact do_move rfl; exact rfl
                  apply seq_plain; exact do_succ rfl (by omega); exact rfl
                  apply seq_plain; exact do_assign rfl; exact rfl
                  apply seq_nil
                  refine lt_sub ?_ (ih (i + 1) _ _ _ hc2 hhE (by omega) (by omega) fun j hji => ?_)
                  · (repeat (first | exact sub_nil | apply sub_cons rfl))
                  · rcases Nat.lt_or_ge j i with h | h
                    · exact hJ j h
                    · have : j = i := by omega
                      subst this; exact e
      · simp only [decide_eq_false_iff_not, Int.ofNat_lt] at h1
        apply ct_exit
        apply exit_eq; exact rfl
        apply ct_seq
        apply ct_region
        apply seq_plain; exact do_assign rfl; exact rfl
        apply seq_nil
        apply ct_ret
        refine fin_flatB hc hc' hE rfl rfl ⟨?_, rfl⟩
        simp only [chkL]; rw [if_pos ht, restL_none fun j hj => hJ j (by omega)]; rfl
