/- Contracts: what solves a plan (the reference's word). -/
import Derived.Test.YtiggikjbknoohaaGreatDoorPnD
noncomputable section
namespace Go.Proofs.YtiggikjbknoohaaGreatDoor
open Go Go.Den
set_option maxRecDepth 100000

def Mt (m : List (Int × Int)) (i k : Nat) : Bool := meetsL (m[i]?.getD (0, 0)).1 (m[i]?.getD (0, 0)).2 (m[k]?.getD (0, 0)).1 (m[k]?.getD (0, 0)).2
theorem Mt_eq {m : List (Int × Int)} {i k : Nat} (hi : i < m.length) (hk : k < m.length) : Mt m i k = meetsL m[i].1 m[i].2 m[k].1 m[k].2 := by simp [Mt, hi, hk]
def okAt (D : Nat → List Int) (m : List (Int × Int)) (days : List Int) (i : Nat) : Bool := dayIn (D i) (nth days i) && (List.range i).all fun k => !((nth days k == nth days i) && Mt m i k)
def solvesB (D : Nat → List Int) (m : List (Int × Int)) (days : List Int) : Bool := (List.range days.length).all (okAt D m days)
theorem dayIn_iff {l : List Int} {d : Int} : dayIn l d = true ↔ d ∈ l := by
  unfold dayIn
  rw [List.any_eq_true]
  constructor
  · rintro ⟨x, hx, h⟩
    simp only [beq_iff_eq] at h
    rw [h]; exact hx
  · intro h
    exact ⟨d, h, by simp⟩
theorem nth_get {l : List Int} {i : Nat} {d : Int} (h : l[i]? = some d) : nth l i = d := by simp [nth, h]
theorem solvesB_iff {D : Nat → List Int} {m : List (Int × Int)} {days : List Int} : solvesB D m days = true ↔ Plan.Valid D (Mt m) days := by
  unfold solvesB
  rw [List.all_eq_true]
  constructor
  · intro h
    refine ⟨fun i d hd => ?_, fun i k d hk hd hd2 => ?_⟩
    · have := h i (List.mem_range.2 (List.getElem?_eq_some_iff.1 hd).1)
      unfold okAt at this
      rw [Bool.and_eq_true, nth_get hd] at this
      exact dayIn_iff.1 this.1
    · have := h i (List.mem_range.2 (List.getElem?_eq_some_iff.1 hd).1)
      unfold okAt at this
      rw [Bool.and_eq_true, List.all_eq_true] at this
      have := this.2 k (List.mem_range.2 hk)
      rw [nth_get hd, nth_get hd2] at this
      simpa using this
  · intro h i hi
    have hi := List.mem_range.1 hi
    have hd : days[i]? = some days[i] := List.getElem?_eq_getElem hi
    unfold okAt
    rw [Bool.and_eq_true, List.all_eq_true]
    refine ⟨by rw [nth_get hd]; exact dayIn_iff.2 (h.day i _ hd), fun k hk => ?_⟩
    have hk := List.mem_range.1 hk
    have hd2 : days[k]? = some days[k] := List.getElem?_eq_getElem (by omega)
    rw [nth_get hd, nth_get hd2]
    by_cases e : days[k] = days[i]
    · have := h.apart i k days[i] hk hd (by rw [hd2, e])
      rw [this]; simp
    · have : (days[k] == days[i]) = false := by simpa using e
      rw [this]; rfl
theorem solvesB_f {D : Nat → List Int} {m : List (Int × Int)} {days : List Int} {i : Nat} (hi : i < days.length) (h : okAt D m days i = false) : solvesB D m days = false := by
  unfold solvesB
  rw [List.all_eq_false]
  exact ⟨i, List.mem_range.2 hi, by rw [h]; simp⟩

set_option maxHeartbeats 4000000 in
theorem solves_c {H : AHeap} {mq bq dq : Option Addr} {mc bc dc : Nat} {m : List (Int × Int)} {busy : List Bz} {frm to : Int} {days : List Int} (hm : SlAt H 2 p2 mq m) (hb : BzAt H bq busy) (hd : SlAt H 1 i1 dq days) (hg : GoodP m busy frm to) (hn : days.length ≤ m.length) :
    Ret Tryz.prog 113 [Pv mq m.length mc bq busy.length bc frm to, .slice dq days.length dc] H (.bool (solvesB (datesL m busy frm to) m days)) H := by
  have hmn := hg.mn
  refine fn_start Tryz.func113 rfl rfl rfl fun hc => ?_
  apply ct_seq
  apply ct_region
  apply seq_newP; exact do_box rfl rfl rfl; exact rfl
  apply seq_plain; exact do_assign rfl; exact rfl
  apply seq_nil
  apply ct_seq
  apply ct_seq
  apply ct_region
  apply seq_plain; exact do_assign rfl; exact rfl
  apply seq_nil
  apply ct_block
  apply ct_loop
  refine lt_upB hc (fun i => [(1, .slice dq days.length dc), (2, .pointer (some ⟨nb H 0, 0, none⟩)), (5, I i)]) (fun i => ∀ j, j < i → okAt (datesL m busy frm to) m days j = true) days.length (fun i h lo hc' hE0 hi hJ ih => ?_) 0 (by omega) (by intros; omega) (by repeat (first | exact sub_nil | apply sub_cons rfl))
  have hE := (ext_Ext hc).trans hE0
  have hbox := hE0 _ _ (ext_get_new (k := 0) rfl)
  clear hE0
  apply ct_seq
  apply ct_seq
  apply ct_region
  apply seq_plain; exact do_move rfl; exact rfl
  apply seq_plain; exact do_move rfl; exact rfl
  apply seq_plain; exact do_lenS rfl rfl rfl; exact rfl
  apply seq_plain; exact do_binInt rfl rfl rfl trivial; exact rfl
  apply seq_nil
  refine ct_cond rfl (fun h1 => ?_) (fun h1 => ?_)
  · simp only [decide_eq_true_eq, Int.ofNat_lt] at h1
    have him : i < m.length := by omega
    obtain ⟨b, o, cs, z, s, ro, rfl, hgd, hw⟩ := hd.out (by intro e; rw [e] at h1; simp at h1)
    have hgd := hE _ _ hgd
    have en := nth_eq h1
    have c0 := fun L => refDates_c (mc := mc) (bc := bc) (hm.ext (hE.trans (ext_Ext hc' (lo := lo) (L := L)))) (hb.ext (hE.trans (ext_Ext hc'))) hg him
    apply ct_skip
    apply ct_seq
    apply ct_block
    apply ct_seq
    apply ct_seq
    apply ct_draw (by assumption); decide +kernel
    apply sd_look (hfree := rfl); exact do_load rfl (by exact ext_get_old (by assumption) (by assumption)) rfl (by exact rfl); exact rfl
    apply sd_plain (hfree := rfl); intro _; exact do_move rfl; exact rfl
    cases hD : datesL m busy frm to i with
    | nil =>
      rw [hD] at c0
      apply sd_call (ht := rfl); exact c0 _; exact rfl
      apply sd_plain (hfree := rfl); intro _; exact do_move rfl; exact rfl
      apply sd_plain (hfree := rfl); intro _; exact do_move rfl; exact rfl
      apply sd_plain (hfree := rfl); intro _; exact do_indexAddrS rfl rfl rfl (by exact idx_nat (by omega)); exact rfl
      apply sd_look (hfree := rfl); exact do_load rfl (by exact ext_get_old (by assumption) (by assumption)) rfl (by exact pt_sl0 (by assumption) (by omega)); exact rfl
      apply sd_call (ht := rfl); exact has_c (l := []) (d := days[i]) .nil (by simp); exact rfl
      apply sd_plain (hfree := rfl); intro _; exact do_unOp rfl rfl; exact rfl
      apply sd_nil
      refine ct_cond_t rfl rfl ?_
      apply ct_seq
      apply ct_region
      apply seq_plain; exact do_assign rfl; exact rfl
      apply seq_nil
      apply ct_ret
      refine fin_flatB hc hc' hE rfl rfl ⟨?_, rfl⟩
      rw [solvesB_f h1 (by unfold okAt; rw [hD]; rfl)]; rfl
    | cons a r =>
      have hDl : (a :: r).length ≤ 1000 := by
        rw [← hD]
        unfold datesL
        have := daysTo_len (busy := busy) (p := m[i]?.getD (0, 0)) (frm := frm) (n := (to - frm + 1).toNat)
        have := hg.days
        omega
      rw [hD] at c0
      refine sd_callN (v := fun b => lstV b (a :: r)) rfl rfl rfl (c0 _) rfl ?_
      apply sd_plain (hfree := rfl); intro _; exact do_move rfl; exact rfl
      apply sd_plain (hfree := rfl); intro _; exact do_move rfl; exact rfl
      apply sd_plain (hfree := rfl); intro _; exact do_indexAddrS rfl rfl rfl (by exact idx_nat (by omega)); exact rfl
      apply sd_look (hfree := rfl); exact do_load rfl (by exact ext_get_old (by assumption) (by assumption)) rfl (by exact pt_sl0 (by assumption) (by omega)); exact rfl
      apply sd_callM (ht := rfl) (hw := rfl); decide +kernel; exact has_c (l := a :: r) (d := days[i]) (slAt_flat (f := i1) (fun _ => rfl) (ext_get_new (by exact rfl))) (by omega); exact rfl
      apply sd_plain (hfree := rfl); intro _; exact do_unOp rfl rfl; exact rfl
      apply sd_nil
      rw [← hD]
      refine ct_cond rfl (fun h2 => ?_) (fun h2 => ?_)
      · apply ct_seq
        apply ct_region
        apply seq_plain; exact do_assign rfl; exact rfl
        apply seq_nil
        apply ct_ret
        refine fin_flatB hc hc' hE rfl rfl ⟨?_, rfl⟩
        have h2 : dayIn (datesL m busy frm to i) days[i] = false := by simpa using h2
        rw [solvesB_f h1 (by unfold okAt; rw [← en, h2]; rfl)]; rfl
      · have h2 : dayIn (datesL m busy frm to i) days[i] = true := by simpa using h2
        apply ct_skip
        apply ct_seq
        apply ct_region
        apply seq_plain; exact do_assign rfl; exact rfl
        apply seq_nil
        apply ct_block
        apply ct_loop
        refine lt_upB hc' (fun k => [(1, .slice (some ⟨b, o, none⟩) days.length dc), (2, .pointer (some ⟨nb H 0, 0, none⟩)), (5, I i), (6, I k)]) (fun k => ∀ j, j < k → ((nth days j == nth days i) && Mt m i j) = false) i (fun k h2' lo2 hc2 hE2 hk hJ2 ih2 => ?_) 0 (by omega) (by intros; omega) (by repeat (first | exact sub_nil | apply sub_cons rfl))
        have hh2 := (ext_Ext hc').trans hE2
        have hbox2 := hh2 _ _ hbox
        have hgd2 := hh2 _ _ hgd
        apply ct_seq
        apply ct_seq
        apply ct_region
        apply seq_plain; exact do_move rfl; exact rfl
        apply seq_plain; exact do_move rfl; exact rfl
        apply seq_plain; exact do_binInt rfl rfl rfl trivial; exact rfl
        apply seq_nil
        refine ct_cond rfl (fun h3 => ?_) (fun h3 => ?_)
        · simp only [decide_eq_true_eq, Int.ofNat_lt] at h3
          have hkd : k < days.length := by omega
          have hkm : k < m.length := by omega
          have enk := nth_eq hkd
          obtain ⟨bm, om, csm, zm, sm, rom, rfl, hgm, hwm⟩ := (hm.ext (hE.trans hh2)).out (by intro e; rw [e] at him; simp at him)
          apply ct_skip
          apply ct_seq
          apply ct_block
          apply ct_seq
          apply ct_draw (by assumption); decide +kernel
          apply sd_plain (hfree := rfl); intro _; exact do_fieldAddr rfl rfl; exact rfl
          apply sd_look (hfree := rfl); exact do_load rfl (by exact ext_get_old (by assumption) (by assumption)) rfl (by exact rfl); exact rfl
          apply sd_plain (hfree := rfl); intro _; exact do_move rfl; exact rfl
          apply sd_plain (hfree := rfl); intro _; exact do_indexAddrS rfl rfl rfl (by exact idx_nat (by omega)); exact rfl
          apply sd_look (hfree := rfl); exact do_load rfl (by exact ext_get_old (by assumption) (by assumption)) rfl (by exact pt_sl (by assumption) (by omega)); exact rfl
          apply sd_plain (hfree := rfl); intro _; exact do_fieldAddr rfl rfl; exact rfl
          apply sd_look (hfree := rfl); exact do_load rfl (by exact ext_get_old (by assumption) (by assumption)) rfl (by exact rfl); exact rfl
          apply sd_plain (hfree := rfl); intro _; exact do_move rfl; exact rfl
          apply sd_plain (hfree := rfl); intro _; exact do_indexAddrS rfl rfl rfl (by exact idx_nat (by omega)); exact rfl
          apply sd_look (hfree := rfl); exact do_load rfl (by exact ext_get_old (by assumption) (by assumption)) rfl (by exact pt_sl (by assumption) (by omega)); exact rfl
          apply sd_newP (hfree := rfl); exact do_alloc rfl rfl; exact rfl
          apply sd_newP (hfree := rfl); exact do_alloc rfl rfl; exact rfl
          refine sd_turn (k := 0) (j := 10) hc2 rfl rfl rfl (by decide +kernel) (by decide +kernel) (do_store rfl rfl (by exact ext_get_new rfl) rfl rfl (nb_own _)) ?_
          refine sd_turn (k := 1) (j := 11) hc2 rfl rfl rfl (by decide +kernel) (by decide +kernel) (do_store rfl rfl (by exact ext_get_new rfl) rfl rfl (nb_own _)) ?_
          apply sd_nil
          apply ct_seq
          apply ct_draw (by assumption); decide +kernel
          apply sd_plain (hfree := rfl); intro _; exact do_move rfl; exact rfl
          apply sd_plain (hfree := rfl); intro _; exact do_move rfl; exact rfl
          apply sd_plain (hfree := rfl); intro _; exact do_indexAddrS rfl rfl rfl (by exact idx_nat (by omega)); exact rfl
          apply sd_look (hfree := rfl); exact do_load rfl (by exact ext_get_old (by assumption) (by assumption)) rfl (by exact pt_sl0 (by assumption) (by omega)); exact rfl
          apply sd_plain (hfree := rfl); intro _; exact do_move rfl; exact rfl
          apply sd_plain (hfree := rfl); intro _; exact do_move rfl; exact rfl
          apply sd_plain (hfree := rfl); intro _; exact do_indexAddrS rfl rfl rfl (by exact idx_nat (by omega)); exact rfl
          apply sd_look (hfree := rfl); exact do_load rfl (by exact ext_get_old (by assumption) (by assumption)) rfl (by exact pt_sl0 (by assumption) (by omega)); exact rfl
          apply sd_plain (hfree := rfl); intro _; exact do_binInt rfl rfl rfl trivial; exact rfl
          apply sd_plain (hfree := rfl); intro _; exact do_move rfl; exact rfl
          refine sd_J [(1, .slice (some ⟨b, o, none⟩) days.length dc), (2, .pointer (some ⟨nb H 0, 0, none⟩)), (5, I i), (6, I k), (75, .bool ((nth days k == nth days i) && Mt m i k))] (h := ext h2' lo2 [some (.cells [I m[i].1, I m[i].2] 0 false false), some (.cells [I m[k].1, I m[k].2] 0 false false)]) ?_ ?_
          · rw [Mt_eq him hkm, ← en, ← enk]
            unfold meetsL
            refine sd_gsplit rfl rfl (fun u1 => ?_) (fun u1 => ?_)
            · have u1 : (days[k] == days[i]) = true := u1
              rw [u1]
              apply sd_guard (hfree := rfl) (hg := rfl) (hl := rfl); intro _; exact do_indexAddrA rfl rfl rfl (by exact rfl); exact rfl
              apply sd_guardL (hfree := rfl) (hg := rfl) (hl := rfl); exact do_load rfl (by exact ext_get_new rfl) rfl (by exact rfl); exact rfl
              apply sd_guard (hfree := rfl) (hg := rfl) (hl := rfl); intro _; exact do_indexAddrA rfl rfl rfl (by exact rfl); exact rfl
              apply sd_guardL (hfree := rfl) (hg := rfl) (hl := rfl); exact do_load rfl (by exact ext_get_new rfl) rfl (by exact rfl); exact rfl
              apply sd_guard (hfree := rfl) (hg := rfl) (hl := rfl); intro _; exact do_binInt rfl rfl rfl trivial; exact rfl
              apply sd_guard (hfree := rfl) (hg := rfl) (hl := rfl); intro _; exact do_move rfl; exact rfl
              refine sd_gsplit rfl rfl (fun u2 => ?_) (fun u2 => ?_)
              · have u2 : (m[i].1 == m[k].1) = true := u2
                rw [u2]
                apply sd_passed (hg := rfl) (hl := rfl) (hb := rfl); exact rfl
                apply sd_passed (hg := rfl) (hl := rfl) (hb := rfl); exact rfl
                apply sd_passed (hg := rfl) (hl := rfl) (hb := rfl); exact rfl
                apply sd_passed (hg := rfl) (hl := rfl) (hb := rfl); exact rfl
                apply sd_passed (hg := rfl) (hl := rfl) (hb := rfl); exact rfl
                apply sd_guard (hfree := rfl) (hg := rfl) (hl := rfl); intro _; exact do_pick_t rfl rfl; exact rfl
                apply sd_guard (hfree := rfl) (hg := rfl) (hl := rfl); intro _; exact do_move rfl; exact rfl
                apply sd_passed (hg := rfl) (hl := rfl) (hb := rfl); exact rfl
                apply sd_passed (hg := rfl) (hl := rfl) (hb := rfl); exact rfl
                apply sd_passed (hg := rfl) (hl := rfl) (hb := rfl); exact rfl
                apply sd_passed (hg := rfl) (hl := rfl) (hb := rfl); exact rfl
                apply sd_passed (hg := rfl) (hl := rfl) (hb := rfl); exact rfl
                apply sd_guard (hfree := rfl) (hg := rfl) (hl := rfl); intro _; exact do_pick_t rfl rfl; exact rfl
                apply sd_guard (hfree := rfl) (hg := rfl) (hl := rfl); intro _; exact do_move rfl; exact rfl
                apply sd_passed (hg := rfl) (hl := rfl) (hb := rfl); exact rfl
                apply sd_passed (hg := rfl) (hl := rfl) (hb := rfl); exact rfl
                apply sd_passed (hg := rfl) (hl := rfl) (hb := rfl); exact rfl
                apply sd_passed (hg := rfl) (hl := rfl) (hb := rfl); exact rfl
                apply sd_passed (hg := rfl) (hl := rfl) (hb := rfl); exact rfl
                apply sd_guard (hfree := rfl) (hg := rfl) (hl := rfl); intro _; exact do_pick_t rfl rfl; exact rfl
                apply sd_plain (hfree := rfl); intro _; exact do_pick_t rfl rfl; exact rfl
                apply sd_nil
                exact jp_of (by repeat (first | exact sub_nil | apply sub_cons rfl))
              · have u2 : (m[i].1 == m[k].1) = false := u2
                rw [u2]
                apply sd_guard (hfree := rfl) (hg := rfl) (hl := rfl); intro _; exact do_indexAddrA rfl rfl rfl (by exact rfl); exact rfl
                apply sd_guardL (hfree := rfl) (hg := rfl) (hl := rfl); exact do_load rfl (by exact ext_get_new rfl) rfl (by exact rfl); exact rfl
                apply sd_guard (hfree := rfl) (hg := rfl) (hl := rfl); intro _; exact do_indexAddrA rfl rfl rfl (by exact rfl); exact rfl
                apply sd_guardL (hfree := rfl) (hg := rfl) (hl := rfl); exact do_load rfl (by exact ext_get_new rfl) rfl (by exact rfl); exact rfl
                apply sd_guard (hfree := rfl) (hg := rfl) (hl := rfl); intro _; exact do_binInt rfl rfl rfl trivial; exact rfl
                apply sd_guard (hfree := rfl) (hg := rfl) (hl := rfl); intro _; exact do_pick_f rfl rfl; exact rfl
                apply sd_guard (hfree := rfl) (hg := rfl) (hl := rfl); intro _; exact do_move rfl; exact rfl
                refine sd_gsplit rfl rfl (fun u3 => ?_) (fun u3 => ?_)
                · have u3 : (m[i].1 == m[k].2) = true := u3
                  rw [u3]
                  apply sd_passed (hg := rfl) (hl := rfl) (hb := rfl); exact rfl
                  apply sd_passed (hg := rfl) (hl := rfl) (hb := rfl); exact rfl
                  apply sd_passed (hg := rfl) (hl := rfl) (hb := rfl); exact rfl
                  apply sd_passed (hg := rfl) (hl := rfl) (hb := rfl); exact rfl
                  apply sd_passed (hg := rfl) (hl := rfl) (hb := rfl); exact rfl
                  apply sd_guard (hfree := rfl) (hg := rfl) (hl := rfl); intro _; exact do_pick_t rfl rfl; exact rfl
                  apply sd_guard (hfree := rfl) (hg := rfl) (hl := rfl); intro _; exact do_move rfl; exact rfl
                  apply sd_passed (hg := rfl) (hl := rfl) (hb := rfl); exact rfl
                  apply sd_passed (hg := rfl) (hl := rfl) (hb := rfl); exact rfl
                  apply sd_passed (hg := rfl) (hl := rfl) (hb := rfl); exact rfl
                  apply sd_passed (hg := rfl) (hl := rfl) (hb := rfl); exact rfl
                  apply sd_passed (hg := rfl) (hl := rfl) (hb := rfl); exact rfl
                  apply sd_guard (hfree := rfl) (hg := rfl) (hl := rfl); intro _; exact do_pick_t rfl rfl; exact rfl
                  apply sd_plain (hfree := rfl); intro _; exact do_pick_t rfl rfl; exact rfl
                  apply sd_nil
                  exact jp_of (by repeat (first | exact sub_nil | apply sub_cons rfl))
                · have u3 : (m[i].1 == m[k].2) = false := u3
                  rw [u3]
                  apply sd_guard (hfree := rfl) (hg := rfl) (hl := rfl); intro _; exact do_indexAddrA rfl rfl rfl (by exact rfl); exact rfl
                  apply sd_guardL (hfree := rfl) (hg := rfl) (hl := rfl); exact do_load rfl (by exact ext_get_new rfl) rfl (by exact rfl); exact rfl
                  apply sd_guard (hfree := rfl) (hg := rfl) (hl := rfl); intro _; exact do_indexAddrA rfl rfl rfl (by exact rfl); exact rfl
                  apply sd_guardL (hfree := rfl) (hg := rfl) (hl := rfl); exact do_load rfl (by exact ext_get_new rfl) rfl (by exact rfl); exact rfl
                  apply sd_guard (hfree := rfl) (hg := rfl) (hl := rfl); intro _; exact do_binInt rfl rfl rfl trivial; exact rfl
                  apply sd_guard (hfree := rfl) (hg := rfl) (hl := rfl); intro _; exact do_pick_f rfl rfl; exact rfl
                  apply sd_guard (hfree := rfl) (hg := rfl) (hl := rfl); intro _; exact do_move rfl; exact rfl
                  refine sd_gsplit rfl rfl (fun u4 => ?_) (fun u4 => ?_)
                  · have u4 : (m[i].2 == m[k].1) = true := u4
                    rw [u4]
                    apply sd_passed (hg := rfl) (hl := rfl) (hb := rfl); exact rfl
                    apply sd_passed (hg := rfl) (hl := rfl) (hb := rfl); exact rfl
                    apply sd_passed (hg := rfl) (hl := rfl) (hb := rfl); exact rfl
                    apply sd_passed (hg := rfl) (hl := rfl) (hb := rfl); exact rfl
                    apply sd_passed (hg := rfl) (hl := rfl) (hb := rfl); exact rfl
                    apply sd_guard (hfree := rfl) (hg := rfl) (hl := rfl); intro _; exact do_pick_t rfl rfl; exact rfl
                    apply sd_plain (hfree := rfl); intro _; exact do_pick_t rfl rfl; exact rfl
                    apply sd_nil
                    exact jp_of (by repeat (first | exact sub_nil | apply sub_cons rfl))
                  · have u4 : (m[i].2 == m[k].1) = false := u4
                    rw [u4]
                    apply sd_guard (hfree := rfl) (hg := rfl) (hl := rfl); intro _; exact do_indexAddrA rfl rfl rfl (by exact rfl); exact rfl
                    apply sd_guardL (hfree := rfl) (hg := rfl) (hl := rfl); exact do_load rfl (by exact ext_get_new rfl) rfl (by exact rfl); exact rfl
                    apply sd_guard (hfree := rfl) (hg := rfl) (hl := rfl); intro _; exact do_indexAddrA rfl rfl rfl (by exact rfl); exact rfl
                    apply sd_guardL (hfree := rfl) (hg := rfl) (hl := rfl); exact do_load rfl (by exact ext_get_new rfl) rfl (by exact rfl); exact rfl
                    apply sd_guard (hfree := rfl) (hg := rfl) (hl := rfl); intro _; exact do_binInt rfl rfl rfl trivial; exact rfl
                    apply sd_guard (hfree := rfl) (hg := rfl) (hl := rfl); intro _; exact do_pick_f rfl rfl; exact rfl
                    apply sd_plain (hfree := rfl); intro _; exact do_pick_t rfl rfl; exact rfl
                    apply sd_nil
                    exact jp_of (by repeat (first | exact sub_nil | apply sub_cons rfl))
            · have u1 : (days[k] == days[i]) = false := u1
              rw [u1]
              apply sd_passed (hg := rfl) (hl := rfl) (hb := rfl); exact rfl
              apply sd_passed (hg := rfl) (hl := rfl) (hb := rfl); exact rfl
              apply sd_passed (hg := rfl) (hl := rfl) (hb := rfl); exact rfl
              apply sd_passed (hg := rfl) (hl := rfl) (hb := rfl); exact rfl
              apply sd_passed (hg := rfl) (hl := rfl) (hb := rfl); exact rfl
              apply sd_passed (hg := rfl) (hl := rfl) (hb := rfl); exact rfl
              apply sd_passedU (hg := rfl) (hl := rfl); exact rfl
              apply sd_passedU (hg := rfl) (hl := rfl); exact rfl
              apply sd_passedU (hg := rfl) (hl := rfl); exact rfl
              apply sd_passedU (hg := rfl) (hl := rfl); exact rfl
              apply sd_passedU (hg := rfl) (hl := rfl); exact rfl
              apply sd_passed (hg := rfl) (hl := rfl) (hb := rfl); exact rfl
              apply sd_passed (hg := rfl) (hl := rfl) (hb := rfl); exact rfl
              apply sd_passedU (hg := rfl) (hl := rfl); exact rfl
              apply sd_passedU (hg := rfl) (hl := rfl); exact rfl
              apply sd_passedU (hg := rfl) (hl := rfl); exact rfl
              apply sd_passedU (hg := rfl) (hl := rfl); exact rfl
              apply sd_passedU (hg := rfl) (hl := rfl); exact rfl
              apply sd_passed (hg := rfl) (hl := rfl) (hb := rfl); exact rfl
              apply sd_passed (hg := rfl) (hl := rfl) (hb := rfl); exact rfl
              apply sd_passedU (hg := rfl) (hl := rfl); exact rfl
              apply sd_passedU (hg := rfl) (hl := rfl); exact rfl
              apply sd_passedU (hg := rfl) (hl := rfl); exact rfl
              apply sd_passedU (hg := rfl) (hl := rfl); exact rfl
              apply sd_passedU (hg := rfl) (hl := rfl); exact rfl
              apply sd_passed (hg := rfl) (hl := rfl) (hb := rfl); exact rfl
              apply sd_plain (hfree := rfl); intro _; exact do_pick_f rfl rfl; exact rfl
              apply sd_nil
              exact jp_of (by repeat (first | exact sub_nil | apply sub_cons rfl))
          skip
          refine ct_cond rfl (fun h4 => ?_) (fun h4 => ?_)
          · apply ct_seq
            apply ct_region
            apply seq_plain; exact do_assign rfl; exact rfl
            apply seq_nil
            apply ct_ret
            refine fin_flatB hc hc2 (hE.trans hh2) rfl rfl ⟨?_, rfl⟩
            have : okAt (datesL m busy frm to) m days i = false := by
              unfold okAt
              rw [Bool.and_eq_false_iff]
              right
              rw [List.all_eq_false]
              exact ⟨k, List.mem_range.2 h3, by rw [h4]; simp⟩
            rw [solvesB_f h1 this]; rfl
          · apply ct_skip
            apply ct_region
            apply seq_plain; exact do_move rfl; exact rfl
            apply seq_plain; exact do_succ rfl (by omega); exact rfl
            apply seq_plain; exact do_assign rfl; exact rfl
            apply seq_nil
            refine lt_sub (by repeat (first | exact sub_nil | apply sub_cons rfl)) (ih2 (k + 1) _ _ _ hc2 (.refl _) (by omega) (by omega) fun j hj => ?_)
            rcases Nat.lt_or_ge j k with hh | hh
            · exact hJ2 j hh
            · have : j = k := by omega
              subst this; exact h4
        · simp only [decide_eq_false_iff_not, Int.ofNat_lt] at h3
          apply ct_exit
          apply exit_eq; exact rfl
          apply ct_region
          apply seq_plain; exact do_move rfl; exact rfl
          apply seq_plain; exact do_succ rfl (by omega); exact rfl
          apply seq_plain; exact do_assign rfl; exact rfl
          apply seq_nil
          refine lt_sub (by repeat (first | exact sub_nil | apply sub_cons rfl)) (ih (i + 1) _ _ _ hc2 hh2 (by omega) (by omega) fun j hj => ?_)
          rcases Nat.lt_or_ge j i with hh | hh
          · exact hJ j hh
          · have : j = i := by omega
            subst this
            unfold okAt
            rw [Bool.and_eq_true, List.all_eq_true, ← en]
            exact ⟨h2, fun x hx => by
              have := hJ2 x (by have := List.mem_range.1 hx; omega)
              rw [← en] at this
              rw [this]; rfl⟩
  · simp only [decide_eq_false_iff_not, Int.ofNat_lt] at h1
    apply ct_exit
    apply exit_eq; exact rfl
    apply ct_seq
    apply ct_region
    apply seq_plain; exact do_assign rfl; exact rfl
    apply seq_nil
    apply ct_ret
    refine fin_flatB hc hc' hE rfl rfl ⟨?_, rfl⟩
    have : solvesB (datesL m busy frm to) m days = true := by
      unfold solvesB
      rw [List.all_eq_true]
      intro x hx
      exact hJ x (by have := List.mem_range.1 hx; omega)
    rw [this]; rfl
end Go.Proofs.YtiggikjbknoohaaGreatDoor
