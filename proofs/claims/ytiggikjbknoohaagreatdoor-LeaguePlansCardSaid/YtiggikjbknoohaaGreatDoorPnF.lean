/- Contracts: the reference's search for days. -/
import Derived.Test.YtiggikjbknoohaaGreatDoorPnE
import Derived.Test.YtiggikjbknoohaaGreatDoorSxU
noncomputable section
namespace Go.Proofs.YtiggikjbknoohaaGreatDoor
open Go Go.Den
set_option maxRecDepth 100000

def postV (H : AHeap) (dq : Option Addr) (dc : Nat) (days : List Int) (f : Nat) : Option (List Int) → Value
  | none => .tuple ⟨[.slice none 0 0, .bool false]⟩
  | some sol => .tuple ⟨[match f with | 0 => .slice dq days.length dc | _ + 1 => lstV H.fresh sol, .bool true]⟩
def postH (H : AHeap) (f : Nat) : Option (List Int) → AHeap
  | none => H
  | some sol => match f with
    | 0 => H
    | _ + 1 => lstH H 1 i1 sol
theorem lst_of {H : AHeap} {L : List (Option ABlk)} {l : List Int} {k0 : Nat} (hL : k0 ≤ L.length) : Lst H (L ++ lstL 1 i1 l) 1 i1 k0 (.slice (lstP (nb H L.length) l) l.length l.length) l := by
  cases l with
  | nil => exact ⟨.inl ⟨rfl, rfl⟩⟩
  | cons a r => exact ⟨.inr ⟨by simp, L.length, hL, rfl, List.getElem?_concat_length⟩⟩

theorem flat_i1_map : ∀ l : List Int, l.flatMap i1 = l.map I
  | [] => rfl
  | a :: r => by simp only [List.flatMap_cons, flat_i1_map r, List.map_cons]; rfl
set_option maxHeartbeats 8000000 in
theorem refPost_c {mq bq : Option Addr} {mc bc : Nat} {m : List (Int × Int)} {busy : List Bz} {frm to : Int} (hg : GoodP m busy frm to) : ∀ (f : Nat) {H : AHeap} {dq : Option Addr} {dc : Nat} {days : List Int}, SlAt H 2 p2 mq m → BzAt H bq busy → SlAt H 1 i1 dq days → (days = [] → dq = none ∧ dc = 0) → days.length + f = m.length →
    Ret Tryz.prog 41 [Pv mq m.length mc bq busy.length bc frm to, .slice dq days.length dc] H (postV H dq dc days f (Plan.refX (datesL m busy frm to) (solvesB (datesL m busy frm to) m) f days)) (postH H f (Plan.refX (datesL m busy frm to) (solvesB (datesL m busy frm to) m) f days)) := by
  intro f
  have hmn := hg.mn
  induction f with
  | zero =>
    intro H dq dc days hm hb hd hq hl
    refine fn_start Tryz.func41 rfl rfl rfl fun hc => ?_
    apply ct_seq
    apply ct_region
    apply seq_newP; exact do_box rfl rfl rfl; exact rfl
    apply seq_plain; exact do_assign rfl; exact rfl
    apply seq_plain; exact do_assign rfl; exact rfl
    apply seq_nil
    apply ct_seq
    apply ct_seq
    apply ct_region
    apply seq_plain; exact do_load rfl (by exact ext_get_new rfl) rfl (by exact rfl); exact rfl
    apply seq_plain; exact do_move rfl; exact rfl
    apply seq_call (ht := rfl); exact solves_c (hm.ext (ext_Ext hc)) (hb.ext (ext_Ext hc)) (hd.ext (ext_Ext hc)) hg (by omega); exact rfl
    apply seq_plain; exact do_unOp rfl rfl; exact rfl
    apply seq_nil
    refine ct_cond rfl (fun h1 => ?_) (fun h1 => ?_)
    · have h1 : solvesB (datesL m busy frm to) m days = false := by simpa using h1
      apply ct_seq
      apply ct_region
      apply seq_plain; exact do_assign rfl; exact rfl
      apply seq_plain; exact do_assign rfl; exact rfl
      apply seq_nil
      apply ct_ret
      refine fin_flat hc rfl rfl ⟨?_, ?_⟩ <;> simp [Plan.refX, h1, postV, postH, packA]
    · have h1 : solvesB (datesL m busy frm to) m days = true := by simpa using h1
      apply ct_skip
      apply ct_seq
      apply ct_seq
      apply ct_region
      apply seq_plain; exact do_move rfl; exact rfl
      apply seq_plain; exact do_lenS rfl rfl rfl; exact rfl
      apply seq_plain; exact do_fieldAddr rfl rfl; exact rfl
      apply seq_plain; exact do_load rfl (by exact ext_get_new rfl) rfl (by exact rfl); exact rfl
      apply seq_plain; exact do_lenS rfl rfl rfl; exact rfl
      apply seq_plain; exact do_binInt rfl rfl rfl trivial; exact rfl
      apply seq_nil
      refine ct_cond_t rfl (by simp; omega) ?_
      apply ct_seq
      apply ct_region
      apply seq_plain; exact do_move rfl; exact rfl
      apply seq_plain; exact do_assign rfl; exact rfl
      apply seq_plain; exact do_assign rfl; exact rfl
      apply seq_nil
      apply ct_ret
      have e : Plan.refX (datesL m busy frm to) (solvesB (datesL m busy frm to) m) 0 days = some days := by simp [Plan.refX, h1]
      rw [e]
      by_cases hne : days = []
      · obtain ⟨rfl, rfl⟩ := hq hne
        exact fin_flat hc rfl rfl ⟨rfl, rfl⟩
      · obtain ⟨b, o, cs, z, s, ro, rfl, hgd, hw⟩ := hd.out hne
        refine fin_keep hc rfl ?_ ⟨rfl, rfl⟩
        simp [packA, renV, renL, renOf_old (hc.lt hgd)]
  | succ f ihf =>
    intro H dq dc days hm hb hd hq hl
    refine fn_start Tryz.func41 rfl rfl rfl fun hc => ?_
    apply ct_seq
    apply ct_region
    apply seq_newP; exact do_box rfl rfl rfl; exact rfl
    apply seq_plain; exact do_assign rfl; exact rfl
    apply seq_plain; exact do_assign rfl; exact rfl
    apply seq_nil
    apply ct_seq
    apply ct_seq
    apply ct_region
    apply seq_plain; exact do_load rfl (by exact ext_get_new rfl) rfl (by exact rfl); exact rfl
    apply seq_plain; exact do_move rfl; exact rfl
    apply seq_call (ht := rfl); exact solves_c (hm.ext (ext_Ext hc)) (hb.ext (ext_Ext hc)) (hd.ext (ext_Ext hc)) hg (by omega); exact rfl
    apply seq_plain; exact do_unOp rfl rfl; exact rfl
    apply seq_nil
    refine ct_cond rfl (fun h1 => ?_) (fun h1 => ?_)
    · have h1 : solvesB (datesL m busy frm to) m days = false := by simpa using h1
      apply ct_seq
      apply ct_region
      apply seq_plain; exact do_assign rfl; exact rfl
      apply seq_plain; exact do_assign rfl; exact rfl
      apply seq_nil
      apply ct_ret
      refine fin_flat hc rfl rfl ⟨?_, ?_⟩ <;> simp [Plan.refX, h1, postV, postH, packA]
    · have h1 : solvesB (datesL m busy frm to) m days = true := by simpa using h1
      have e : Plan.refX (datesL m busy frm to) (solvesB (datesL m busy frm to) m) (f + 1) days = (datesL m busy frm to days.length).findSome? fun d => Plan.refX (datesL m busy frm to) (solvesB (datesL m busy frm to) m) f (days ++ [d]) := by simp [Plan.refX, h1]
      have hdl : (datesL m busy frm to days.length).length ≤ 1000 := by
        unfold datesL
        have := daysTo_len (busy := busy) (p := m[days.length]?.getD (0, 0)) (frm := frm) (n := (to - frm + 1).toNat)
        have := hg.days
        omega
      apply ct_skip
      apply ct_seq
      apply ct_seq
      apply ct_region
      apply seq_plain; exact do_move rfl; exact rfl
      apply seq_plain; exact do_lenS rfl rfl rfl; exact rfl
      apply seq_plain; exact do_fieldAddr rfl rfl; exact rfl
      apply seq_plain; exact do_load rfl (by exact ext_get_new rfl) rfl (by exact rfl); exact rfl
      apply seq_plain; exact do_lenS rfl rfl rfl; exact rfl
      apply seq_plain; exact do_binInt rfl rfl rfl trivial; exact rfl
      apply seq_nil
      refine ct_cond_f rfl (by simp; omega) ?_
      apply ct_skip
      apply ct_seq
      apply ct_region
      apply seq_plain; exact do_load rfl (by exact ext_get_new rfl) rfl (by exact rfl); exact rfl
      apply seq_plain; exact do_move rfl; exact rfl
      apply seq_plain; exact do_lenS rfl rfl rfl; exact rfl
      have c1 := fun L => refDates_c (mc := mc) (bc := bc) (k := days.length) (hm.ext (ext_Ext hc (lo := H.fresh) (L := L))) (hb.ext (ext_Ext hc)) hg (by omega)
      simp only [lstH_ext, ext_fresh] at c1
      apply seq_call (ht := rfl); exact c1 _; exact rfl
      apply seq_plain; exact do_assign rfl; exact rfl
      apply seq_nil
      apply ct_seq
      apply ct_seq
      apply ct_region
      apply seq_plain; exact do_assign rfl; exact rfl
      apply seq_nil
      apply ct_block
      apply ct_loop
      have hl1 := lst_of (H := H) (L := [some (.cells [.slice mq m.length mc, .slice bq busy.length bc, I frm, I to] 0 false false)]) (l := datesL m busy frm to days.length) (k0 := 1) (by simp)
      rw [e]
      generalize datesL m busy frm to days.length = dl at hdl hl1 ⊢
      have h1l : dl.length < 1000000 := by omega
      refine lt_meas (α := Nat × List (Option ABlk)) (fun a => [(1, .slice dq days.length dc), (2, .pointer (some ⟨nb H 0, 0, none⟩)), (6, .slice (lstP (nb H 1) dl) dl.length dl.length), (7, I a.1)]) (fun a => ext H H.fresh a.2)
        (fun a => a.1 ≤ dl.length ∧ a.2[0]? = some (some (.cells [.slice mq m.length mc, .slice bq busy.length bc, I frm, I to] 0 false false)) ∧ Lst H a.2 1 i1 1 (.slice (lstP (nb H 1) dl) dl.length dl.length) dl ∧ (dl.take a.1).findSome? (fun d => Plan.refX (datesL m busy frm to) (solvesB (datesL m busy frm to) m) f (days ++ [d])) = none) (fun a => dl.length - a.1) (fun a ha ih => ?_) (0, _) ⟨by omega, rfl, hl1, by simp⟩ (by repeat (first | exact sub_nil | apply sub_cons rfl)) (.refl _)
      obtain ⟨j, L⟩ := a
      obtain ⟨hj, hbox, hv, hno⟩ := ha
      simp only at hj hbox hv hno ih ⊢
      have ih' := fun j' L' a1 a2 a3 a4 a5 => ih (j', L') a1 ⟨a2, a3, a4, a5⟩
      simp only at ih'
      clear ih
      have hL0 : 0 < L.length := (List.getElem?_eq_some_iff.1 hbox).1
      apply ct_seq
      apply ct_seq
      apply ct_region
      apply seq_plain; exact do_move rfl; exact rfl
      apply seq_plain; exact do_move rfl; exact rfl
      apply seq_plain; exact do_lenS rfl rfl rfl; exact rfl
      apply seq_plain; exact do_binInt rfl rfl rfl trivial; exact rfl
      apply seq_nil
      refine ct_cond rfl (fun h2 => ?_) (fun h2 => ?_)
      · simp only [decide_eq_true_eq, Int.ofNat_lt] at h2
        rcases hv.out with ⟨e6, _⟩ | ⟨_, k6, hk6, e6, hL6⟩
        · rw [e6] at h2; simp at h2
        have hp6 : lstP (nb H 1) dl = some ⟨nb H k6, 0, none⟩ := by
          injection e6
        have hk6L : k6 < L.length := (List.getElem?_eq_some_iff.1 hL6).1
        rw [hp6]
        rw [flat_i1_map] at hL6
        have hr : ∃ r, r = Plan.refX (datesL m busy frm to) (solvesB (datesL m busy frm to) m) f (days ++ [dl[j]]) := ⟨_, rfl⟩
        obtain ⟨r, hr0⟩ := hr
        apply ct_skip
        apply ct_seq
        apply ct_block
        apply ct_seq
        apply ct_draw (by assumption); decide +kernel
        apply sd_look (hfree := rfl); exact do_load rfl (by exact ext_get_new (getApp (by assumption))) rfl (by exact rfl); exact rfl
        apply sd_newS (hfree := rfl); exact do_buildSlice rfl rfl rfl rfl rfl rfl rfl; exact rfl
        apply sd_plain (hfree := rfl); intro _; exact do_move rfl; exact rfl
        refine sd_JX (α := Value × List (Option ABlk)) (fun a => [(1, .slice dq days.length dc), (2, .pointer (some ⟨nb H 0, 0, none⟩)), (6, .slice (some ⟨nb H k6, 0, none⟩) dl.length dl.length), (7, I j), (8, a.1), (9, .bool r.isSome)]) (fun a => ext H H.fresh a.2)
          (fun a => a.2[0]? = some (some (.cells [.slice mq m.length mc, .slice bq busy.length bc, I frm, I to] 0 false false)) ∧ a.2[k6]? = some (some (.cells (dl.map I) 1 true false)) ∧ ∀ sol, r = some sol → Lst H a.2 1 i1 1 a.1 sol) ?_ (fun a ha => ?_)
        · rw [hr0]
          clear ih' hr0 r
          have hdj : ∃ dj, dj = dl[j] := ⟨_, rfl⟩
          obtain ⟨dj, hdj⟩ := hdj
          rw [← hdj]
          by_cases hde : days = []
          · obtain ⟨rfl, rfl⟩ := hq hde
            subst hde
            refine sd_lookM rfl rfl (by decide +kernel) (do_appendN rfl rfl rfl rfl rfl rfl (Nat.le_refl _) (Nat.le_of_ble_eq_true rfl) (Nat.ne_of_beq_eq_false rfl) (Nat.ne_of_beq_eq_false rfl)) rfl ?_
            apply sd_plain (hfree := rfl); intro _; exact do_move rfl; exact rfl
            apply sd_plain (hfree := rfl); intro _; exact do_move rfl; exact rfl
            apply sd_plain (hfree := rfl); intro _; exact do_indexAddrS rfl rfl rfl (by exact idx_nat (by omega)); exact rfl
            apply sd_look (hfree := rfl); exact do_load rfl (by exact ext_get_new (getApp (by assumption))) rfl (by exact pt_map (by omega)); exact rfl
            apply sd_newS (hfree := rfl); exact do_buildSlice rfl rfl rfl rfl rfl rfl rfl; exact rfl
            rw [← hdj]
            refine sd_newSA rfl rfl (by decide +kernel) (do_appendB (n := 1) rfl rfl rfl rfl rfl rfl (ext_get_new (getR (k := 1) rfl)) rfl (ext_get_new (getR (k := 0) rfl)) (Nat.le_of_ble_eq_true rfl) (Nat.ne_of_beq_eq_false rfl) (Nat.ne_of_beq_eq_false rfl) (by omega)) rfl ?_
            refine ⟨?_⟩
            have hX : (L ++ [some (ABlk.cells [] 1 false false), some (ABlk.cells [I dj] 1 false false), some (ABlk.cells [I dj] 1 true false)])[L.length + 2]? = some (some (.cells ((([] : List Int) ++ [dj]).map I) 1 true false)) := getR (k := 2) rfl
            have c := ihf (H := ext H H.fresh (L ++ [some (ABlk.cells [] 1 false false), some (ABlk.cells [I dj] 1 false false), some (ABlk.cells [I dj] 1 true false)])) (dq := some ⟨nb H (L.length + 2), 0, none⟩) (dc := (([] : List Int) ++ [dj]).length) (days := ([] : List Int) ++ [dj]) (hm.ext (ext_Ext hc)) (hb.ext (ext_Ext hc)) (slAt_map (g := I) (ext_get_new hX)) (fun e => absurd e (by simp)) (by rw [List.length_append]; simp at hl ⊢; omega)
            have e1 : (([] : List Int) ++ [dj]).length = ([] : List Int).length + 1 := by simp
            have hk0 : 1 ≤ L.length + 2 := by omega
            cases hr : Plan.refX (datesL m busy frm to) (solvesB (datesL m busy frm to) m) f (([] : List Int) ++ [dj]) with
            | none =>
              rw [hr, e1] at c
              have c : Ret Tryz.prog 41 _ (ext H H.fresh (L ++ [some (ABlk.cells [] 1 false false), some (ABlk.cells [I dj] 1 false false), some (ABlk.cells [I dj] 1 true false)])) (.tuple ⟨[.slice none 0 0, .bool false]⟩) (ext H H.fresh (L ++ [some (ABlk.cells [] 1 false false), some (ABlk.cells [I dj] 1 false false), some (ABlk.cells [I dj] 1 true false)])) := c
              refine se_call (by decide +kernel) hc rfl c (by exact Nat.le_refl _) rfl ?_
              refine se_plain rfl (fun h => do_move rfl) rfl ?_
              refine se_plain rfl (fun h => do_extract rfl rfl) rfl ?_
              refine se_plain rfl (fun h => do_extract rfl rfl) rfl ?_
              refine se_plain rfl (fun h => do_assign rfl) rfl ?_
              refine se_plain rfl (fun h => do_assign rfl) rfl ?_
              apply se_nil
              refine jx_hq (.slice none 0 0, L ++ [some (ABlk.cells [] 1 false false), some (ABlk.cells [I dj] 1 false false), some (ABlk.cells [I dj] 1 true false)]) ⟨by rw [List.getElem?_append_left hL0]; exact hbox, by rw [List.getElem?_append_left hk6L]; exact hL6, fun sol hs => (by cases hs)⟩ (by repeat (first | exact sub_nil | apply sub_cons rfl)) ?_
              rw [List.append_nil]
              exact .refl _
            | some sol =>
              rw [hr, e1] at c
              cases f with
              | zero =>
                have hsol : sol = ([] : List Int) ++ [dj] := by
                  simp only [Plan.refX] at hr
                  split at hr
                  · cases hr; rfl
                  · cases hr
                have c : Ret Tryz.prog 41 _ (ext H H.fresh (L ++ [some (ABlk.cells [] 1 false false), some (ABlk.cells [I dj] 1 false false), some (ABlk.cells [I dj] 1 true false)])) (.tuple ⟨[.slice (some ⟨nb H (L.length + 2), 0, none⟩) (([] : List Int).length + 1) (([] : List Int).length + 1), .bool true]⟩) (ext H H.fresh (L ++ [some (ABlk.cells [] 1 false false), some (ABlk.cells [I dj] 1 false false), some (ABlk.cells [I dj] 1 true false)])) := c
                refine se_call (by decide +kernel) hc rfl c (by exact Nat.le_refl _) rfl ?_
                refine se_plain rfl (fun h => do_move rfl) rfl ?_
                refine se_plain rfl (fun h => do_extract rfl rfl) rfl ?_
                refine se_plain rfl (fun h => do_extract rfl rfl) rfl ?_
                refine se_plain rfl (fun h => do_assign rfl) rfl ?_
                refine se_plain rfl (fun h => do_assign rfl) rfl ?_
                apply se_nil
                refine jx_hq (.slice (some ⟨nb H (L.length + 2), 0, none⟩) (([] : List Int).length + 1) (([] : List Int).length + 1), L ++ [some (ABlk.cells [] 1 false false), some (ABlk.cells [I dj] 1 false false), some (ABlk.cells [I dj] 1 true false)]) ⟨by rw [List.getElem?_append_left hL0]; exact hbox, by rw [List.getElem?_append_left hk6L]; exact hL6, fun sol' hs => ?_⟩ (by repeat (first | exact sub_nil | apply sub_cons rfl)) ?_
                · cases hs
                  subst hsol
                  exact ⟨.inr ⟨by simp, _, hk0, by rw [e1], by rw [flat_i1_map]; exact hX⟩⟩
                · rw [List.append_nil]
                  exact .refl _
              | succ f =>
                have c : Ret Tryz.prog 41 _ (ext H H.fresh (L ++ [some (ABlk.cells [] 1 false false), some (ABlk.cells [I dj] 1 false false), some (ABlk.cells [I dj] 1 true false)])) (.tuple ⟨[lstV (ext H H.fresh (L ++ [some (ABlk.cells [] 1 false false), some (ABlk.cells [I dj] 1 false false), some (ABlk.cells [I dj] 1 true false)])).fresh sol, .bool true]⟩) (lstH (ext H H.fresh (L ++ [some (ABlk.cells [] 1 false false), some (ABlk.cells [I dj] 1 false false), some (ABlk.cells [I dj] 1 true false)])) 1 i1 sol) := c
                rw [lstH_ext, ext_fresh] at c
                refine se_call (by decide +kernel) hc rfl c (by simp) rfl ?_
                refine se_plain rfl (fun h => do_move rfl) rfl ?_
                refine se_plain rfl (fun h => do_extract rfl rfl) rfl ?_
                refine se_plain rfl (fun h => do_extract rfl rfl) rfl ?_
                refine se_plain rfl (fun h => do_assign rfl) rfl ?_
                refine se_plain rfl (fun h => do_assign rfl) rfl ?_
                apply se_nil
                refine jx_hq (lstV (nb H (L ++ [some (ABlk.cells [] 1 false false), some (ABlk.cells [I dj] 1 false false), some (ABlk.cells [I dj] 1 true false)]).length) sol, L ++ [some (ABlk.cells [] 1 false false), some (ABlk.cells [I dj] 1 false false), some (ABlk.cells [I dj] 1 true false)] ++ lstL 1 i1 sol) ⟨getApp (by rw [List.getElem?_append_left hL0]; exact hbox), getApp (by rw [List.getElem?_append_left hk6L]; exact hL6), fun sol' hs => ?_⟩ (by repeat (first | exact sub_nil | apply sub_cons rfl)) ?_
                · cases hs
                  exact lst_of (by rw [List.length_append]; omega)
                · rw [List.append_nil]
                  exact .refl _
          · obtain ⟨bd, od, csd, zd, sd, rod, rfl, hgd, hwd⟩ := hd.out hde
            have hdl0 : 0 < days.length := List.length_pos_iff.2 hde
            refine sd_newSA rfl rfl (by decide +kernel) (do_appendB rfl rfl rfl rfl rfl rfl (ext_get_old hc hgd) (slAt_ints hwd) (ext_get_new (getR (k := 0) rfl)) (Nat.le_trans (Nat.mul_le_mul_right _ (by omega : 2 * (0 + days.length) + 1000 ≤ 3000)) (Nat.le_of_ble_eq_true rfl)) (Nat.ne_of_beq_eq_false rfl) (Nat.ne_of_beq_eq_false rfl) hdl0) rfl ?_
            apply sd_plain (hfree := rfl); intro _; exact do_move rfl; exact rfl
            apply sd_plain (hfree := rfl); intro _; exact do_move rfl; exact rfl
            apply sd_plain (hfree := rfl); intro _; exact do_indexAddrS rfl rfl rfl (by exact idx_nat (by omega)); exact rfl
            apply sd_look (hfree := rfl); exact do_load rfl (by exact ext_get_new (getApp (by assumption))) rfl (by exact pt_map (by omega)); exact rfl
            apply sd_newS (hfree := rfl); exact do_buildSlice rfl rfl rfl rfl rfl rfl rfl; exact rfl
            rw [← hdj]
            refine sd_repl (k := 1) (j := 3) hc rfl rfl (by decide +kernel) rfl rfl (by decide +kernel) (do_append1 (n := 1) rfl rfl rfl rfl rfl rfl (ext_get_new (getR (k := 2) rfl)) rfl (ext_get_new (getR (k := 1) rfl)) (by rw [List.length_map]; exact (Nat.mul_one _).symm) (nb_own _) rfl (Nat.le_trans (Nat.mul_le_mul_right _ (by omega : 2 * (days.length + 1) + 1000 ≤ 3000)) (Nat.le_of_ble_eq_true rfl)) (Nat.ne_of_beq_eq_false rfl) (Nat.ne_of_beq_eq_false rfl) (by omega)) rfl ?_
            have hX : (L ++ [some (ABlk.cells [] 1 false false), none, some (ABlk.cells [I dj] 1 false false), some (ABlk.cells (days.map I ++ [I dj]) 1 true false)])[L.length + 3]? = some (some (.cells ((days ++ [dj]).map I) 1 true false)) := getR (k := 3) (by rw [List.map_append]; rfl)
            have c := ihf (H := ext H H.fresh (L ++ [some (ABlk.cells [] 1 false false), none, some (ABlk.cells [I dj] 1 false false), some (ABlk.cells (days.map I ++ [I dj]) 1 true false)])) (dq := some ⟨nb H (L.length + 3), 0, none⟩) (dc := (days ++ [dj]).length) (days := days ++ [dj]) (hm.ext (ext_Ext hc)) (hb.ext (ext_Ext hc)) (slAt_map (g := I) (ext_get_new hX)) (fun e => absurd e (by simp)) (by rw [List.length_append]; simp at hl ⊢; omega)
            have e1 : (days ++ [dj]).length = days.length + 1 := by simp
            have hk0 : 1 ≤ L.length + 3 := by omega
            cases hr : Plan.refX (datesL m busy frm to) (solvesB (datesL m busy frm to) m) f (days ++ [dj]) with
            | none =>
              rw [hr, e1] at c
              have c : Ret Tryz.prog 41 _ (ext H H.fresh (L ++ [some (ABlk.cells [] 1 false false), none, some (ABlk.cells [I dj] 1 false false), some (ABlk.cells (days.map I ++ [I dj]) 1 true false)])) (.tuple ⟨[.slice none 0 0, .bool false]⟩) (ext H H.fresh (L ++ [some (ABlk.cells [] 1 false false), none, some (ABlk.cells [I dj] 1 false false), some (ABlk.cells (days.map I ++ [I dj]) 1 true false)])) := c
              refine se_call (by decide +kernel) hc rfl c (by exact Nat.le_refl _) rfl ?_
              refine se_plain rfl (fun h => do_move rfl) rfl ?_
              refine se_plain rfl (fun h => do_extract rfl rfl) rfl ?_
              refine se_plain rfl (fun h => do_extract rfl rfl) rfl ?_
              refine se_plain rfl (fun h => do_assign rfl) rfl ?_
              refine se_plain rfl (fun h => do_assign rfl) rfl ?_
              apply se_nil
              refine jx_hq (.slice none 0 0, L ++ [some (ABlk.cells [] 1 false false), none, some (ABlk.cells [I dj] 1 false false), some (ABlk.cells (days.map I ++ [I dj]) 1 true false)]) ⟨by rw [List.getElem?_append_left hL0]; exact hbox, by rw [List.getElem?_append_left hk6L]; exact hL6, fun sol hs => (by cases hs)⟩ (by repeat (first | exact sub_nil | apply sub_cons rfl)) ?_
              rw [List.append_nil]
              exact .refl _
            | some sol =>
              rw [hr, e1] at c
              cases f with
              | zero =>
                have hsol : sol = days ++ [dj] := by
                  simp only [Plan.refX] at hr
                  split at hr
                  · cases hr; rfl
                  · cases hr
                have c : Ret Tryz.prog 41 _ (ext H H.fresh (L ++ [some (ABlk.cells [] 1 false false), none, some (ABlk.cells [I dj] 1 false false), some (ABlk.cells (days.map I ++ [I dj]) 1 true false)])) (.tuple ⟨[.slice (some ⟨nb H (L.length + 3), 0, none⟩) (days ++ [dj]).length (days.length + 1), .bool true]⟩) (ext H H.fresh (L ++ [some (ABlk.cells [] 1 false false), none, some (ABlk.cells [I dj] 1 false false), some (ABlk.cells (days.map I ++ [I dj]) 1 true false)])) := c
                rw [e1] at c
                refine se_call (by decide +kernel) hc rfl c (by exact Nat.le_refl _) rfl ?_
                refine se_plain rfl (fun h => do_move rfl) rfl ?_
                refine se_plain rfl (fun h => do_extract rfl rfl) rfl ?_
                refine se_plain rfl (fun h => do_extract rfl rfl) rfl ?_
                refine se_plain rfl (fun h => do_assign rfl) rfl ?_
                refine se_plain rfl (fun h => do_assign rfl) rfl ?_
                apply se_nil
                refine jx_hq (.slice (some ⟨nb H (L.length + 3), 0, none⟩) (days.length + 1) (days.length + 1), L ++ [some (ABlk.cells [] 1 false false), none, some (ABlk.cells [I dj] 1 false false), some (ABlk.cells (days.map I ++ [I dj]) 1 true false)]) ⟨by rw [List.getElem?_append_left hL0]; exact hbox, by rw [List.getElem?_append_left hk6L]; exact hL6, fun sol' hs => ?_⟩ (by repeat (first | exact sub_nil | apply sub_cons rfl)) ?_
                · cases hs
                  subst hsol
                  exact ⟨.inr ⟨by simp, _, hk0, by rw [e1], by rw [flat_i1_map]; exact hX⟩⟩
                · rw [List.append_nil]
                  exact .refl _
              | succ f =>
                have c : Ret Tryz.prog 41 _ (ext H H.fresh (L ++ [some (ABlk.cells [] 1 false false), none, some (ABlk.cells [I dj] 1 false false), some (ABlk.cells (days.map I ++ [I dj]) 1 true false)])) (.tuple ⟨[lstV (ext H H.fresh (L ++ [some (ABlk.cells [] 1 false false), none, some (ABlk.cells [I dj] 1 false false), some (ABlk.cells (days.map I ++ [I dj]) 1 true false)])).fresh sol, .bool true]⟩) (lstH (ext H H.fresh (L ++ [some (ABlk.cells [] 1 false false), none, some (ABlk.cells [I dj] 1 false false), some (ABlk.cells (days.map I ++ [I dj]) 1 true false)])) 1 i1 sol) := c
                rw [lstH_ext, ext_fresh] at c
                refine se_call (by decide +kernel) hc rfl c (by simp) rfl ?_
                refine se_plain rfl (fun h => do_move rfl) rfl ?_
                refine se_plain rfl (fun h => do_extract rfl rfl) rfl ?_
                refine se_plain rfl (fun h => do_extract rfl rfl) rfl ?_
                refine se_plain rfl (fun h => do_assign rfl) rfl ?_
                refine se_plain rfl (fun h => do_assign rfl) rfl ?_
                apply se_nil
                refine jx_hq (lstV (nb H (L ++ [some (ABlk.cells [] 1 false false), none, some (ABlk.cells [I dj] 1 false false), some (ABlk.cells (days.map I ++ [I dj]) 1 true false)]).length) sol, L ++ [some (ABlk.cells [] 1 false false), none, some (ABlk.cells [I dj] 1 false false), some (ABlk.cells (days.map I ++ [I dj]) 1 true false)] ++ lstL 1 i1 sol) ⟨getApp (by rw [List.getElem?_append_left hL0]; exact hbox), getApp (by rw [List.getElem?_append_left hk6L]; exact hL6), fun sol' hs => ?_⟩ (by repeat (first | exact sub_nil | apply sub_cons rfl)) ?_
                · cases hs
                  exact lst_of (by rw [List.length_append]; omega)
                · rw [List.append_nil]
                  exact .refl _
        · obtain ⟨v8, L8⟩ := a
          obtain ⟨j1, j2, j3⟩ := ha
          simp only at j1 j2 j3 ⊢
          apply ct_seq
          apply ct_region
          apply seq_plain; exact do_move rfl; exact rfl
          apply seq_nil
          cases r with
          | some sol =>
            refine ct_cond_t rfl rfl ?_
            apply ct_seq
            apply ct_region
            apply seq_plain; exact do_move rfl; exact rfl
            apply seq_plain; exact do_assign rfl; exact rfl
            apply seq_plain; exact do_assign rfl; exact rfl
            apply seq_nil
            apply ct_ret
            rw [findSome_at h2 hno hr0.symm]
            exact fin_lst2b hc (j3 sol rfl) rfl (fun _ => rfl) ⟨rfl, rfl⟩
          | none =>
            refine ct_cond_f rfl rfl ?_
            apply ct_skip
            apply ct_region
            apply seq_plain; exact do_move rfl; exact rfl
            apply seq_plain; exact do_succ rfl (by omega); exact rfl
            apply seq_plain; exact do_assign rfl; exact rfl
            apply seq_nil
            have hv2 : Lst H L8 1 i1 1 (.slice (lstP (nb H 1) dl) dl.length dl.length) dl := ⟨.inr ⟨by intro e; rw [e] at h2; simp at h2, k6, hk6, by rw [hp6], by rw [flat_i1_map]; exact j2⟩⟩
            have := ih' (j + 1) L8 (by omega) (by omega) j1 hv2 (findSome_next h2 hno hr0.symm)
            rw [hp6] at this
            exact lt_sub (by repeat (first | exact sub_nil | apply sub_cons rfl)) this
      · simp only [decide_eq_false_iff_not, Int.ofNat_lt] at h2
        rw [List.take_of_length_le (by omega)] at hno
        rw [hno]
        apply ct_exit
        apply exit_eq; exact rfl
        apply ct_seq
        apply ct_region
        apply seq_plain; exact do_assign rfl; exact rfl
        apply seq_plain; exact do_assign rfl; exact rfl
        apply seq_nil
        apply ct_ret
        exact fin_flat hc rfl rfl ⟨rfl, rfl⟩
end Go.Proofs.YtiggikjbknoohaaGreatDoor
