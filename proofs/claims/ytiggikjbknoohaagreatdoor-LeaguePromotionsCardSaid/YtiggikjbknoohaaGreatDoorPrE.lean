/- Contracts: the reference's Promote. -/
import Derived.Test.YtiggikjbknoohaaGreatDoorPrD
noncomputable section
namespace Go.Proofs.YtiggikjbknoohaaGreatDoor
open Go Go.Den
set_option maxRecDepth 100000

/-- a list of words that was made -/
def InS (H : AHeap) (L : List (Option ABlk)) (x : Sz) : Prop := (x.p = none ∧ x.l = []) ∨ ∃ k, L[k]? = some (some (.cells (x.l.flatMap s1) 1 true false)) ∧ x.l ≠ [] ∧ x.p = some ⟨nb H k, 0, none⟩
theorem InS.keep {H : AHeap} {L L' : List (Option ABlk)} {x : Sz} (h : InS H L x) (hk : ∀ (j : Nat) wl, wl ≠ [] → L[j]? = some (some (.cells (wl.flatMap s1) 1 true false)) → L'[j]? = some (some (.cells (wl.flatMap s1) 1 true false))) : InS H L' x := by
  rcases h with h | ⟨k, h1, h2, h3⟩
  · exact .inl h
  · exact .inr ⟨k, hk _ _ h2 h1, h2, h3⟩
theorem InS.slAt {H : AHeap} {lo : Nat} {L : List (Option ABlk)} {x : Sz} (h : InS H L x) : SlAt (ext H lo L) 1 s1 x.p x.l := by
  rcases h with ⟨_, h⟩ | ⟨k, h1, h2, h3⟩
  · rw [h]; exact ⟨fun e => absurd rfl e⟩
  · rw [h3]; exact slAt_flat (fun _ => rfl) (ext_get_new h1)
theorem toInS {H : AHeap} {L : List (Option ABlk)} {k0 : Nat} {v : Value} {wl : List ByteArray} (h : Lst H L 1 s1 k0 v wl) : ∃ x : Sz, v = .slice x.p x.l.length x.c ∧ x.l = wl ∧ InS H L x := by
  rcases h.out with ⟨rfl, rfl⟩ | ⟨hne, k, _, rfl, hL⟩
  · exact ⟨⟨none, 0, []⟩, rfl, rfl, .inl ⟨rfl, rfl⟩⟩
  · exact ⟨⟨some ⟨nb H k, 0, none⟩, wl.length, wl⟩, rfl, rfl, .inr ⟨k, hL, hne, rfl⟩⟩
theorem words_ne {wl : List ByteArray} {outs : List Sz} (h : wl ≠ []) (h2 : outs ≠ []) : ABlk.cells (wl.flatMap s1) 1 true false ≠ .cells (outs.flatMap sz) 1 true false := by
  cases wl with
  | nil => exact absurd rfl h
  | cons a t => cases outs with
    | nil => exact absurd rfl h2
    | cons b u =>
      intro e
      injection e with e1
      simp [sz] at e1

def part1 (d : List Sz) (n i : Nat) : List ByteArray := if 0 < i then ((dl d)[i - 1]?.getD []).drop (((dl d)[i - 1]?.getD []).length - n) else []
theorem dl_get {d : List Sz} {i : Nat} (h : i < d.length) : (dl d)[i]?.getD [] = d[i].l := by simp [h]
theorem part1_at {d : List Sz} {n i : Nat} (h0 : 0 < i) (h : i - 1 < d.length) : part1 d n i = d[i - 1].l.drop (d[i - 1].l.length - n) := by
  unfold part1
  rw [if_pos h0, dl_get h]
theorem pro_at {d : List Sz} {n i fr to : Nat} (h : i < d.length) (hf : fr = if 0 < i then n else 0) (ht : to = d[i].l.length - if i + 1 < d.length then n else 0) : proL (dl d) n i = part1 d n i ++ ((d[i].l.take to).drop fr ++ if i + 1 < d.length then ((dl d)[i + 1]?.getD []).take n else []) := by
  have hel : (dl d).length = d.length := List.length_map _
  unfold proL part1
  rw [dl_get h, ← hf, hel, ← ht]

set_option maxHeartbeats 8000000 in
theorem refPromote_c {H : AHeap} {q : Option Addr} {c n : Nat} {d : List Sz} (hd : SzW H q d) (hg : GoodD d n) :
    CallT Tryz.prog 34 [.slice q d.length c, I n] H (fun v h' => ∃ p cp out, v = .slice p out.length cp ∧ SzAt h' p out ∧ dl out = (List.range d.length).map (proL (dl d) n) ∧ Ext H h' ∧ Closed h' ∧ h'.low ≤ h'.fresh ∧ h'.low ≤ H.low) := by
  have hn1 := hg.n1
  have hn24 := hg.n24
  have hk24 := hg.k24
  refine fn_start Tryz.func34 rfl rfl rfl fun hc => ?_
  apply ct_seq
  apply ct_region
  apply seq_plain; exact do_assign rfl; exact rfl
  apply seq_nil
  apply ct_seq
  apply ct_region
  apply seq_plain; exact do_assign rfl; exact rfl
  apply seq_nil
  apply ct_seq
  apply ct_seq
  apply ct_region
  apply seq_plain; exact do_assign rfl; exact rfl
  apply seq_nil
  apply ct_block
  apply ct_loop
  refine lt_meas (α := Nat × Value × List Sz × List (Option ABlk)) (fun a => [(0, .slice q d.length c), (1, I n), (5, a.2.1), (6, I a.1)]) (fun a => ext H H.fresh a.2.2.2) (fun a => a.1 ≤ d.length ∧ a.2.2.1.length = a.1 ∧ Lst H a.2.2.2 1 sz 0 a.2.1 a.2.2.1 ∧ (∀ x ∈ a.2.2.1, InS H a.2.2.2 x) ∧ dl a.2.2.1 = (List.range a.1).map (proL (dl d) n)) (fun a => d.length - a.1) (fun a ha ih => ?_) (0, .slice none 0 0, [], []) ⟨by omega, rfl, .nil, (by intro x hx; cases hx), rfl⟩ (by repeat (first | exact sub_nil | apply sub_cons rfl)) (.refl _)
  obtain ⟨i, v, outs, L⟩ := a
  obtain ⟨hi, hol, hv, hin, hmap⟩ := ha
  simp only at hi hol hv hin hmap ih ⊢
  have ih' := fun i' v' o' L' a1 a2 a3 a4 a5 a6 => ih (i', v', o', L') a1 ⟨a2, a3, a4, a5, a6⟩
  simp only at ih'
  clear ih
  apply ct_seq
  apply ct_seq
  apply ct_region
  apply seq_plain; exact do_move rfl; exact rfl
  apply seq_plain; exact do_move rfl; exact rfl
  apply seq_plain; exact do_lenS rfl rfl rfl; exact rfl
  apply seq_plain; exact do_binInt rfl rfl rfl trivial; exact rfl
  apply seq_nil
  refine ct_cond rfl (fun h1 => ?_) (fun h1 => ?_)
  · simp only [decide_eq_true_eq, Int.ofNat_lt] at h1
    obtain ⟨b, o, cs, z, s, ro, hq, hgb, hw⟩ := hd.at_.out (by intro e; rw [e] at h1; simp at h1)
    have w0 := hd.each _ (List.getElem_mem h1)
    obtain ⟨r24, r2n⟩ := hg.row _ (List.getElem_mem h1)
    obtain ⟨fr, hfr⟩ : ∃ fr : Nat, fr = if 0 < i then n else 0 := ⟨_, rfl⟩
    obtain ⟨to, hto⟩ : ∃ to : Nat, to = d[i].l.length - if i + 1 < d.length then n else 0 := ⟨_, rfl⟩
    have hfn : fr ≤ n := by rw [hfr]; split <;> omega
    have htn : d[i].l.length - n ≤ to ∧ to ≤ d[i].l.length := by rw [hto]; split <;> omega
    rw [hq] at ih' ⊢
    apply ct_skip
    apply ct_seq
    apply ct_block
    apply ct_seq
    apply ct_region
    apply seq_plain; exact do_assign rfl; exact rfl
    apply seq_nil
    apply ct_seq
    apply ct_draw (by assumption); decide +kernel
    apply sd_plain (hfree := rfl); intro _; exact do_move rfl; exact rfl
    apply sd_plain (hfree := rfl); intro _; exact do_move rfl; exact rfl
    apply sd_plain (hfree := rfl); intro _; exact do_indexAddrS rfl rfl rfl (by exact idx_nat (by omega)); exact rfl
    apply sd_look (hfree := rfl); exact do_load rfl (by exact ext_get_old (by assumption) (by assumption)) rfl (by exact sz_get (by assumption) (by omega)); exact rfl
    apply sd_look (hfree := rfl); exact do_lenS rfl rfl rfl; exact rfl
    apply sd_plain (hfree := rfl); intro _; exact do_assign rfl; exact rfl
    apply sd_plain (hfree := rfl); intro _; exact do_assign rfl; exact rfl
    apply sd_nil
    apply ct_seq
    apply ct_seq
    apply ct_region
    apply seq_plain; exact do_move rfl; exact rfl
    apply seq_plain; exact do_binInt rfl rfl rfl trivial; exact rfl
    apply seq_nil
    refine ct_JX (ds := []) (α := Value × List (Option ABlk)) (fun a => [(0, .slice (some ⟨b, o, none⟩) d.length c), (1, I n), (5, v), (6, I i), (7, a.1), (8, I fr), (9, I d[i].l.length)]) (fun a => ext H H.fresh a.2) (fun a => Lst H a.2 1 s1 L.length a.1 (part1 d n i) ∧ Stay L.length L a.2 ∧ L.length ≤ a.2.length) ?_ (fun a ha => ?_)
    · refine ct_cond rfl (fun h5 => ?_) (fun h5 => ?_)
      · have h5 : 0 < i := by simp at h5; omega
        have hi1 : i - 1 < d.length := by omega
        have w1 := hd.each _ (List.getElem_mem hi1)
        obtain ⟨p24, p2n⟩ := hg.row _ (List.getElem_mem hi1)
        have e1 : fr = n := by rw [hfr, if_pos h5]
        rw [e1]
        have hW := fun (L' : List (Option ABlk)) => (w1.ext (ext_Ext (lo := H.fresh) (L := L') hc)).cut (P := Tryz.prog) (t := 96) rfl (fun _ => rfl) (b3_from (i := d[i - 1].l.length - n) (by omega) w1.cap) (by omega) (Nat.le_refl _)
        rw [List.take_length, ← part1_at h5 hi1] at hW
        have hpl : (part1 d n i).length ≤ 24 := by rw [part1_at h5 hi1, List.length_drop]; omega
        apply ct_seq
        apply ct_draw (by assumption); decide +kernel
        apply sd_plain (hfree := rfl); intro _; exact do_move rfl; exact rfl
        apply sd_plain (hfree := rfl); intro _; exact do_move rfl; exact rfl
        apply sd_plain (hfree := rfl); intro _; exact do_move rfl; exact rfl
        apply sd_plain (hfree := rfl); intro _; exact do_predN rfl rfl (by omega) (by omega); exact rfl
        apply sd_plain (hfree := rfl); intro _; exact do_indexAddrS rfl rfl rfl (by exact idx_nat (by omega)); exact rfl
        apply sd_look (hfree := rfl); exact do_load rfl (by exact ext_get_old (by assumption) (by assumption)) rfl (by exact sz_get (by assumption) (by omega)); exact rfl
        apply sd_plain (hfree := rfl); intro _; exact do_move rfl; exact rfl
        apply sd_plain (hfree := rfl); intro _; exact do_move rfl; exact rfl
        apply sd_plain (hfree := rfl); intro _; exact do_predN rfl rfl (by omega) (by omega); exact rfl
        apply sd_plain (hfree := rfl); intro _; exact do_indexAddrS rfl rfl rfl (by exact idx_nat (by omega)); exact rfl
        apply sd_look (hfree := rfl); exact do_load rfl (by exact ext_get_old (by assumption) (by assumption)) rfl (by exact sz_get (by assumption) (by omega)); exact rfl
        apply sd_look (hfree := rfl); exact do_lenS rfl rfl rfl; exact rfl
        apply sd_plain (hfree := rfl); intro _; exact do_move rfl; exact rfl
        apply sd_plain (hfree := rfl); intro _; exact do_subN rfl rfl (by omega) (by omega); exact rfl
        simp only [List.map_nil, List.append_nil]
        apply sd_look (hfree := rfl)
        exact do_cut rfl rfl rfl (hW _).1
        exact rfl
        refine sd_appW0 (xs := part1 d n i) (m := 1) (f := s1) rfl (fun _ => rfl) (hW _).2 rfl rfl rfl rfl rfl rfl (Nat.le_trans (Nat.mul_le_mul_right _ (by omega : _ ≤ 30000)) (Nat.le_of_ble_eq_true rfl)) (Nat.ne_of_beq_eq_false rfl) (Nat.ne_of_beq_eq_false rfl) rfl (fun v' Y hv' => ?_)
        apply sd_plain (hfree := rfl); intro _; exact do_assign rfl; exact rfl
        apply sd_nil
        apply ct_region
        apply seq_plain; exact do_move rfl; exact rfl
        apply seq_plain; exact do_assign rfl; exact rfl
        apply seq_nil
        exact jx_of (v', L ++ Y.map some) ⟨hv', Stay.app _, by simp⟩ (by repeat (first | exact sub_nil | apply sub_cons rfl)) (by simp)
      · have h5 : i = 0 := by simp at h5; omega
        have e1 : fr = 0 := by rw [hfr, if_neg (by omega)]
        rw [e1]
        apply ct_skip
        refine jx_of (.slice none 0 0, L) ⟨?_, Stay.refl _ _, Nat.le_refl _⟩ (by repeat (first | exact sub_nil | apply sub_cons rfl)) (by simp)
        have : part1 d n i = [] := by unfold part1; rw [if_neg (by omega)]
        rw [this]; exact .nil
    obtain ⟨v1, L1⟩ := a
    obtain ⟨hv1, hst1, hle1⟩ := ha
    simp only at hv1 hst1 hle1 ⊢
    have hpl : (part1 d n i).length ≤ 24 := by
      by_cases h5 : 0 < i
      · obtain ⟨p24, p2n⟩ := hg.row _ (List.getElem_mem (show i - 1 < d.length by omega))
        rw [part1_at h5 (by omega), List.length_drop]; omega
      · unfold part1; rw [if_neg h5]; simp
    apply ct_seq
    apply ct_seq
    apply ct_region
    apply seq_plain; exact do_move rfl; exact rfl
    apply seq_plain; exact do_succ rfl (by omega); exact rfl
    apply seq_plain; exact do_move rfl; exact rfl
    apply seq_plain; exact do_lenS rfl rfl rfl; exact rfl
    apply seq_plain; exact do_binInt rfl rfl rfl trivial; exact rfl
    apply seq_nil
    refine ct_J [(0, .slice (some ⟨b, o, none⟩) d.length c), (1, I n), (5, v), (6, I i), (7, v1), (8, I fr), (9, I to)] (ds := []) (h := ext H H.fresh L1) ?_ ?_
    · refine ct_cond rfl (fun h5 => ?_) (fun h5 => ?_)
      · have h5 : i + 1 < d.length := by simp at h5; omega
        have e1 : to = d[i].l.length - n := by rw [hto, if_pos h5]
        rw [e1]
        apply ct_region
        apply seq_plain; exact do_move rfl; exact rfl
        apply seq_plain; exact do_move rfl; exact rfl
        apply seq_plain; exact do_subN rfl rfl (by omega) (by omega); exact rfl
        apply seq_plain; exact do_assign rfl; exact rfl
        apply seq_nil
        exact jp_of (by repeat (first | exact sub_nil | apply sub_cons rfl))
      · have h5 : ¬ i + 1 < d.length := by simp at h5; omega
        have e1 : to = d[i].l.length := by rw [hto, if_neg h5]; omega
        rw [e1]
        apply ct_skip
        exact jp_of (by repeat (first | exact sub_nil | apply sub_cons rfl))
    have hW := fun (L' : List (Option ABlk)) => (w0.ext (ext_Ext (lo := H.fresh) (L := L') hc)).cut (P := Tryz.prog) (t := 96) rfl (fun _ => rfl) (b3_both (i := fr) (j := to) (by omega) htn.2 w0.cap) (by omega) htn.2
    obtain ⟨mid, hmid⟩ : ∃ mid, mid = (d[i].l.take to).drop fr := ⟨_, rfl⟩
    rw [← hmid] at hW
    have hml : mid.length ≤ 24 := by rw [hmid, List.length_drop, List.length_take]; omega
    apply ct_seq
    apply ct_region
    apply seq_plain; exact do_move rfl; exact rfl
    apply seq_plain; exact do_move rfl; exact rfl
    apply seq_plain; exact do_move rfl; exact rfl
    apply seq_plain; exact do_indexAddrS rfl rfl rfl (by exact idx_nat (by omega)); exact rfl
    apply seq_plain; exact do_load rfl (by exact ext_get_old (by assumption) (by assumption)) rfl (by exact sz_get (by assumption) (by omega)); exact rfl
    apply seq_plain; exact do_move rfl; exact rfl
    apply seq_plain; exact do_move rfl; exact rfl
    apply seq_plain; exact do_cut rfl rfl rfl (hW _).1; exact rfl
    refine seq_appW (xs := mid) (lst := part1 d n i) hc hv1 hle1 (fun _ => rfl) (fun _ => rfl) (hW _).2 rfl rfl rfl rfl rfl rfl (Nat.le_trans (Nat.mul_le_mul_right _ (by omega : _ ≤ 30000)) (Nat.le_of_ble_eq_true rfl)) (Nat.ne_of_beq_eq_false rfl) (Nat.ne_of_beq_eq_false rfl) rfl (fun v2 L2 hv2 hst2 hle2 => ?_)
    have hst2 := hst1.trans hst2
    have hle2 : L.length ≤ L2.length := by omega
    have hpro := pro_at (n := n) h1 hfr hto
    rw [← hmid] at hpro
    apply seq_plain; exact do_assign rfl; exact rfl
    apply seq_nil
    apply ct_seq
    apply ct_seq
    apply ct_region
    apply seq_plain; exact do_move rfl; exact rfl
    apply seq_plain; exact do_succ rfl (by omega); exact rfl
    apply seq_plain; exact do_move rfl; exact rfl
    apply seq_plain; exact do_lenS rfl rfl rfl; exact rfl
    apply seq_plain; exact do_binInt rfl rfl rfl trivial; exact rfl
    apply seq_nil
    refine ct_JX (ds := []) (α := Value × List (Option ABlk)) (fun a => [(0, .slice (some ⟨b, o, none⟩) d.length c), (1, I n), (5, v), (6, I i), (7, a.1)]) (fun a => ext H H.fresh a.2) (fun a => Lst H a.2 1 s1 L.length a.1 (proL (dl d) n i) ∧ Stay L.length L a.2 ∧ L.length ≤ a.2.length) ?_ (fun a ha => ?_)
    · refine ct_cond rfl (fun h5 => ?_) (fun h5 => ?_)
      · have h5 : i + 1 < d.length := by simp at h5; omega
        have w2 := hd.each _ (List.getElem_mem h5)
        obtain ⟨p24, p2n⟩ := hg.row _ (List.getElem_mem h5)
        rw [if_pos h5, dl_get h5] at hpro
        have hW3 := fun (L' : List (Option ABlk)) => (w2.ext (ext_Ext (lo := H.fresh) (L := L') hc)).cut (P := Tryz.prog) (t := 96) rfl (fun _ => rfl) (b3_to (j := n) (by omega) w2.cap) (by omega) (by omega)
        rw [List.drop_zero] at hW3
        have h3l : (d[i + 1].l.take n).length ≤ 24 := by rw [List.length_take]; omega
        apply ct_region
        apply seq_plain; exact do_move rfl; exact rfl
        apply seq_plain; exact do_move rfl; exact rfl
        apply seq_plain; exact do_move rfl; exact rfl
        apply seq_plain; exact do_succ rfl (by omega); exact rfl
        apply seq_plain; exact do_indexAddrS rfl rfl rfl (by exact idx_nat (by omega)); exact rfl
        apply seq_plain; exact do_load rfl (by exact ext_get_old (by assumption) (by assumption)) rfl (by exact sz_get (by assumption) (by omega)); exact rfl
        apply seq_plain; exact do_move rfl; exact rfl
        apply seq_plain; exact do_cut rfl rfl rfl (hW3 _).1; exact rfl
        refine seq_appW (xs := d[i + 1].l.take n) (lst := part1 d n i ++ mid) hc hv2 hle2 (fun _ => rfl) (fun _ => rfl) (hW3 _).2 rfl rfl rfl rfl rfl rfl (Nat.le_trans (Nat.mul_le_mul_right _ (by rw [List.length_append]; omega : _ ≤ 30000)) (Nat.le_of_ble_eq_true rfl)) (Nat.ne_of_beq_eq_false rfl) (Nat.ne_of_beq_eq_false rfl) rfl (fun v3 L3 hv3 hst3 hle3 => ?_)
        apply seq_plain; exact do_assign rfl; exact rfl
        apply seq_nil
        refine jx_of (v3, L3) ⟨?_, hst2.trans hst3, Nat.le_trans hle2 hle3⟩ (by repeat (first | exact sub_nil | apply sub_cons rfl)) rfl
        rw [hpro, ← List.append_assoc]; exact hv3
      · have h5 : ¬ i + 1 < d.length := by simp at h5; omega
        rw [if_neg h5, List.append_nil] at hpro
        apply ct_skip
        refine jx_of (v2, L2) ⟨?_, hst2, hle2⟩ (by repeat (first | exact sub_nil | apply sub_cons rfl)) rfl
        rw [hpro]; exact hv2
    clear hv1 hst1 hle1 hv2 hst2 hle2 hW
    obtain ⟨v3, L3⟩ := a
    obtain ⟨hv3, hst3, hle3⟩ := ha
    simp only at hv3 hst3 hle3 ⊢
    obtain ⟨x, rfl, hxl, hix⟩ := toInS hv3
    have hvo := hv.stayAll hst3
    apply ct_region
    apply seq_plain; exact do_move rfl; exact rfl
    apply seq_plain; exact do_move rfl; exact rfl
    apply seq_newS; exact do_buildSlice rfl rfl rfl rfl rfl rfl rfl; exact rfl
    refine seq_growK (xs := [x]) (lst := outs) hc (hvo.app _) (by omega) (fun _ => rfl) (fun _ => rfl) rfl rfl rfl rfl rfl rfl (ext_get_new List.getElem?_concat_length) rfl (by simp) ?_ (Nat.ne_of_beq_eq_false rfl) (Nat.ne_of_beq_eq_false rfl) rfl (fun v' L4 hv' hkeep hlen4 => ?_)
    · exact Nat.le_trans (Nat.mul_le_mul_right _ (by simp only [List.length_cons, List.length_nil]; omega : _ ≤ 30000)) (Nat.le_of_ble_eq_true rfl)
    apply seq_plain; exact do_assign rfl; exact rfl
    apply seq_nil
    apply ct_region
    apply seq_plain; exact do_move rfl; exact rfl
    apply seq_plain; exact do_succ rfl (by omega); exact rfl
    apply seq_plain; exact do_assign rfl; exact rfl
    apply seq_nil
    refine lt_sub (by repeat (first | exact sub_nil | apply sub_cons rfl)) (ih' (i + 1) v' (outs ++ [x]) L4 (by omega) (by omega) (by simp; omega) hv' (fun y hy => ?_) (by show (outs ++ [x]).map (·.l) = _; rw [List.map_append, show outs.map (·.l) = _ from hmap, List.range_succ, List.map_append]; simp [hxl]))
    have hk4 : ∀ (j : Nat) wl, wl ≠ [] → L3[j]? = some (some (.cells (wl.flatMap s1) 1 true false)) → L4[j]? = some (some (.cells (wl.flatMap s1) 1 true false)) := fun j wl hne hj => hkeep j _ (getApp hj) (fun ho => words_ne hne ho)
    rcases List.mem_append.1 hy with hy | hy
    · exact ((hin y hy).keep fun j wl _ hj => hst3 j _ (List.getElem?_eq_some_iff.1 hj).1 hj).keep hk4
    · rw [List.mem_singleton.1 hy]; exact hix.keep hk4
  · simp only [decide_eq_false_iff_not, Int.ofNat_lt] at h1
    obtain rfl : i = d.length := by omega
    obtain ⟨p, rfl, hsl, _⟩ := hv.slice (lo := H.fresh) (fun _ => rfl)
    apply ct_exit
    apply exit_eq; exact rfl
    apply ct_seq
    apply ct_region
    apply seq_plain; exact do_move rfl; exact rfl
    apply seq_plain; exact do_assign rfl; exact rfl
    apply seq_nil
    apply ct_ret
    refine fin_id rfl ⟨p, outs.length, outs, rfl, ?_, hmap, ?_, ?_, ?_, ?_⟩
    · exact SzAt.ext (H := ext H H.fresh L) ⟨hsl, fun x hx => (hin x hx).slAt⟩ (fun b y h => h)
    · exact Ext.trans (ext_Ext hc (lo := H.fresh) (L := L)) (fun b y h => h)
    · exact ext_closed (lo := H.fresh) (L := L) hc
    · show min (min H.fresh H.fresh) H.low ≤ (ext H H.fresh L).fresh
      rw [ext_fresh]; have := nb_ge (H := H) L.length; omega
    · exact Nat.min_le_right _ _
end Go.Proofs.YtiggikjbknoohaaGreatDoor
