/- Contracts: rows copied, lists of rows that are the same, the check of a season, two teams among themselves. -/
import Derived.Test.YtiggikjbknoohaaGreatDoorTcK
import Derived.Test.YtiggikjbknoohaaGreatDoorElI
noncomputable section
namespace Go.Proofs.YtiggikjbknoohaaGreatDoor
open Go Go.Den
set_option maxRecDepth 100000

theorem ext_appK {H : AHeap} {lo : Nat} {L M : List (Option ABlk)} (hc : Closed H) : Ext (ext H lo L) (ext H lo (L ++ M)) := by
  intro b y hb
  rw [ext_get hc] at hb ⊢
  split
  · rename_i h
    rw [if_pos h] at hb
    cases hL : L[b / 2 - H.next]? with
    | none => rw [hL] at hb; cases hb
    | some o => rw [getApp hL]; rw [hL] at hb; exact hb
  · rename_i h
    rw [if_neg h] at hb; exact hb
theorem ownRows_c {H : AHeap} {q : Option Addr} {c : Nat} {l : List Rw} (hs : SlAt H 9 rw9 q l) (hn : l.length < 1000000000) :
    Ret Tryz.prog 45 [.slice q l.length c] H (lstV H.fresh l) (lstH H 9 rw9 l) := by
  refine fn_start Tryz.func45 rfl rfl rfl fun hc => ?_
  apply ct_seq
  apply ct_region
  apply seq_plain; exact do_assign rfl; exact rfl
  apply seq_nil
  apply ct_seq
  apply ct_region
  apply seq_plain; exact do_assign rfl; exact rfl
  apply seq_nil
  apply ct_seq
  apply ct_seq
  apply ct_region
  apply seq_plain; exact do_assign rfl; exact rfl
  apply seq_nil
  apply ct_block
  apply ct_loop
  refine lt_meas (α := Nat × Value × List (Option ABlk)) (fun a => [(0, .slice q l.length c), (3, a.2.1), (4, I a.1)]) (fun a => ext H H.fresh a.2.2) (fun a => a.1 ≤ l.length ∧ Lst H a.2.2 9 rw9 0 a.2.1 (l.take a.1)) (fun a => l.length - a.1) (fun a ha ih => ?_) (0, .slice none 0 0, []) ⟨by omega, .nil⟩ (by repeat (first | exact sub_nil | apply sub_cons rfl)) (.refl _)
  obtain ⟨i, v, L⟩ := a
  obtain ⟨hi, hv⟩ := ha
  simp only at hi hv ih ⊢
  have ih' := fun i' v' L' a1 a2 a3 => ih (i', v', L') a1 ⟨a2, a3⟩
  simp only at ih'
  clear ih
  apply ct_seq
  apply ct_seq
  apply ct_region
  apply seq_plain; exact do_move rfl; exact rfl
  apply seq_plain; exact do_move rfl; exact rfl
  apply seq_plain; exact do_lenS rfl rfl rfl; exact rfl
  apply seq_plain; exact do_binInt rfl rfl rfl trivial; exact rfl
  apply seq_nil
  refine ct_cond rfl (fun h1 => ?_) (fun h1 => ?_)
  · simp only [decide_eq_true_eq, Int.ofNat_lt] at h1
    obtain ⟨b, o, cs, z, s, ro, rfl, hg, hw⟩ := hs.out (by intro e; rw [e] at h1; simp at h1)
    apply ct_skip
    apply ct_seq
    apply ct_block
    apply ct_region
    apply seq_plain; exact do_move rfl; exact rfl
    apply seq_plain; exact do_move rfl; exact rfl
    apply seq_plain; exact do_move rfl; exact rfl
    apply seq_plain; exact do_indexAddrS rfl rfl rfl (by exact idx_nat (by omega)); exact rfl
    apply seq_plain; exact do_load rfl (by exact ext_get_old (by assumption) (by assumption)) rfl (by exact pt_sl (by assumption) (by omega)); exact rfl
    apply seq_newS; exact do_buildSlice rfl rfl rfl rfl rfl rfl rfl; exact rfl
    refine seq_grow (xs := [l[i]]) hc (hv.app _) (by omega) (fun _ => rfl) (fun _ => rfl) rfl rfl rfl rfl rfl rfl (ext_get_new List.getElem?_concat_length) rfl (by simp) ?_ (Nat.ne_of_beq_eq_false rfl) (Nat.ne_of_beq_eq_false rfl) rfl (fun v' L3 hv' hst3 hlen3 => ?_)
    · exact Nat.le_trans (Nat.mul_le_mul_right _ (by simp only [List.length_cons, List.length_nil, List.length_take]; omega : _ ≤ 3000000000)) (Nat.le_of_ble_eq_true rfl)
    apply seq_plain; exact do_assign rfl; exact rfl
    apply seq_nil
    apply ct_region
    apply seq_plain; exact do_move rfl; exact rfl
    apply seq_plain; exact do_succ rfl (by omega); exact rfl
    apply seq_plain; exact do_assign rfl; exact rfl
    apply seq_nil
    refine lt_sub (by repeat (first | exact sub_nil | apply sub_cons rfl)) (ih' (i + 1) v' L3 (by omega) (by omega) ?_)
    rw [take_snoc h1]; exact hv'
  · have h1 : i = l.length := by simp at h1; omega
    subst h1
    rw [List.take_length] at hv
    apply ct_exit
    apply exit_eq; exact rfl
    apply ct_seq
    apply ct_region
    apply seq_plain; exact do_move rfl; exact rfl
    apply seq_plain; exact do_assign rfl; exact rfl
    apply seq_nil
    apply ct_ret
    exact fin_lst hc hv rfl (fun _ => rfl) ⟨rfl, rfl⟩
def rwI (x : Rw) : List Int := [x.team, x.played, x.won, x.drawn, x.lost, x.fr, x.ag, x.pts, x.rank]
theorem eqA_rows (x y : Rw) : eqA Tryz.prog (ctxOf Tryz.prog) 185 (.agg ⟨rw9 x⟩) (.agg ⟨rw9 y⟩) = some (decide (rwI x = rwI y)) :=
  eqA_ints (n := 9) (xs := rwI x) (ys := rwI y) (by decide +kernel) (by decide +kernel) (by decide +kernel) rfl rfl
theorem sameRows_c {H : AHeap} {p q : Option Addr} {c c' : Nat} {l : List Rw} (hs : SlAt H 9 rw9 p l) (ht : SlAt H 9 rw9 q l) (hn : l.length < 1000000000000) :
    Ret Tryz.prog 44 [.slice p l.length c, .slice q l.length c'] H (.bool true) H := by
  refine fn_start Tryz.func44 rfl rfl rfl fun hc => ?_
  apply ct_seq
  apply ct_region
  apply seq_plain; exact do_assign rfl; exact rfl
  apply seq_nil
  apply ct_seq
  apply ct_seq
  apply ct_region
  apply seq_plain; exact do_move rfl; exact rfl
  apply seq_plain; exact do_lenS rfl rfl rfl; exact rfl
  apply seq_plain; exact do_move rfl; exact rfl
  apply seq_plain; exact do_lenS rfl rfl rfl; exact rfl
  apply seq_plain; exact do_binInt rfl rfl rfl trivial; exact rfl
  apply seq_nil
  refine ct_cond_f rfl (by simp) ?_
  apply ct_skip
  apply ct_seq
  apply ct_seq
  apply ct_region
  apply seq_plain; exact do_assign rfl; exact rfl
  apply seq_nil
  apply ct_block
  apply ct_loop
  refine lt_up (fun i => [(0, .slice p l.length c), (1, .slice q l.length c'), (5, I i)]) (fun _ => True) l.length (fun i hi hJ ih => ?_) 0 (by omega) trivial (by repeat (first | exact sub_nil | apply sub_cons rfl))
  apply ct_seq
  apply ct_seq
  apply ct_region
  apply seq_plain; exact do_move rfl; exact rfl
  apply seq_plain; exact do_move rfl; exact rfl
  apply seq_plain; exact do_lenS rfl rfl rfl; exact rfl
  apply seq_plain; exact do_binInt rfl rfl rfl trivial; exact rfl
  apply seq_nil
  refine ct_cond rfl (fun h1 => ?_) (fun h1 => ?_)
  · simp only [decide_eq_true_eq, Int.ofNat_lt] at h1
    obtain ⟨b, o, cs, z, s, ro, rfl, hg, hw⟩ := hs.out (by intro e; rw [e] at h1; simp at h1)
    obtain ⟨b', o', cs', z', s', ro', rfl, hg', hw'⟩ := ht.out (by intro e; rw [e] at h1; simp at h1)
    have gg1 := pt_sl hw h1
    have gg2 := pt_sl hw' h1
    apply ct_skip
    apply ct_seq
    apply ct_block
    apply ct_seq
    apply ct_draw (by assumption); decide +kernel
    apply sd_plain (hfree := rfl); intro _; exact do_move rfl; exact rfl
    apply sd_plain (hfree := rfl); intro _; exact do_move rfl; exact rfl
    apply sd_plain (hfree := rfl); intro _; exact do_indexAddrS rfl rfl rfl (by exact idx_nat (by omega)); exact rfl
    apply sd_look (hfree := rfl); exact do_load rfl (by exact ext_get_old (by assumption) (by assumption)) rfl (by exact (by assumption)); exact rfl
    apply sd_plain (hfree := rfl); intro _; exact do_move rfl; exact rfl
    apply sd_plain (hfree := rfl); intro _; exact do_move rfl; exact rfl
    apply sd_plain (hfree := rfl); intro _; exact do_indexAddrS rfl rfl rfl (by exact idx_nat (by omega)); exact rfl
    apply sd_look (hfree := rfl); exact do_load rfl (by exact ext_get_old (by assumption) (by assumption)) rfl (by exact (by assumption)); exact rfl
    apply sd_plain (hfree := rfl); intro _; exact do_neq rfl rfl trivial (eqA_rows _ _); exact rfl
    apply sd_nil
    refine ct_cond_f rfl (by simp) ?_
    apply ct_skip
    apply ct_region
    apply seq_plain; exact do_move rfl; exact rfl
    apply seq_plain; exact do_succ rfl (by omega); exact rfl
    apply seq_plain; exact do_assign rfl; exact rfl
    apply seq_nil
    exact lt_sub (by repeat (first | exact sub_nil | apply sub_cons rfl)) (ih (i + 1) (by omega) (by omega) trivial)
  · apply ct_exit
    apply exit_eq; exact rfl
    apply ct_seq
    apply ct_region
    apply seq_plain; exact do_assign rfl; exact rfl
    apply seq_nil
    apply ct_ret
    exact fin_flat hc rfl rfl ⟨rfl, rfl⟩
/-- a season as a value -/
abbrev seaV (n : Int) (q : Option Addr) (c : Nat) (l : List Ma) (r : Ru) : Value := .agg ⟨I n :: .slice q l.length c :: ruL r⟩
def bigB (l : List Ma) : Bool := !shortB l || (decide (l.length > 60) && decide (l.length ≤ 600))
set_option maxHeartbeats 4000000 in
theorem seasonOk_c {H : AHeap} {n : Int} {q : Option Addr} {c : Nat} {l : List Ma} {r : Ru} (hs : SlAt H 5 mt q l) (hn : l.length < 1000000000) :
    Ret Tryz.prog 42 [seaV n q c l r] H (.tuple ⟨[I (if bigB l then 0 else firstL [chkM n l, ruleL r]), .bool (!bigB l)]⟩) H := by
  refine fn_start Tryz.func42 rfl rfl rfl fun hc => ?_
  apply ct_seq
  apply ct_region
  apply seq_newP; exact do_box rfl rfl rfl; exact rfl
  apply seq_plain; exact do_assign rfl; exact rfl
  apply seq_plain; exact do_assign rfl; exact rfl
  apply seq_nil
  apply ct_seq
  apply ct_region
  apply seq_plain; exact do_fieldAddr rfl rfl; exact rfl
  apply seq_plain; exact do_load rfl (by exact ext_get_new rfl) rfl (by exact rfl); exact rfl
  refine seq_call rfl (ownMatches_c (hs.ext (ext_Ext hc)) hn) rfl ?_
  rw [lstH_ext, ext_fresh]
  have hs1 := lst_slAt (H := H) (lo := H.fresh) (L := [some (ABlk.cells (I n :: .slice q l.length c :: ruL r) 0 false false)]) (m := 5) (f := mt) (l := l) (fun _ => rfl)
  have g0 : (([] : List (Option ABlk)) ++ [some (ABlk.cells (I n :: .slice q l.length c :: ruL r) 0 false false)] ++ lstL 5 mt l)[0]? = some (some (ABlk.cells (I n :: .slice q l.length c :: ruL r) 0 false false)) := rfl
  apply seq_plain; exact do_assign rfl; exact rfl
  apply seq_nil
  apply ct_seq
  apply ct_seq
  apply ct_region
  apply seq_plain; exact do_move rfl; exact rfl
  apply seq_call (ht := rfl); exact shortM_c hs1 hn; exact rfl
  apply seq_plain; exact do_unOp rfl rfl; exact rfl
  apply seq_plain; exact do_move rfl; exact rfl
  have eb : bigB l = (!shortB l || (decide ((l.length : Int) > 60) && decide ((l.length : Int) ≤ 600))) := by
    have e1 : decide ((l.length : Int) > 60) = decide (l.length > 60) := by rw [decide_eq_decide]; omega
    have e2 : decide ((l.length : Int) ≤ 600) = decide (l.length ≤ 600) := by rw [decide_eq_decide]; omega
    rw [e1, e2]; rfl
  refine seq_J [(1, .pointer (some ⟨nb H 0, 0, none⟩)), (4, lstV (nb H 1) l), (20, .bool (bigB l))] (ds := []) (h := ext H H.fresh ([some (ABlk.cells (I n :: .slice q l.length c :: ruL r) 0 false false)] ++ lstL 5 mt l)) ?_ ?_
  · refine seq_gsplit rfl rfl (fun u0 => ?_) (fun u0 => ?_)
    · have u0 : (!shortB l) = true := u0
      rw [eb, u0, Bool.true_or]
      apply seq_passed (hd := rfl) (hl := rfl) (hb := rfl); exact rfl
      apply seq_passed (hd := rfl) (hl := rfl) (hb := rfl); exact rfl
      apply seq_passed (hd := rfl) (hl := rfl) (hb := rfl); exact rfl
      apply seq_passed (hd := rfl) (hl := rfl) (hb := rfl); exact rfl
      apply seq_passedU (hd := rfl) (hl := rfl); exact rfl
      apply seq_passedU (hd := rfl) (hl := rfl); exact rfl
      apply seq_passedU (hd := rfl) (hl := rfl); exact rfl
      apply seq_passed (hd := rfl) (hl := rfl) (hb := rfl); exact rfl
      apply seq_plain; exact do_pick_t rfl rfl; exact rfl
      apply seq_nil
      exact jp_of (by repeat (first | exact sub_nil | apply sub_cons rfl))
    have u0 : (!shortB l) = false := u0
    rw [eb, u0, Bool.false_or]
    apply seq_guard (hd := rfl) (hl := rfl); exact do_move rfl; exact rfl
    apply seq_guard (hd := rfl) (hl := rfl); exact do_lenS rfl rfl rfl; exact rfl
    apply seq_guard (hd := rfl) (hl := rfl); exact do_binInt rfl rfl rfl trivial; exact rfl
    apply seq_guard (hd := rfl) (hl := rfl); exact do_move rfl; exact rfl
    refine seq_gsplit rfl rfl (fun u1 => ?_) (fun u1 => ?_)
    · have u1 : decide ((l.length : Int) > 60) = true := u1
      rw [u1, Bool.true_and]
      apply seq_guard (hd := rfl) (hl := rfl); exact do_move rfl; exact rfl
      apply seq_guard (hd := rfl) (hl := rfl); exact do_lenS rfl rfl rfl; exact rfl
      apply seq_guard (hd := rfl) (hl := rfl); exact do_binInt rfl rfl rfl trivial; exact rfl
      apply seq_guard (hd := rfl) (hl := rfl); exact do_pick_t rfl rfl; exact rfl
      apply seq_plain; exact do_pick_f rfl rfl; exact rfl
      apply seq_nil
      exact jp_of (by repeat (first | exact sub_nil | apply sub_cons rfl))
    · have u1 : decide ((l.length : Int) > 60) = false := u1
      rw [u1, Bool.false_and]
      apply seq_passed (hd := rfl) (hl := rfl) (hb := rfl); exact rfl
      apply seq_passed (hd := rfl) (hl := rfl) (hb := rfl); exact rfl
      apply seq_passed (hd := rfl) (hl := rfl) (hb := rfl); exact rfl
      apply seq_guard (hd := rfl) (hl := rfl); exact do_pick_f rfl rfl; exact rfl
      apply seq_plain; exact do_pick_f rfl rfl; exact rfl
      apply seq_nil
      exact jp_of (by repeat (first | exact sub_nil | apply sub_cons rfl))
  refine ct_cond rfl (fun h1 => ?_) (fun h1 => ?_)
  · apply ct_seq
    apply ct_region
    apply seq_plain; exact do_assign rfl; exact rfl
    apply seq_plain; exact do_assign rfl; exact rfl
    apply seq_nil
    apply ct_ret
    refine fin_flat hc rfl rfl ⟨?_, rfl⟩
    rw [h1]; rfl
  apply ct_skip
  apply ct_seq
  apply ct_draw (by assumption); decide +kernel
  apply sd_plain (hfree := rfl); intro _; exact do_fieldAddr rfl rfl; exact rfl
  apply sd_look (hfree := rfl); exact do_load rfl (by exact ext_get_new rfl) rfl (by exact rfl); exact rfl
  apply sd_plain (hfree := rfl); intro _; exact do_move rfl; exact rfl
  apply sd_call (ht := rfl); exact checkMatches19 (hs1.ext (ext_appK hc)) (by omega); exact rfl
  apply sd_plain (hfree := rfl); intro _; exact do_fieldAddr rfl rfl; exact rfl
  apply sd_look (hfree := rfl); exact do_load rfl (by exact ext_get_new rfl) rfl (by exact rfl); exact rfl
  apply sd_call (ht := rfl); exact checkRule114 (r := r); exact rfl
  apply sd_newS (hfree := rfl); exact do_buildSlice rfl rfl rfl rfl rfl rfl rfl; exact rfl
  apply sd_callM (ht := rfl) (hw := rfl); decide +kernel; exact lawFirst_c (l := [chkM n l, ruleL r]) (slAt_map (ext_get_new List.getElem?_concat_length)) (by simp); exact rfl
  apply sd_plain (hfree := rfl); intro _; exact do_assign rfl; exact rfl
  apply sd_plain (hfree := rfl); intro _; exact do_assign rfl; exact rfl
  apply sd_nil
  apply ct_ret
  refine fin_flat hc rfl rfl ⟨?_, rfl⟩
  have h1 : bigB l = false := by simpa using h1
  rw [h1]; rfl
theorem oneOf_c {H : AHeap} {k a b : Int} {b1 b2 z1 z2 : Nat} {s1 s2 r1 r2 : Bool} (h1 : H.get b1 = some (.cells [I a] z1 s1 r1)) (h2 : H.get b2 = some (.cells [I b] z2 s2 r2)) :
    Ret Tryz.prog 126 [I k, .pointer (some ⟨b1, 0, none⟩), .pointer (some ⟨b2, 0, none⟩)] H (.bool ((k == a) || (k == b))) H := by
  refine fn_start Tryz.func126 rfl rfl rfl fun hc => ?_
  apply ct_seq
  apply ct_region
  apply seq_plain; exact do_assign rfl; exact rfl
  apply seq_nil
  apply ct_seq
  apply ct_region
  apply seq_plain; exact do_move rfl; exact rfl
  apply seq_plain; exact do_load rfl (by exact ext_get_old (by assumption) (by assumption)) rfl (by exact rfl); exact rfl
  apply seq_plain; exact do_binInt rfl rfl rfl trivial; exact rfl
  apply seq_plain; exact do_move rfl; exact rfl
  refine seq_gsplit rfl rfl (fun u => ?_) (fun u => ?_)
  · have u : (k == a) = true := u
    rw [u, Bool.true_or]
    apply seq_passed (hd := rfl) (hl := rfl) (hb := rfl); exact rfl
    apply seq_passed (hd := rfl) (hl := rfl) (hb := rfl); exact rfl
    apply seq_passed (hd := rfl) (hl := rfl) (hb := rfl); exact rfl
    apply seq_plain; exact do_pick_t rfl rfl; exact rfl
    apply seq_plain; exact do_assign rfl; exact rfl
    apply seq_nil
    apply ct_ret
    exact fin_flat hc rfl rfl ⟨rfl, rfl⟩
  · have u : (k == a) = false := u
    rw [u, Bool.false_or]
    apply seq_guard (hd := rfl) (hl := rfl); exact do_move rfl; exact rfl
    apply seq_guard (hd := rfl) (hl := rfl); exact do_load rfl (by exact ext_get_old (by assumption) (by assumption)) rfl (by exact rfl); exact rfl
    apply seq_guard (hd := rfl) (hl := rfl); exact do_binInt rfl rfl rfl trivial; exact rfl
    apply seq_plain; exact do_pick_f rfl rfl; exact rfl
    apply seq_plain; exact do_assign rfl; exact rfl
    apply seq_nil
    apply ct_ret
    exact fin_flat hc rfl rfl ⟨rfl, rfl⟩
set_option maxHeartbeats 4000000 in
theorem head_c {H : AHeap} {n : Nat} {q : Option Addr} {c : Nat} {l : List Ma} {r : Ru} {a b : Int} (hs : SlAt H 5 mt q l) (hG : H.get 1 = some (.cells cs0 0 false true)) (hchk : chkM n l = 0) (hrule : ruleL r = 0) (ha : 0 ≤ a ∧ a < n) (hb : 0 ≤ b ∧ b < n) (hab : a ≠ b) :
    ∃ x y : Int, (rowsF r n (onlyF (fun k => (k == a) || (k == b)) l))[a.toNat]?.map (·.pts) = some x ∧ (rowsF r n (onlyF (fun k => (k == a) || (k == b)) l))[b.toNat]?.map (·.pts) = some y ∧
    Ret Tryz.prog 46 [I n, .slice q l.length c, ruV r, I a, I b] H (.tuple ⟨[I x, I y, I 0]⟩) H := by
  have hzz := chkM_zero.1 hchk
  have htop := top_ok hzz.1
  have hl : ∀ m ∈ l, MaOk n m := fun m hm => ma_ok (hzz.2.1 m hm)
  have hr := ru_ok hrule
  obtain ⟨W, hW⟩ : ∃ W, W = rowsF r n (onlyF (fun k => (k == a) || (k == b)) l) := ⟨_, rfl⟩
  have hWl : W.length = n := by rw [hW, rowsF_len]
  have la : a.toNat < W.length := by omega
  have lb : b.toNat < W.length := by omega
  refine ⟨W[a.toNat].pts, W[b.toNat].pts, by rw [← hW, List.getElem?_eq_getElem la]; rfl, by rw [← hW, List.getElem?_eq_getElem lb]; rfl, ?_⟩
  refine fn_start Tryz.func46 rfl rfl rfl fun hc => ?_
  apply ct_seq
  apply ct_region
  apply seq_newP; exact do_box rfl rfl rfl; exact rfl
  apply seq_newP; exact do_box rfl rfl rfl; exact rfl
  apply seq_newP; exact do_box rfl rfl rfl; exact rfl
  apply seq_plain; exact do_assign rfl; exact rfl
  apply seq_plain; exact do_assign rfl; exact rfl
  apply seq_plain; exact do_assign rfl; exact rfl
  apply seq_nil
  apply ct_seq
  apply ct_seq
  apply ct_draw (by assumption); decide +kernel
  apply sd_plain (hfree := rfl); intro _; exact do_move rfl; exact rfl
  apply sd_plain (hfree := rfl); intro _; exact do_move rfl; exact rfl
  apply sd_call (ht := rfl); exact checkMatches82 (hs.ext (ext_Ext hc)) (by omega) (ext_Ext hc _ _ hG); exact rfl
  apply sd_look (hfree := rfl); exact do_load rfl (by exact ext_get_new rfl) rfl (by exact rfl); exact rfl
  apply sd_call (ht := rfl); exact checkRule115; exact rfl
  apply sd_plain (hfree := rfl); intro _; exact do_move rfl; exact rfl
  apply sd_look (hfree := rfl); exact do_load rfl (by exact ext_get_new rfl) rfl (by exact rfl); exact rfl
  apply sd_look (hfree := rfl); exact do_load rfl (by exact ext_get_new rfl) rfl (by exact rfl); exact rfl
  apply sd_newS (hfree := rfl); exact do_buildSlice rfl rfl rfl rfl rfl rfl rfl; exact rfl
  apply sd_callM (ht := rfl) (hw := rfl); decide +kernel; exact known125 (l := [_, _]) (slAt_map (ext_get_new rfl)) (by simp); exact rfl
  apply sd_look (hfree := rfl); exact do_load rfl (by exact ext_get_new rfl) rfl (by exact rfl); exact rfl
  apply sd_look (hfree := rfl); exact do_load rfl (by exact ext_get_new rfl) rfl (by exact rfl); exact rfl
  apply sd_plain (hfree := rfl); intro _; exact do_binInt rfl rfl rfl trivial; exact rfl
  apply sd_call (ht := rfl); exact when85; exact rfl
  apply sd_newS (hfree := rfl); exact do_buildSlice rfl rfl rfl rfl rfl rfl rfl; exact rfl
  apply sd_callM (ht := rfl) (hw := rfl); decide +kernel; exact first84 (l := [_, _, _, _]) (slAt_map (ext_get_new rfl)) (by simp); exact rfl
  apply sd_plain (hfree := rfl); intro _; exact do_assign rfl; exact rfl
  apply sd_nil
  apply ct_seq
  apply ct_region
  apply seq_plain; exact do_move rfl; exact rfl
  apply seq_plain; exact do_binInt rfl rfl rfl trivial; exact rfl
  apply seq_nil
  have e0 : firstL [chkM n l, ruleL r, whenL ([a, b].any (unknownL n)) 10, whenL (a == b) 9] = 0 := by
    have u1 : ([a, b].any (unknownL n)) = false := by
      simp only [List.any_cons, List.any_nil, Bool.or_false, unknownL, Bool.or_eq_false_iff, decide_eq_false_iff_not]
      omega
    have u2 : (a == b) = false := by simpa using hab
    rw [hchk, hrule, u1, u2]; rfl
  refine ct_cond_f rfl (by rw [e0]; rfl) ?_
  apply ct_skip
  apply ct_seq
  apply ct_region
  apply seq_plain; exact do_move rfl; exact rfl
  apply seq_plain; exact do_move rfl; exact rfl
  apply seq_plain; exact do_load rfl (by exact ext_get_new rfl) rfl (by exact rfl); exact rfl
  apply seq_plain; exact do_makeFunc rfl rfl; exact rfl
  refine seq_call rfl (rows_c (am := fun k => (k == a) || (k == b)) (hs.ext (ext_Ext hc)) htop.2 (by omega) hl hr (ext_Ext hc _ _ hG) fun k _ H' hE => oneOf_c (hE _ _ (ext_get_new rfl)) (hE _ _ (ext_get_new rfl))) rfl ?_
  rw [ext_fresh, ext_add, ← hW]
  apply seq_plain; exact do_assign rfl; exact rfl
  apply seq_nil
  apply ct_seq
  apply ct_draw (by assumption); decide +kernel
  apply sd_plain (hfree := rfl); intro _; exact do_move rfl; exact rfl
  apply sd_look (hfree := rfl); exact do_load rfl (by exact ext_get_new rfl) rfl (by exact rfl); exact rfl
  apply sd_plain (hfree := rfl); intro _; exact do_indexAddrS rfl rfl rfl (by exact idx_int (by omega)); exact rfl
  apply sd_plain (hfree := rfl); intro _; exact do_fieldAddr rfl rfl; exact rfl
  apply sd_look (hfree := rfl); exact do_load rfl (by exact ext_get_new rfl) rfl (by exact pt_flat1 rw9_len (by omega) rfl); exact rfl
  apply sd_plain (hfree := rfl); intro _; exact do_move rfl; exact rfl
  apply sd_look (hfree := rfl); exact do_load rfl (by exact ext_get_new rfl) rfl (by exact rfl); exact rfl
  apply sd_plain (hfree := rfl); intro _; exact do_indexAddrS rfl rfl rfl (by exact idx_int (by omega)); exact rfl
  apply sd_plain (hfree := rfl); intro _; exact do_fieldAddr rfl rfl; exact rfl
  apply sd_look (hfree := rfl); exact do_load rfl (by exact ext_get_new rfl) rfl (by exact pt_flat1 rw9_len (by omega) rfl); exact rfl
  apply sd_plain (hfree := rfl); intro _; exact do_assign rfl; exact rfl
  apply sd_plain (hfree := rfl); intro _; exact do_assign rfl; exact rfl
  apply sd_plain (hfree := rfl); intro _; exact do_assign rfl; exact rfl
  apply sd_nil
  apply ct_ret
  exact fin_flat hc rfl rfl ⟨rfl, rfl⟩
end Go.Proofs.YtiggikjbknoohaaGreatDoor
