/- LeagueCounts: the law's own walk. -/
import Derived.Test.YtiggikjbknoohaaGreatDoorTcL
noncomputable section
namespace Go.Proofs.YtiggikjbknoohaaGreatDoor
open Go Go.Den
set_option maxRecDepth 100000

def stopB (n : Int) (l : List Ma) (r : Ru) : Bool := bigB l || (((if bigB l then 0 else firstL [chkM n l, ruleL r]) != 0) || (decide (n > 8) || decide ((l.length : Int) > 40)))
abbrev seaB (n : Int) (q : Option Addr) (c : Nat) (l : List Ma) (r : Ru) : ABlk := .cells (I n :: .slice q l.length c :: ruL r) 0 false false
abbrev prB (a b : Int) : ABlk := .cells [I a, I b] 0 false false
/-- the teams of the rows before i -/
def seenL (B : List Rw) (N i : Nat) : List Bool := (List.range N).map fun (k : Nat) => decide ((k : Int) ∈ (B.take i).map (·.team))
theorem seenL_len {B : List Rw} {N i : Nat} : (seenL B N i).length = N := by simp [seenL]
theorem seenL_zero {B : List Rw} {N : Nat} : seenL B N 0 = List.replicate N false := by
  refine List.ext_getElem (by simp [seenL]) fun i h1 h2 => by simp [seenL]
theorem seenL_at {B : List Rw} {N i : Nat} (nd : (B.map (·.team)).Nodup) (hi : i < B.length) (h0 : 0 ≤ B[i].team) (hN : B[i].team.toNat < (seenL B N i).length) : (seenL B N i)[B[i].team.toNat] = false := by
  simp only [seenL, List.getElem_map, List.getElem_range, decide_eq_false_iff_not]
  rw [Int.toNat_of_nonneg h0]
  have e : B.map (·.team) = (B.take i).map (·.team) ++ B[i].team :: (B.drop (i + 1)).map (·.team) := by
    rw [← List.map_cons, ← List.drop_eq_getElem_cons hi, ← List.map_append, List.take_append_drop]
  rw [e] at nd
  exact fun hm => (List.nodup_append.1 nd).2.2 _ hm _ (List.mem_cons_self ..) rfl
theorem seenL_set {B : List Rw} {N i : Nat} (hi : i < B.length) (h0 : 0 ≤ B[i].team) : (seenL B N i).set B[i].team.toNat true = seenL B N (i + 1) := by
  refine List.ext_getElem (by simp [seenL]) fun k h1 h2 => ?_
  rw [List.getElem_set]
  simp only [seenL, List.getElem_map, List.getElem_range]
  rw [take_snoc hi, List.map_append]
  by_cases e : B[i].team.toNat = k
  · rw [if_pos e]
    have e2 : B[i].team = (k : Int) := by omega
    simp [e2]
  · rw [if_neg e, decide_eq_decide]
    have e2 : (k : Int) ≠ B[i].team := by omega
    simp [e2]
theorem sumR_snoc {f : Rw → Int} {B : List Rw} {i : Nat} (hi : i < B.length) : sumR f (B.take (i + 1)) = sumR f (B.take i) + f B[i] := by
  rw [take_snoc hi]
  unfold sumR
  rw [List.map_append, List.sum_append]
  simp
theorem sumR_bd {f : Rw → Int} {B : List Rw} (h : ∀ i (h : i < B.length), 0 ≤ f B[i] ∧ f B[i] ≤ 1000000) : ∀ i, i ≤ B.length → 0 ≤ sumR f (B.take i) ∧ sumR f (B.take i) ≤ 1000000 * i
  | 0, _ => by simp [sumR]
  | i + 1, hi => by
    have := sumR_bd h i (by omega)
    have h2 := h i (by omega)
    rw [sumR_snoc (by omega)]
    omega
theorem table_bd {r : Ru} {n : Nat} {l : List Ma} (hr : RuOk r) (hn : n ≤ 24) (hl : ∀ m ∈ l, MaOk n m) (hlen : l.length ≤ 1000) {i : Nat} (h : i < (tableL r n l).length) :
    (0 ≤ (tableL r n l)[i].played ∧ (tableL r n l)[i].played ≤ 1000) ∧ (0 ≤ (tableL r n l)[i].won ∧ (tableL r n l)[i].won ≤ 1000) ∧ (0 ≤ (tableL r n l)[i].drawn ∧ (tableL r n l)[i].drawn ≤ 1000) ∧ (0 ≤ (tableL r n l)[i].lost ∧ (tableL r n l)[i].lost ≤ 1000) ∧
    (0 ≤ (tableL r n l)[i].fr ∧ (tableL r n l)[i].fr ≤ 99000) ∧ (0 ≤ (tableL r n l)[i].ag ∧ (tableL r n l)[i].ag ≤ 99000) ∧ (0 ≤ (tableL r n l)[i].pts ∧ (tableL r n l)[i].pts ≤ 99000) := by
  have h' : i < n := by rwa [table_len] at h
  obtain ⟨j, hj, e⟩ := sorted_mem (r := r) (n := n) (l := l) (i := i) (by rw [sorted_len]; exact h')
  obtain ⟨b1, b2, b3, b4, b5, b6, b7, b8, b9⟩ := rowsF_bd hr hn hl hj
  rw [table_get h', e]
  simp only
  exact ⟨by omega, by omega, by omega, by omega, by omega, by omega, by omega⟩
structure NextOk (x y : Rw) (k : Nat) : Prop where
  pts : y.pts ≤ x.pts
  rank : y.rank = x.rank ∨ y.rank = ((k + 2 : Nat) : Int)
  same : y.rank = x.rank → y.pts = x.pts ∧ y.fr = x.fr ∧ y.ag = x.ag ∧ x.team ≤ y.team
theorem mul_bd {a b : Int} (ha : 0 ≤ a ∧ a ≤ 1000) (hb : 0 ≤ b ∧ b ≤ 99) : 0 ≤ a * b ∧ a * b ≤ 99000 :=
  ⟨Int.mul_nonneg ha.1 hb.1, Int.le_trans (Int.mul_le_mul ha.2 hb.2 hb.1 (by omega)) (by omega)⟩
set_option maxHeartbeats 8000000 in
theorem law6 {H : AHeap} {n a b : Int} {q : Option Addr} {c : Nat} {l : List Ma} {r : Ru} (haw : ∀ h, Ext H h → Ret Tryz.prog 17 [] h (.bool true) h) (hs : SlAt H 5 mt q l) (hG : H.get 1 = some (.cells cs0 0 false true)) (hn : l.length ≤ 1048576) :
    Ret Tryz.prog 6 [seaV n q c l r, .agg ⟨[I a, I b]⟩] H (.bool true) H := by
  refine fn_start Tryz.func6 rfl rfl rfl fun hc => ?_
  apply ct_seq
  apply ct_region
  apply seq_newP; exact do_box rfl rfl rfl; exact rfl
  apply seq_newP; exact do_box rfl rfl rfl; exact rfl
  apply seq_plain; exact do_assign rfl; exact rfl
  apply seq_nil
  apply ct_seq
  apply ct_region
  apply seq_plain; exact do_load rfl (by exact ext_get_new rfl) rfl (by exact rfl); exact rfl
  apply seq_call (ht := rfl); exact seasonOk_c (hs.ext (ext_Ext hc)) (by omega); exact rfl
  apply seq_plain; exact do_move rfl; exact rfl
  apply seq_plain; exact do_extract rfl rfl; exact rfl
  apply seq_plain; exact do_extract rfl rfl; exact rfl
  apply seq_plain; exact do_assign rfl; exact rfl
  apply seq_plain; exact do_assign rfl; exact rfl
  apply seq_nil
  apply ct_seq
  apply ct_seq
  apply ct_region
  apply seq_call (ht := rfl); exact haw _ (ext_Ext hc); exact rfl
  apply seq_plain; exact do_unOp rfl rfl; exact rfl
  apply seq_plain; exact do_move rfl; exact rfl
  apply seq_guard (hd := rfl) (hl := rfl); exact do_move rfl; exact rfl
  apply seq_guard (hd := rfl) (hl := rfl); exact do_unOp rfl rfl; exact rfl
  apply seq_plain; exact do_pick_f rfl rfl; exact rfl
  apply seq_plain; exact do_move rfl; exact rfl
  obtain ⟨Z, hZ⟩ : ∃ Z, Z = stopB n l r := ⟨_, rfl⟩
  refine seq_J [(2, .pointer (some ⟨nb H 0, 0, none⟩)), (3, .pointer (some ⟨nb H 1, 0, none⟩)), (55, .bool Z)] (ds := []) (h := ext H H.fresh [some (seaB n q c l r), some (prB a b)]) ?_ ?_
  · refine seq_gsplit rfl rfl (fun u0 => ?_) (fun u0 => ?_)
    · have u0 : (false || !(!bigB l)) = true := u0
      have u0 : bigB l = true := by simpa using u0
      have e : Z = true := by rw [hZ, stopB, u0]; rfl
      rw [e]
      apply seq_passed (hd := rfl) (hl := rfl) (hb := rfl); exact rfl
      apply seq_passed (hd := rfl) (hl := rfl) (hb := rfl); exact rfl
      apply seq_plain; exact do_pick_t rfl rfl; exact rfl
      apply seq_plain; exact do_move rfl; exact rfl
      apply seq_passed (hd := rfl) (hl := rfl) (hb := rfl); exact rfl
      apply seq_passed (hd := rfl) (hl := rfl) (hb := rfl); exact rfl
      apply seq_passed (hd := rfl) (hl := rfl) (hb := rfl); exact rfl
      apply seq_plain; exact do_pick_t rfl rfl; exact rfl
      apply seq_plain; exact do_move rfl; exact rfl
      apply seq_passed (hd := rfl) (hl := rfl) (hb := rfl); exact rfl
      apply seq_passed (hd := rfl) (hl := rfl) (hb := rfl); exact rfl
      apply seq_passed (hd := rfl) (hl := rfl) (hb := rfl); exact rfl
      apply seq_passed (hd := rfl) (hl := rfl) (hb := rfl); exact rfl
      apply seq_plain; exact do_pick_t rfl rfl; exact rfl
      apply seq_nil
      exact jp_of (by repeat (first | exact sub_nil | apply sub_cons rfl))
    have u0 : (false || !(!bigB l)) = false := u0
    have u0 : bigB l = false := by simpa using u0
    have eif : (if bigB l = true then (0 : Int) else firstL [chkM n l, ruleL r]) = firstL [chkM n l, ruleL r] := by rw [u0]; rfl
    simp only [stopB, u0, Bool.false_or, Bool.false_eq_true, if_false] at hZ
    rw [eif]
    apply seq_guard (hd := rfl) (hl := rfl); exact do_move rfl; exact rfl
    apply seq_guard (hd := rfl) (hl := rfl); exact do_binInt rfl rfl rfl trivial; exact rfl
    apply seq_plain; exact do_pick_f rfl rfl; exact rfl
    apply seq_plain; exact do_move rfl; exact rfl
    refine seq_gsplit rfl rfl (fun u1 => ?_) (fun u1 => ?_)
    · have u1 : (firstL [chkM n l, ruleL r] != 0) = true := u1
      have e : Z = true := by rw [hZ, u1]; rfl
      rw [e]
      apply seq_passed (hd := rfl) (hl := rfl) (hb := rfl); exact rfl
      apply seq_passed (hd := rfl) (hl := rfl) (hb := rfl); exact rfl
      apply seq_passed (hd := rfl) (hl := rfl) (hb := rfl); exact rfl
      apply seq_plain; exact do_pick_t rfl rfl; exact rfl
      apply seq_plain; exact do_move rfl; exact rfl
      apply seq_passed (hd := rfl) (hl := rfl) (hb := rfl); exact rfl
      apply seq_passed (hd := rfl) (hl := rfl) (hb := rfl); exact rfl
      apply seq_passed (hd := rfl) (hl := rfl) (hb := rfl); exact rfl
      apply seq_passed (hd := rfl) (hl := rfl) (hb := rfl); exact rfl
      apply seq_plain; exact do_pick_t rfl rfl; exact rfl
      apply seq_nil
      exact jp_of (by repeat (first | exact sub_nil | apply sub_cons rfl))
    have u1 : (firstL [chkM n l, ruleL r] != 0) = false := u1
    rw [u1, Bool.false_or] at hZ
    apply seq_guard (hd := rfl) (hl := rfl); exact do_fieldAddr rfl rfl; exact rfl
    apply seq_guard (hd := rfl) (hl := rfl); exact do_load rfl (by exact ext_get_new rfl) rfl (by exact rfl); exact rfl
    apply seq_guard (hd := rfl) (hl := rfl); exact do_binInt rfl rfl rfl trivial; exact rfl
    apply seq_plain; exact do_pick_f rfl rfl; exact rfl
    apply seq_plain; exact do_move rfl; exact rfl
    refine seq_gsplit rfl rfl (fun u2 => ?_) (fun u2 => ?_)
    · have u2 : decide (n > 8) = true := u2
      have e : Z = true := by rw [hZ, u2]; rfl
      rw [e]
      apply seq_passed (hd := rfl) (hl := rfl) (hb := rfl); exact rfl
      apply seq_passed (hd := rfl) (hl := rfl) (hb := rfl); exact rfl
      apply seq_passed (hd := rfl) (hl := rfl) (hb := rfl); exact rfl
      apply seq_passed (hd := rfl) (hl := rfl) (hb := rfl); exact rfl
      apply seq_plain; exact do_pick_t rfl rfl; exact rfl
      apply seq_nil
      exact jp_of (by repeat (first | exact sub_nil | apply sub_cons rfl))
    have u2 : decide (n > 8) = false := u2
    rw [u2, Bool.false_or] at hZ
    rw [hZ]
    apply seq_guard (hd := rfl) (hl := rfl); exact do_fieldAddr rfl rfl; exact rfl
    apply seq_guard (hd := rfl) (hl := rfl); exact do_load rfl (by exact ext_get_new rfl) rfl (by exact rfl); exact rfl
    apply seq_guard (hd := rfl) (hl := rfl); exact do_lenS rfl rfl rfl; exact rfl
    apply seq_guard (hd := rfl) (hl := rfl); exact do_binInt rfl rfl rfl trivial; exact rfl
    apply seq_plain; exact do_pick_f rfl rfl; exact rfl
    apply seq_nil
    exact jp_of (by repeat (first | exact sub_nil | apply sub_cons rfl))
  refine ct_cond rfl (fun h1 => ?_) (fun h1 => ?_)
  · apply ct_seq
    apply ct_region
    apply seq_call (ht := rfl); exact haw _ (ext_Ext hc); exact rfl
    apply seq_plain; exact do_assign rfl; exact rfl
    apply seq_nil
    apply ct_ret
    exact fin_flat hc rfl rfl ⟨rfl, rfl⟩
  have h1 : Z = false := by simpa using h1
  rw [h1] at hZ
  have hZ := hZ.symm
  simp only [stopB, Bool.or_eq_false_iff, decide_eq_false_iff_not] at hZ
  obtain ⟨z1, z2, z3, z4⟩ := hZ
  rw [z1] at z2
  have z2 : firstL [chkM n l, ruleL r] = 0 := by simpa using z2
  have hchk : chkM n l = 0 := firstL_zeroC.1 z2 _ (List.mem_cons_self ..)
  have hrule : ruleL r = 0 := firstL_zeroC.1 z2 _ (List.mem_cons_of_mem _ (List.mem_cons_self ..))
  have htop := top_ok (chkM_zero.1 hchk).1
  obtain ⟨N, rfl⟩ : ∃ N : Nat, n = (N : Int) := ⟨n.toNat, by omega⟩
  have hN8 : N ≤ 8 := by omega
  have hN2 : 2 ≤ N := by omega
  have hl : ∀ m ∈ l, MaOk N m := fun m hm => ma_ok ((chkM_zero.1 hchk).2.1 m hm)
  have hr := ru_ok hrule
  clear z1 z2 z3
  apply ct_skip
  apply ct_seq
  apply ct_region
  apply seq_plain; exact do_assign rfl; exact rfl
  apply seq_nil
  apply ct_seq
  apply ct_seq
  apply ct_region
  apply seq_plain; exact do_fieldAddr rfl rfl; exact rfl
  apply seq_plain; exact do_load rfl (by exact ext_get_new rfl) rfl (by exact rfl); exact rfl
  apply seq_plain; exact do_lenS rfl rfl rfl; exact rfl
  apply seq_plain; exact do_move rfl; exact rfl
  apply seq_nil
  apply ct_block
  apply ct_loop
  refine lt_meas (α := Nat × Value × List (Option ABlk)) (fun x => [(2, .pointer (some ⟨nb H 0, 0, none⟩)), (3, .pointer (some ⟨nb H 1, 0, none⟩)), (7, x.2.1), (59, I l.length), (60, I x.1)]) (fun x => ext H H.fresh x.2.2)
    (fun x => x.1 ≤ l.length ∧ Lst H x.2.2 5 mt 2 x.2.1 (l.reverse.take x.1) ∧ x.2.2[0]? = some (some (seaB N q c l r)) ∧ x.2.2[1]? = some (some (prB a b)) ∧ 2 ≤ x.2.2.length) (fun x => l.length - x.1) (fun x hx ih => ?_) (0, .slice none 0 0, [some (seaB N q c l r), some (prB a b)]) ⟨by simp, .nil, rfl, rfl, by simp⟩ (by repeat (first | exact sub_nil | apply sub_cons rfl)) (.refl _)
  obtain ⟨i, v, L⟩ := x
  obtain ⟨hi, hv, hL0, hL1, hL2⟩ := hx
  simp only at hi hv hL0 hL1 hL2 ih ⊢
  have ih' := fun i' v' L' a1 a2 a3 a4 a5 a6 => ih (i', v', L') a1 ⟨a2, a3, a4, a5, a6⟩
  simp only at ih'
  clear ih
  apply ct_seq
  apply ct_region
  apply seq_plain; exact do_binInt rfl rfl rfl trivial; exact rfl
  apply seq_nil
  apply ct_seq
  refine ct_cond rfl (fun h1 => ?_) (fun h1 => ?_)
  · simp only [decide_eq_true_eq, Int.ofNat_lt] at h1
    obtain ⟨bk, ok, cs, z, s, ro, rfl, hg, hw⟩ := hs.out (by intro e; rw [e] at h1; simp at h1)
    have hir : i < l.reverse.length := by rw [List.length_reverse]; exact h1
    have eri : ∀ h : l.length - 1 - i < l.length, l[l.length - 1 - i] = l.reverse[i] := fun h => by rw [List.getElem_reverse]
    apply ct_skip
    apply ct_seq
    apply ct_block
    apply ct_seq
    apply ct_region
    apply seq_plain; exact do_move rfl; exact rfl
    apply seq_plain; exact do_assign rfl; exact rfl
    apply seq_nil
    apply ct_region
    apply seq_plain; exact do_move rfl; exact rfl
    apply seq_plain; exact do_fieldAddr rfl rfl; exact rfl
    apply seq_plain; exact do_load rfl (by exact ext_get_new (by assumption)) rfl (by exact rfl); exact rfl
    apply seq_plain; exact do_fieldAddr rfl rfl; exact rfl
    apply seq_plain; exact do_load rfl (by exact ext_get_new (by assumption)) rfl (by exact rfl); exact rfl
    apply seq_plain; exact do_lenS rfl rfl rfl; exact rfl
    apply seq_plain; exact do_predN rfl rfl (by omega) (by omega); exact rfl
    apply seq_plain; exact do_move rfl; exact rfl
    apply seq_plain; exact do_subN rfl rfl (by omega) (by omega); exact rfl
    apply seq_plain; exact do_indexAddrS rfl rfl rfl (by exact idx_nat (by omega)); exact rfl
    apply seq_plain; exact do_load rfl (by exact ext_get_old (by assumption) (by assumption)) rfl (by exact pt_sl (by assumption) (by omega)); exact rfl
    apply seq_newS; exact do_buildSlice rfl rfl rfl rfl rfl rfl rfl; exact rfl
    rw [eri (by omega)]
    refine seq_grow (xs := [l.reverse[i]]) (k0 := 2) hc (hv.app _) (by rw [List.length_append]; omega) (fun _ => rfl) (fun _ => rfl) rfl rfl rfl rfl rfl rfl (ext_get_new List.getElem?_concat_length) rfl (by simp) ?_ (Nat.ne_of_beq_eq_false rfl) (Nat.ne_of_beq_eq_false rfl) rfl (fun v' L3 hv' hst3 hlen3 => ?_)
    · exact Nat.le_trans (Nat.mul_le_mul_right _ (by simp only [List.length_cons, List.length_nil, List.length_take]; omega : _ ≤ 3000000000)) (Nat.le_of_ble_eq_true rfl)
    apply seq_plain; exact do_assign rfl; exact rfl
    apply seq_nil
    apply ct_region
    apply seq_plain; exact do_succ rfl (by omega); exact rfl
    apply seq_plain; exact do_move rfl; exact rfl
    apply seq_nil
    refine lt_to (by repeat (first | exact sub_nil | apply sub_cons rfl)) (.refl _) (ih' (i + 1) v' L3 (by omega) (by omega) ?_ (hst3 0 _ (by omega) (getApp hL0)) (hst3 1 _ (by omega) (getApp hL1)) (by rw [hlen3, List.length_append]; omega))
    rw [take_snoc hir]; exact hv'
  have h1 : i = l.length := by simp at h1; omega
  rw [h1, List.take_of_length_le (by rw [List.length_reverse]; exact Nat.le_refl _)] at hv
  obtain ⟨pb, rfl, hsb, _⟩ := hv.slice (lo := H.fresh) (fun _ => rfl)
  clear ih' hi
  obtain ⟨B, hB⟩ : ∃ B, B = tableL r N l := ⟨_, rfl⟩
  have hB2 : tableL r N l.reverse = B := by rw [hB]; exact table_perm (List.reverse_perm l)
  have hBl : B.length = N := by rw [hB, table_len]
  apply ct_exit
  apply exit_eq; exact rfl
  apply ct_seq
  apply ct_region
  apply seq_plain; exact do_fieldAddr rfl rfl; exact rfl
  apply seq_plain; exact do_load rfl (by exact ext_get_new (by assumption)) rfl (by exact rfl); exact rfl
  apply seq_plain; exact do_fieldAddr rfl rfl; exact rfl
  apply seq_plain; exact do_load rfl (by exact ext_get_new (by assumption)) rfl (by exact rfl); exact rfl
  apply seq_plain; exact do_fieldAddr rfl rfl; exact rfl
  apply seq_plain; exact do_load rfl (by exact ext_get_new (by assumption)) rfl (by exact rfl); exact rfl
  refine seq_call rfl (table_c (n := N) (hs.ext (ext_Ext hc)) (ext_Ext hc _ _ hG) hchk hrule hN8) rfl ?_
  rw [ext_fresh, ext_add, ← hB]
  apply seq_plain; exact do_move rfl; exact rfl
  apply seq_plain; exact do_extract rfl rfl; exact rfl
  apply seq_plain; exact do_extract rfl rfl; exact rfl
  apply seq_plain; exact do_assign rfl; exact rfl
  apply seq_plain; exact do_assign rfl; exact rfl
  apply seq_nil
  apply ct_seq
  apply ct_region
  apply seq_plain; exact do_fieldAddr rfl rfl; exact rfl
  apply seq_plain; exact do_load rfl (by exact ext_get_new (getApp (by assumption))) rfl (by exact rfl); exact rfl
  apply seq_plain; exact do_move rfl; exact rfl
  apply seq_plain; exact do_fieldAddr rfl rfl; exact rfl
  apply seq_plain; exact do_load rfl (by exact ext_get_new (getApp (by assumption))) rfl (by exact rfl); exact rfl
  refine seq_call rfl (table_c (n := N) (l := l.reverse) (hsb.ext (ext_appK hc)) (ext_Ext hc _ _ hG) (chkM_rev hchk) hrule hN8) rfl ?_
  rw [ext_fresh, ext_add, hB2, show (L ++ [some (rwB B 9 false)]).length = L.length + 1 by simp]
  apply seq_plain; exact do_move rfl; exact rfl
  apply seq_plain; exact do_extract rfl rfl; exact rfl
  apply seq_plain; exact do_extract rfl rfl; exact rfl
  apply seq_plain; exact do_assign rfl; exact rfl
  apply seq_plain; exact do_assign rfl; exact rfl
  apply seq_nil
  apply ct_seq
  apply ct_seq
  apply ct_region
  apply seq_plain; exact do_move rfl; exact rfl
  apply seq_plain; exact do_move rfl; exact rfl
  apply seq_plain; exact do_add rfl rfl (by omega); exact rfl
  apply seq_plain; exact do_binInt rfl rfl rfl trivial; exact rfl
  apply seq_plain; exact do_move rfl; exact rfl
  apply seq_guard (hd := rfl) (hl := rfl); exact do_move rfl; exact rfl
  apply seq_guard (hd := rfl) (hl := rfl); exact do_lenS rfl rfl rfl; exact rfl
  apply seq_guard (hd := rfl) (hl := rfl); exact do_fieldAddr rfl rfl; exact rfl
  apply seq_guard (hd := rfl) (hl := rfl); exact do_load rfl (by exact ext_get_new (getApp (getApp (by assumption)))) rfl (by exact rfl); exact rfl
  apply seq_guard (hd := rfl) (hl := rfl); exact do_binInt rfl rfl rfl trivial; exact rfl
  apply seq_plain; exact do_pick_f rfl rfl; exact rfl
  apply seq_plain; exact do_move rfl; exact rfl
  obtain ⟨L9, e9⟩ : ∃ L9, L9 = L ++ [some (rwB B 9 false)] ++ [some (rwB B 9 false)] := ⟨_, rfl⟩
  have f0 : L9[0]? = some (some (seaB N q c l r)) := by rw [e9]; exact getApp (getApp hL0)
  have f1 : L9[1]? = some (some (prB a b)) := by rw [e9]; exact getApp (getApp hL1)
  have ft : L9[L.length]? = some (some (rwB B 9 false)) := by rw [e9]; exact getApp List.getElem?_concat_length
  have fu : L9[L.length + 1]? = some (some (rwB B 9 false)) := by
    rw [e9, show L.length + 1 = (L ++ [some (rwB B 9 false)]).length by simp]
    exact List.getElem?_concat_length
  rw [← e9]
  refine seq_gsplit rfl rfl (fun u => ?_) (fun u => ?_)
  · exact absurd (show ((N : Int) != N) = true from u) (by simp)
  apply seq_guard (hd := rfl) (hl := rfl); exact do_move rfl; exact rfl
  have hO := ownRows_c (H := ext H H.fresh L9) (c := N) (l := B) (slAt_flat rw9_len (ext_get_new ft)) (by omega)
  rw [hBl] at hO
  refine seq_gcall rfl rfl rfl hO rfl ?_
  rw [lstH_ext, ext_fresh]
  apply seq_guard (hd := rfl) (hl := rfl); exact do_move rfl; exact rfl
  have hO2 := ownRows_c (H := ext H H.fresh (L9 ++ lstL 9 rw9 B)) (c := N) (l := B) (slAt_flat rw9_len (ext_get_new (getApp fu))) (by omega)
  rw [hBl] at hO2
  refine seq_gcall rfl rfl rfl hO2 rfl ?_
  rw [lstH_ext, ext_fresh]
  skip
  refine seq_gcall rfl rfl rfl (sameRows_c (l := B) ((lst_slAt rw9_len).ext (ext_appK hc)) (lst_slAt rw9_len) (by omega)) rfl ?_
  apply seq_guard (hd := rfl) (hl := rfl); exact do_unOp rfl rfl; exact rfl
  apply seq_plain; exact do_pick_f rfl rfl; exact rfl
  apply seq_nil
  refine ct_cond_f rfl (by simp) ?_
  obtain ⟨M, eM⟩ : ∃ M, M = L9 ++ lstL 9 rw9 B ++ lstL 9 rw9 B := ⟨_, rfl⟩
  have g0 : M[0]? = some (some (seaB N q c l r)) := by rw [eM]; exact getApp (getApp f0)
  have g1 : M[1]? = some (some (prB a b)) := by rw [eM]; exact getApp (getApp f1)
  have gt : M[L.length]? = some (some (rwB B 9 false)) := by rw [eM]; exact getApp (getApp ft)
  have gl : L.length < M.length := (List.getElem?_eq_some_iff.1 gt).1
  rw [← eM]
  clear hO hO2 f0 f1 ft fu
  apply ct_skip
  apply ct_seq
  apply ct_region
  apply seq_plain; exact do_fieldAddr rfl rfl; exact rfl
  apply seq_plain; exact do_load rfl (by exact ext_get_new (by assumption)) rfl (by exact rfl); exact rfl
  apply seq_newS; exact mkBools rfl (by omega); exact rfl
  apply seq_plain; exact do_assign rfl; exact rfl
  apply seq_nil
  apply ct_seq
  apply ct_region
  apply seq_plain; exact do_assign rfl; exact rfl
  apply seq_plain; exact do_assign rfl; exact rfl
  apply seq_plain; exact do_assign rfl; exact rfl
  apply seq_plain; exact do_assign rfl; exact rfl
  apply seq_plain; exact do_assign rfl; exact rfl
  apply seq_plain; exact do_assign rfl; exact rfl
  apply seq_nil
  apply ct_seq
  apply ct_seq
  apply ct_region
  apply seq_plain; exact do_move rfl; exact rfl
  apply seq_plain; exact do_lenS rfl rfl rfl; exact rfl
  apply seq_plain; exact do_move rfl; exact rfl
  apply seq_nil
  apply ct_block
  apply ct_loop
  have hBd : ∀ i (h : i < B.length), (0 ≤ B[i].played ∧ B[i].played ≤ 1000) ∧ (0 ≤ B[i].won ∧ B[i].won ≤ 1000) ∧ (0 ≤ B[i].drawn ∧ B[i].drawn ≤ 1000) ∧ (0 ≤ B[i].lost ∧ B[i].lost ≤ 1000) ∧ (0 ≤ B[i].fr ∧ B[i].fr ≤ 99000) ∧ (0 ≤ B[i].ag ∧ B[i].ag ≤ 99000) ∧ (0 ≤ B[i].pts ∧ B[i].pts ≤ 99000) := fun i h => by
    subst hB; exact table_bd hr (by omega) hl (by omega) h
  have hnd : (B.map (·.team)).Nodup := by rw [hB]; exact table_nodup
  have hrow : ∀ i (h : i < B.length), (0 ≤ B[i].team ∧ B[i].team < N) ∧ B[i].played = B[i].won + B[i].drawn + B[i].lost ∧ B[i].pts = B[i].won * r.win + B[i].drawn * r.draw + B[i].lost * r.loss := fun i h => by
    subst hB; exact table_row (by omega) _ (List.getElem?_eq_getElem h)
  refine lt_meas (α := Nat × List (Option ABlk)) (fun x => [(2, .pointer (some ⟨nb H 0, 0, none⟩)), (3, .pointer (some ⟨nb H 1, 0, none⟩)), (9, .slice (some ⟨nb H L.length, 0, none⟩) N N), (13, .slice (some ⟨nb H M.length, 0, none⟩) N N), (14, I (sumR (·.won) (B.take x.1))), (15, I (sumR (·.lost) (B.take x.1))), (16, I (sumR (·.fr) (B.take x.1))), (17, I (sumR (·.ag) (B.take x.1))), (18, I (sumR (·.played) (B.take x.1))), (19, I (sumR (·.drawn) (B.take x.1))), (118, .slice (some ⟨nb H L.length, 0, none⟩) N N), (119, I N), (120, I x.1)]) (fun x => ext H H.fresh x.2)
    (fun x => x.1 ≤ N ∧ x.2[0]? = some (some (seaB N q c l r)) ∧ x.2[1]? = some (some (prB a b)) ∧ x.2[L.length]? = some (some (rwB B 9 false)) ∧ x.2[M.length]? = some (some (.cells ((seenL B N x.1).map Value.bool) 1 false false))) (fun x => N - x.1) (fun x hx ih => ?_)
    (0, M ++ [some (.cells ((List.replicate N false).map Value.bool) 1 false false)]) ⟨by omega, getApp g0, getApp g1, getApp gt, by rw [seenL_zero]; exact List.getElem?_concat_length⟩ (by repeat (first | exact sub_nil | apply sub_cons rfl)) (.refl _)
  obtain ⟨i, Q⟩ := x
  obtain ⟨hi, q0, q1, qt, qs⟩ := hx
  simp only at hi q0 q1 qt qs ih ⊢
  have ih' := fun i' L' a1 a2 a3 a4 a5 a6 => ih (i', L') a1 ⟨a2, a3, a4, a5, a6⟩
  simp only at ih'
  clear ih
  apply ct_seq
  apply ct_region
  apply seq_plain; exact do_binInt rfl rfl rfl trivial; exact rfl
  apply seq_nil
  apply ct_seq
  refine ct_cond rfl (fun h1 => ?_) (fun h1 => ?_)
  · simp only [decide_eq_true_eq, Int.ofNat_lt] at h1
    have hiB : i < B.length := by omega
    obtain ⟨⟨t1, t2⟩, e1, e2⟩ := hrow i hiB
    obtain ⟨c1, c2, c3, c4, c5, c6, c7⟩ := hBd i hiB
    have mw := mul_bd c2 hr.win
    have md := mul_bd c3 hr.draw
    have ml := mul_bd c4 hr.loss
    have mw' : -9223372036854775808 ≤ B[i].won * r.win ∧ B[i].won * r.win ≤ 9223372036854775807 := by omega
    have md' : -9223372036854775808 ≤ B[i].drawn * r.draw ∧ B[i].drawn * r.draw ≤ 9223372036854775807 := by omega
    have ml' : -9223372036854775808 ≤ B[i].lost * r.loss ∧ B[i].lost * r.loss ≤ 9223372036854775807 := by omega
    have hsl : (seenL B N i).length = N := seenL_len
    have hsat : ∀ h : B[i].team.toNat < (seenL B N i).length, (seenL B N i)[B[i].team.toNat] = false := fun h => seenL_at hnd hiB t1 h
    apply ct_skip
    apply ct_seq
    apply ct_block
    apply ct_seq
    apply ct_region
    apply seq_plain; exact do_move rfl; exact rfl
    apply seq_plain; exact do_indexAddrS rfl rfl rfl (by exact idx_nat (by omega)); exact rfl
    apply seq_plain; exact do_load rfl (by exact ext_get_new (by assumption)) rfl (by exact pt_flat rw9_len (by omega)); exact rfl
    apply seq_newP; exact do_alloc rfl rfl; exact rfl
    apply seq_plain; exact do_assign rfl; exact rfl
    apply seq_putC (hc := by assumption); rotate_left; exact do_store rfl rfl (by exact ext_get_new List.getElem?_concat_length) rfl rfl (nb_own _); rotate_left; exact (by simp)
    apply ct_seq
    apply ct_seq
    apply ct_region
    apply seq_plain; exact do_fieldAddr rfl rfl; exact rfl
    apply seq_plain; exact do_load rfl (by exact ext_get_new getSetLast) rfl (by exact rfl); exact rfl
    apply seq_plain; exact do_binInt rfl rfl rfl trivial; exact rfl
    apply seq_plain; exact do_move rfl; exact rfl
    rw [set_mid rfl]
    obtain ⟨y8, e8⟩ : ∃ y : ABlk, y = .cells (rw9 B[i]) 0 false false := ⟨_, rfl⟩
    have p8 : (Q ++ [some y8])[Q.length]? = some (some y8) := List.getElem?_concat_length
    have p0 : (Q ++ [some y8])[0]? = some (some (seaB N q c l r)) := getApp q0
    have p1 : (Q ++ [some y8])[1]? = some (some (prB a b)) := getApp q1
    have pt' : (Q ++ [some y8])[L.length]? = some (some (rwB B 9 false)) := getApp qt
    have ps : (Q ++ [some y8])[M.length]? = some (some (.cells ((seenL B N i).map Value.bool) 1 false false)) := getApp qs
    have pl : M.length < Q.length := (List.getElem?_eq_some_iff.1 qs).1
    rw [e8] at p8 p0 p1 pt' ps
    skip
    refine seq_gsplit rfl rfl (fun u => ?_) (fun u => ?_)
    · exact absurd (of_decide_eq_true (show decide (B[i].team < 0) = true from u)) (by omega)
    apply seq_guard (hd := rfl) (hl := rfl); exact do_fieldAddr rfl rfl; exact rfl
    apply seq_guard (hd := rfl) (hl := rfl); exact do_load rfl (by exact ext_get_new List.getElem?_concat_length) rfl (by exact rfl); exact rfl
    apply seq_guard (hd := rfl) (hl := rfl); exact do_fieldAddr rfl rfl; exact rfl
    apply seq_guard (hd := rfl) (hl := rfl); exact do_load rfl (by exact ext_get_new (by assumption)) rfl (by exact rfl); exact rfl
    apply seq_guard (hd := rfl) (hl := rfl); exact do_binInt rfl rfl rfl trivial; exact rfl
    apply seq_plain; exact do_pick_f rfl rfl; exact rfl
    apply seq_plain; exact do_move rfl; exact rfl
    refine seq_gsplit rfl rfl (fun u => ?_) (fun u => ?_)
    · exact absurd (of_decide_eq_true (show decide (B[i].team ≥ (N : Int)) = true from u)) (by omega)
    apply seq_guard (hd := rfl) (hl := rfl); exact do_move rfl; exact rfl
    apply seq_guard (hd := rfl) (hl := rfl); exact do_fieldAddr rfl rfl; exact rfl
    apply seq_guard (hd := rfl) (hl := rfl); exact do_load rfl (by exact ext_get_new List.getElem?_concat_length) rfl (by exact rfl); exact rfl
    apply seq_guard (hd := rfl) (hl := rfl); exact do_indexAddrS rfl rfl rfl (by exact idx_int (by omega)); exact rfl
    apply seq_guard (hd := rfl) (hl := rfl); exact do_load rfl (by exact ext_get_new (by assumption)) rfl (by exact pt_map (by omega)); exact rfl
    apply seq_plain; exact do_pick_f rfl rfl; exact rfl
    apply seq_plain; exact do_move rfl; exact rfl
    refine seq_gsplit rfl rfl (fun u => ?_) (fun u => ?_)
    · exact absurd (show (seenL B N i)[B[i].team.toNat]'(by omega) = true from u) (by rw [hsat]; simp)
    apply seq_guard (hd := rfl) (hl := rfl); exact do_fieldAddr rfl rfl; exact rfl
    apply seq_guard (hd := rfl) (hl := rfl); exact do_load rfl (by exact ext_get_new List.getElem?_concat_length) rfl (by exact rfl); exact rfl
    apply seq_guard (hd := rfl) (hl := rfl); exact do_fieldAddr rfl rfl; exact rfl
    apply seq_guard (hd := rfl) (hl := rfl); exact do_load rfl (by exact ext_get_new List.getElem?_concat_length) rfl (by exact rfl); exact rfl
    apply seq_guard (hd := rfl) (hl := rfl); exact do_fieldAddr rfl rfl; exact rfl
    apply seq_guard (hd := rfl) (hl := rfl); exact do_load rfl (by exact ext_get_new List.getElem?_concat_length) rfl (by exact rfl); exact rfl
    apply seq_guard (hd := rfl) (hl := rfl); exact do_add rfl rfl (by omega); exact rfl
    apply seq_guard (hd := rfl) (hl := rfl); exact do_fieldAddr rfl rfl; exact rfl
    apply seq_guard (hd := rfl) (hl := rfl); exact do_load rfl (by exact ext_get_new List.getElem?_concat_length) rfl (by exact rfl); exact rfl
    apply seq_guard (hd := rfl) (hl := rfl); exact do_add rfl rfl (by omega); exact rfl
    apply seq_guard (hd := rfl) (hl := rfl); exact do_binInt rfl rfl rfl trivial; exact rfl
    apply seq_plain; exact do_pick_f rfl rfl; exact rfl
    apply seq_plain; exact do_move rfl; exact rfl
    refine seq_gsplit rfl rfl (fun u => ?_) (fun u => ?_)
    · exact absurd (show (B[i].played != B[i].won + B[i].drawn + B[i].lost) = true from u) (by simp [e1])
    apply seq_guard (hd := rfl) (hl := rfl); exact do_fieldAddr rfl rfl; exact rfl
    apply seq_guard (hd := rfl) (hl := rfl); exact do_load rfl (by exact ext_get_new List.getElem?_concat_length) rfl (by exact rfl); exact rfl
    apply seq_guard (hd := rfl) (hl := rfl); exact do_fieldAddr rfl rfl; exact rfl
    apply seq_guard (hd := rfl) (hl := rfl); exact do_load rfl (by exact ext_get_new List.getElem?_concat_length) rfl (by exact rfl); exact rfl
    apply seq_guard (hd := rfl) (hl := rfl); exact do_fieldAddr rfl rfl; exact rfl
    apply seq_guard (hd := rfl) (hl := rfl); exact do_fieldAddr rfl rfl; exact rfl
    apply seq_guard (hd := rfl) (hl := rfl); exact do_load rfl (by exact ext_get_new (by assumption)) rfl (by exact rfl); exact rfl
    apply seq_guard (hd := rfl) (hl := rfl); exact do_mul rfl rfl (by assumption); exact rfl
    apply seq_guard (hd := rfl) (hl := rfl); exact do_fieldAddr rfl rfl; exact rfl
    apply seq_guard (hd := rfl) (hl := rfl); exact do_load rfl (by exact ext_get_new List.getElem?_concat_length) rfl (by exact rfl); exact rfl
    apply seq_guard (hd := rfl) (hl := rfl); exact do_fieldAddr rfl rfl; exact rfl
    apply seq_guard (hd := rfl) (hl := rfl); exact do_fieldAddr rfl rfl; exact rfl
    apply seq_guard (hd := rfl) (hl := rfl); exact do_load rfl (by exact ext_get_new (by assumption)) rfl (by exact rfl); exact rfl
    apply seq_guard (hd := rfl) (hl := rfl); exact do_mul rfl rfl (by assumption); exact rfl
    apply seq_guard (hd := rfl) (hl := rfl); exact do_add rfl rfl (by omega); exact rfl
    apply seq_guard (hd := rfl) (hl := rfl); exact do_fieldAddr rfl rfl; exact rfl
    apply seq_guard (hd := rfl) (hl := rfl); exact do_load rfl (by exact ext_get_new List.getElem?_concat_length) rfl (by exact rfl); exact rfl
    apply seq_guard (hd := rfl) (hl := rfl); exact do_fieldAddr rfl rfl; exact rfl
    apply seq_guard (hd := rfl) (hl := rfl); exact do_fieldAddr rfl rfl; exact rfl
    apply seq_guard (hd := rfl) (hl := rfl); exact do_load rfl (by exact ext_get_new (by assumption)) rfl (by exact rfl); exact rfl
    apply seq_guard (hd := rfl) (hl := rfl); exact do_mul rfl rfl (by assumption); exact rfl
    apply seq_guard (hd := rfl) (hl := rfl); exact do_add rfl rfl (by omega); exact rfl
    apply seq_guard (hd := rfl) (hl := rfl); exact do_binInt rfl rfl rfl trivial; exact rfl
    apply seq_plain; exact do_pick_f rfl rfl; exact rfl
    apply seq_nil
    refine ct_cond_f rfl (by simp [e2]) ?_
    apply ct_skip
    apply ct_seq
    apply ct_region
    apply seq_plain; exact do_move rfl; exact rfl
    apply seq_plain; exact do_fieldAddr rfl rfl; exact rfl
    apply seq_plain; exact do_load rfl (by exact ext_get_new List.getElem?_concat_length) rfl (by exact rfl); exact rfl
    apply seq_plain; exact do_indexAddrS rfl rfl rfl (by exact idx_int (by omega)); exact rfl
    refine seq_putQC (k := M.length) hc (List.getElem?_eq_some_iff.1 ps).1 (do_store rfl rfl (ext_get_new ps) rfl (stl_map (v := true) (by omega) rfl rfl) (nb_own _)) (fun M2 hl2 ho2 hk2 => ?_)
    rw [seenL_set hiB t1] at hk2
    have r8 := (ho2 Q.length (by omega)).trans p8
    have r0 := (ho2 0 (by omega)).trans p0
    have r1 := (ho2 1 (by omega)).trans p1
    have rt := (ho2 L.length (by omega)).trans pt'
    clear p8 p0 p1 pt' ps ho2 mw md ml mw' md' ml' e1 e2
    refine ct_to (l' := [(2, .pointer (some ⟨nb H 0, 0, none⟩)), (3, .pointer (some ⟨nb H 1, 0, none⟩)), (9, .slice (some ⟨nb H L.length, 0, none⟩) N N), (13, .slice (some ⟨nb H M.length, 0, none⟩) N N), (14, I (sumR (·.won) (B.take i))), (15, I (sumR (·.lost) (B.take i))), (16, I (sumR (·.fr) (B.take i))), (17, I (sumR (·.ag) (B.take i))), (18, I (sumR (·.played) (B.take i))), (19, I (sumR (·.drawn) (B.take i))), (20, I i), (21, .pointer (some ⟨nb H Q.length, 0, none⟩)), (118, .slice (some ⟨nb H L.length, 0, none⟩) N N), (119, I N), (120, I i)]) (by repeat (first | exact sub_nil | apply sub_cons rfl)) (.refl _) ?_
    apply ct_seq
    apply ct_seq
    apply ct_draw (by assumption); decide +kernel
    apply sd_plain (hfree := rfl); intro _; exact do_move rfl; exact rfl
    apply sd_plain (hfree := rfl); intro _; exact do_binInt rfl rfl rfl trivial; exact rfl
    apply sd_plain (hfree := rfl); intro _; exact do_move rfl; exact rfl
    refine sd_J [(2, .pointer (some ⟨nb H 0, 0, none⟩)), (3, .pointer (some ⟨nb H 1, 0, none⟩)), (9, .slice (some ⟨nb H L.length, 0, none⟩) N N), (13, .slice (some ⟨nb H M.length, 0, none⟩) N N), (14, I (sumR (·.won) (B.take i))), (15, I (sumR (·.lost) (B.take i))), (16, I (sumR (·.fr) (B.take i))), (17, I (sumR (·.ag) (B.take i))), (18, I (sumR (·.played) (B.take i))), (19, I (sumR (·.drawn) (B.take i))), (20, I i), (21, .pointer (some ⟨nb H Q.length, 0, none⟩)), (118, .slice (some ⟨nb H L.length, 0, none⟩) N N), (119, I N), (120, I i), (278, .bool false)] (ds := []) (h := ext H H.fresh (M2 ++ List.map some [])) ?_ ?_
    · refine sd_gsplit rfl rfl (fun u => ?_) (fun u => ?_)
      · have u : i = 0 := by
          have u : ((i : Int) == 0) = true := u
          simp at u; omega
        subst u
        have hr1 : B[0].rank = 1 := by subst hB; exact table_first (by omega) _ (List.getElem?_eq_getElem hiB)
        apply sd_guard (hfree := rfl) (hg := rfl) (hl := rfl); intro _; exact do_fieldAddr rfl rfl; exact rfl
        apply sd_guardL (hfree := rfl) (hg := rfl) (hl := rfl); exact do_load rfl (by exact ext_get_new (getApp (by assumption))) rfl (by exact rfl); exact rfl
        apply sd_guard (hfree := rfl) (hg := rfl) (hl := rfl); intro _; exact do_binInt rfl rfl rfl trivial; exact rfl
        apply sd_plain (hfree := rfl); intro _; exact do_pick_t rfl rfl; exact rfl
        apply sd_plain (hfree := rfl); intro _; exact do_move rfl; exact rfl
        refine sd_gsplit rfl rfl (fun u => ?_) (fun u => ?_)
        · exact absurd (show (B[0].rank != 1) = true from u) (by simp [hr1])
        apply sd_guard (hfree := rfl) (hg := rfl) (hl := rfl); intro _; exact do_move rfl; exact rfl
        apply sd_guard (hfree := rfl) (hg := rfl) (hl := rfl); intro _; exact do_binInt rfl rfl rfl trivial; exact rfl
        apply sd_guard (hfree := rfl) (hg := rfl) (hl := rfl); intro _; exact do_move rfl; exact rfl
        apply sd_passed (hg := rfl) (hl := rfl) (hb := rfl); exact rfl
        apply sd_passed (hg := rfl) (hl := rfl) (hb := rfl); exact rfl
        apply sd_passed (hg := rfl) (hl := rfl) (hb := rfl); exact rfl
        apply sd_passed (hg := rfl) (hl := rfl) (hb := rfl); exact rfl
        apply sd_passed (hg := rfl) (hl := rfl) (hb := rfl); exact rfl
        apply sd_passed (hg := rfl) (hl := rfl) (hb := rfl); exact rfl
        apply sd_passed (hg := rfl) (hl := rfl) (hb := rfl); exact rfl
        apply sd_passed (hg := rfl) (hl := rfl) (hb := rfl); exact rfl
        apply sd_passed (hg := rfl) (hl := rfl) (hb := rfl); exact rfl
        apply sd_passed (hg := rfl) (hl := rfl) (hb := rfl); exact rfl
        apply sd_passedU (hg := rfl) (hl := rfl); exact rfl
        apply sd_passedU (hg := rfl) (hl := rfl); exact rfl
        apply sd_passedU (hg := rfl) (hl := rfl); exact rfl
        apply sd_passedU (hg := rfl) (hl := rfl); exact rfl
        apply sd_passedU (hg := rfl) (hl := rfl); exact rfl
        apply sd_passedU (hg := rfl) (hl := rfl); exact rfl
        apply sd_passedU (hg := rfl) (hl := rfl); exact rfl
        apply sd_passedU (hg := rfl) (hl := rfl); exact rfl
        apply sd_passedU (hg := rfl) (hl := rfl); exact rfl
        apply sd_passedU (hg := rfl) (hl := rfl); exact rfl
        apply sd_passedU (hg := rfl) (hl := rfl); exact rfl
        apply sd_passedU (hg := rfl) (hl := rfl); exact rfl
        apply sd_passedU (hg := rfl) (hl := rfl); exact rfl
        apply sd_passedU (hg := rfl) (hl := rfl); exact rfl
        apply sd_passedU (hg := rfl) (hl := rfl); exact rfl
        apply sd_passedU (hg := rfl) (hl := rfl); exact rfl
        apply sd_passed (hg := rfl) (hl := rfl) (hb := rfl); exact rfl
        apply sd_passed (hg := rfl) (hl := rfl) (hb := rfl); exact rfl
        apply sd_passedU (hg := rfl) (hl := rfl); exact rfl
        apply sd_passedU (hg := rfl) (hl := rfl); exact rfl
        apply sd_passedU (hg := rfl) (hl := rfl); exact rfl
        apply sd_passedU (hg := rfl) (hl := rfl); exact rfl
        apply sd_passedU (hg := rfl) (hl := rfl); exact rfl
        apply sd_passedU (hg := rfl) (hl := rfl); exact rfl
        apply sd_passedU (hg := rfl) (hl := rfl); exact rfl
        apply sd_passedU (hg := rfl) (hl := rfl); exact rfl
        apply sd_passedU (hg := rfl) (hl := rfl); exact rfl
        apply sd_passedU (hg := rfl) (hl := rfl); exact rfl
        apply sd_passedU (hg := rfl) (hl := rfl); exact rfl
        apply sd_passedU (hg := rfl) (hl := rfl); exact rfl
        apply sd_passedU (hg := rfl) (hl := rfl); exact rfl
        apply sd_passedU (hg := rfl) (hl := rfl); exact rfl
        apply sd_passedU (hg := rfl) (hl := rfl); exact rfl
        apply sd_passedU (hg := rfl) (hl := rfl); exact rfl
        apply sd_passedU (hg := rfl) (hl := rfl); exact rfl
        apply sd_passedU (hg := rfl) (hl := rfl); exact rfl
        apply sd_passedU (hg := rfl) (hl := rfl); exact rfl
        apply sd_passedU (hg := rfl) (hl := rfl); exact rfl
        apply sd_passedU (hg := rfl) (hl := rfl); exact rfl
        apply sd_passedU (hg := rfl) (hl := rfl); exact rfl
        apply sd_passedU (hg := rfl) (hl := rfl); exact rfl
        apply sd_passedU (hg := rfl) (hl := rfl); exact rfl
        apply sd_passedU (hg := rfl) (hl := rfl); exact rfl
        apply sd_passedU (hg := rfl) (hl := rfl); exact rfl
        apply sd_passedU (hg := rfl) (hl := rfl); exact rfl
        apply sd_passedU (hg := rfl) (hl := rfl); exact rfl
        apply sd_passedU (hg := rfl) (hl := rfl); exact rfl
        apply sd_passedU (hg := rfl) (hl := rfl); exact rfl
        apply sd_passedU (hg := rfl) (hl := rfl); exact rfl
        apply sd_passedU (hg := rfl) (hl := rfl); exact rfl
        apply sd_passedU (hg := rfl) (hl := rfl); exact rfl
        apply sd_passedU (hg := rfl) (hl := rfl); exact rfl
        apply sd_passedU (hg := rfl) (hl := rfl); exact rfl
        apply sd_passedU (hg := rfl) (hl := rfl); exact rfl
        apply sd_passedU (hg := rfl) (hl := rfl); exact rfl
        apply sd_passedU (hg := rfl) (hl := rfl); exact rfl
        apply sd_passedU (hg := rfl) (hl := rfl); exact rfl
        apply sd_passedU (hg := rfl) (hl := rfl); exact rfl
        apply sd_passedU (hg := rfl) (hl := rfl); exact rfl
        apply sd_passedU (hg := rfl) (hl := rfl); exact rfl
        apply sd_passedU (hg := rfl) (hl := rfl); exact rfl
        apply sd_passedU (hg := rfl) (hl := rfl); exact rfl
        apply sd_passedU (hg := rfl) (hl := rfl); exact rfl
        apply sd_passedU (hg := rfl) (hl := rfl); exact rfl
        apply sd_passedU (hg := rfl) (hl := rfl); exact rfl
        apply sd_passedU (hg := rfl) (hl := rfl); exact rfl
        apply sd_passedU (hg := rfl) (hl := rfl); exact rfl
        apply sd_passedU (hg := rfl) (hl := rfl); exact rfl
        apply sd_passedU (hg := rfl) (hl := rfl); exact rfl
        apply sd_passedU (hg := rfl) (hl := rfl); exact rfl
        apply sd_passedU (hg := rfl) (hl := rfl); exact rfl
        apply sd_passed (hg := rfl) (hl := rfl) (hb := rfl); exact rfl
        apply sd_guard (hfree := rfl) (hg := rfl) (hl := rfl); intro _; exact do_pick_f rfl rfl; exact rfl
        apply sd_plain (hfree := rfl); intro _; exact do_pick_f rfl rfl; exact rfl
        apply sd_nil
        exact jp_of (by repeat (first | exact sub_nil | apply sub_cons rfl))
      · have u : 0 < i := by
          have u : ((i : Int) == 0) = false := u
          simp at u; omega
        obtain ⟨kk, rfl⟩ : ∃ k, i = k + 1 := ⟨i - 1, by omega⟩
        have z0 : kk < B.length := by omega
        have hx : NextOk B[kk] B[kk + 1] kk := by
          obtain ⟨n1, n2, n3⟩ : B[kk + 1].pts ≤ B[kk].pts ∧ (B[kk + 1].rank = B[kk].rank ∨ B[kk + 1].rank = ((kk + 2 : Nat) : Int)) ∧ (B[kk + 1].rank = B[kk].rank → B[kk + 1].pts = B[kk].pts ∧ B[kk + 1].fr = B[kk].fr ∧ B[kk + 1].ag = B[kk].ag ∧ B[kk].team ≤ B[kk + 1].team) := by
            subst hB; exact table_next (by omega) _ _ (List.getElem?_eq_getElem z0) (List.getElem?_eq_getElem hiB)
          exact ⟨n1, n2, n3⟩
        clear c1 c2 c3 c4 c5 c6 c7
        apply sd_passed (hg := rfl) (hl := rfl) (hb := rfl); exact rfl
        apply sd_passed (hg := rfl) (hl := rfl) (hb := rfl); exact rfl
        apply sd_passed (hg := rfl) (hl := rfl) (hb := rfl); exact rfl
        apply sd_plain (hfree := rfl); intro _; exact do_pick_f rfl rfl; exact rfl
        apply sd_plain (hfree := rfl); intro _; exact do_move rfl; exact rfl
        apply sd_guard (hfree := rfl) (hg := rfl) (hl := rfl); intro _; exact do_move rfl; exact rfl
        apply sd_guard (hfree := rfl) (hg := rfl) (hl := rfl); intro _; exact do_binInt rfl rfl rfl trivial; exact rfl
        apply sd_guard (hfree := rfl) (hg := rfl) (hl := rfl); intro _; exact do_move rfl; exact rfl
        refine sd_gsplit rfl rfl (fun u => ?_) (fun u => ?_)
        rotate_left
        · exact absurd (of_decide_eq_false (show decide (((kk + 1 : Nat) : Int) > 0) = false from u)) (by omega)
        apply sd_guard (hfree := rfl) (hg := rfl) (hl := rfl); intro _; exact do_fieldAddr rfl rfl; exact rfl
        apply sd_guardL (hfree := rfl) (hg := rfl) (hl := rfl); exact do_load rfl (by exact ext_get_new (getApp (by assumption))) rfl (by exact rfl); exact rfl
        apply sd_guard (hfree := rfl) (hg := rfl) (hl := rfl); intro _; exact do_move rfl; exact rfl
        apply sd_guard (hfree := rfl) (hg := rfl) (hl := rfl); intro _; exact do_move rfl; exact rfl
        apply sd_guard (hfree := rfl) (hg := rfl) (hl := rfl); intro _; exact do_pred rfl (by omega); exact rfl
        apply sd_guard (hfree := rfl) (hg := rfl) (hl := rfl); intro _; exact do_indexAddrS rfl rfl rfl (by exact idx_nat (by omega)); exact rfl
        apply sd_guard (hfree := rfl) (hg := rfl) (hl := rfl); intro _; exact do_fieldAddr rfl rfl; exact rfl
        apply sd_guardL (hfree := rfl) (hg := rfl) (hl := rfl); exact do_load rfl (by exact ext_get_new (getApp (by assumption))) rfl (by exact pt_flat1 rw9_len (by omega) rfl); exact rfl
        apply sd_guard (hfree := rfl) (hg := rfl) (hl := rfl); intro _; exact do_binInt rfl rfl rfl trivial; exact rfl
        apply sd_guard (hfree := rfl) (hg := rfl) (hl := rfl); intro _; exact do_move rfl; exact rfl
        refine sd_gsplit rfl rfl (fun u => ?_) (fun u => ?_)
        · exact absurd (of_decide_eq_true (show decide (B[kk + 1].pts > B[kk].pts) = true from u)) (by have := hx.pts; omega)
        apply sd_guard (hfree := rfl) (hg := rfl) (hl := rfl); intro _; exact do_fieldAddr rfl rfl; exact rfl
        apply sd_guardL (hfree := rfl) (hg := rfl) (hl := rfl); exact do_load rfl (by exact ext_get_new (getApp (by assumption))) rfl (by exact rfl); exact rfl
        apply sd_guard (hfree := rfl) (hg := rfl) (hl := rfl); intro _; exact do_move rfl; exact rfl
        apply sd_guard (hfree := rfl) (hg := rfl) (hl := rfl); intro _; exact do_move rfl; exact rfl
        apply sd_guard (hfree := rfl) (hg := rfl) (hl := rfl); intro _; exact do_pred rfl (by omega); exact rfl
        apply sd_guard (hfree := rfl) (hg := rfl) (hl := rfl); intro _; exact do_indexAddrS rfl rfl rfl (by exact idx_nat (by omega)); exact rfl
        apply sd_guard (hfree := rfl) (hg := rfl) (hl := rfl); intro _; exact do_fieldAddr rfl rfl; exact rfl
        apply sd_guardL (hfree := rfl) (hg := rfl) (hl := rfl); exact do_load rfl (by exact ext_get_new (getApp (by assumption))) rfl (by exact pt_flat1 rw9_len (by omega) rfl); exact rfl
        apply sd_guard (hfree := rfl) (hg := rfl) (hl := rfl); intro _; exact do_binInt rfl rfl rfl trivial; exact rfl
        apply sd_guard (hfree := rfl) (hg := rfl) (hl := rfl); intro _; exact do_move rfl; exact rfl
        refine sd_gsplit rfl rfl (fun u => ?_) (fun u => ?_)
        · have u : (B[kk + 1].rank != B[kk].rank) = true := u
          apply sd_guard (hfree := rfl) (hg := rfl) (hl := rfl); intro _; exact do_fieldAddr rfl rfl; exact rfl
          apply sd_guardL (hfree := rfl) (hg := rfl) (hl := rfl); exact do_load rfl (by exact ext_get_new (getApp (by assumption))) rfl (by exact rfl); exact rfl
          apply sd_guard (hfree := rfl) (hg := rfl) (hl := rfl); intro _; exact do_move rfl; exact rfl
          apply sd_guard (hfree := rfl) (hg := rfl) (hl := rfl); intro _; exact do_succ rfl (by omega); exact rfl
          apply sd_guard (hfree := rfl) (hg := rfl) (hl := rfl); intro _; exact do_binInt rfl rfl rfl trivial; exact rfl
          apply sd_guard (hfree := rfl) (hg := rfl) (hl := rfl); intro _; exact do_pick_t rfl rfl; exact rfl
          apply sd_guard (hfree := rfl) (hg := rfl) (hl := rfl); intro _; exact do_pick_f rfl rfl; exact rfl
          apply sd_guard (hfree := rfl) (hg := rfl) (hl := rfl); intro _; exact do_move rfl; exact rfl
          refine sd_gsplit rfl rfl (fun u2 => ?_) (fun u2 => ?_)
          · have u' : B[kk + 1].rank ≠ B[kk].rank := by simpa using u
            have hrk : B[kk + 1].rank = ((kk + 1 + 1 : Nat) : Int) := by
              rcases hx.rank with h | h
              · exact absurd h u'
              · exact h
            exact absurd (show (B[kk + 1].rank != ((kk + 1 + 1 : Nat) : Int)) = true from u2) (by simp [hrk])
          apply sd_guard (hfree := rfl) (hg := rfl) (hl := rfl); intro _; exact do_fieldAddr rfl rfl; exact rfl
          apply sd_guardL (hfree := rfl) (hg := rfl) (hl := rfl); exact do_load rfl (by exact ext_get_new (getApp (by assumption))) rfl (by exact rfl); exact rfl
          apply sd_guard (hfree := rfl) (hg := rfl) (hl := rfl); intro _; exact do_move rfl; exact rfl
          apply sd_guard (hfree := rfl) (hg := rfl) (hl := rfl); intro _; exact do_move rfl; exact rfl
          apply sd_guard (hfree := rfl) (hg := rfl) (hl := rfl); intro _; exact do_pred rfl (by omega); exact rfl
          apply sd_guard (hfree := rfl) (hg := rfl) (hl := rfl); intro _; exact do_indexAddrS rfl rfl rfl (by exact idx_nat (by omega)); exact rfl
          apply sd_guard (hfree := rfl) (hg := rfl) (hl := rfl); intro _; exact do_fieldAddr rfl rfl; exact rfl
          apply sd_guardL (hfree := rfl) (hg := rfl) (hl := rfl); exact do_load rfl (by exact ext_get_new (getApp (by assumption))) rfl (by exact pt_flat1 rw9_len (by omega) rfl); exact rfl
          apply sd_guard (hfree := rfl) (hg := rfl) (hl := rfl); intro _; exact do_binInt rfl rfl rfl trivial; exact rfl
          apply sd_guard (hfree := rfl) (hg := rfl) (hl := rfl); intro _; exact do_move rfl; exact rfl
          refine sd_gsplit rfl rfl (fun u3 => ?_) (fun u3 => ?_)
          · exact absurd (show (B[kk + 1].rank == B[kk].rank) = true from u3) (by simpa using u)
          apply sd_passed (hg := rfl) (hl := rfl) (hb := rfl); exact rfl
          apply sd_passed (hg := rfl) (hl := rfl) (hb := rfl); exact rfl
          apply sd_passed (hg := rfl) (hl := rfl) (hb := rfl); exact rfl
          apply sd_passed (hg := rfl) (hl := rfl) (hb := rfl); exact rfl
          apply sd_passed (hg := rfl) (hl := rfl) (hb := rfl); exact rfl
          apply sd_passed (hg := rfl) (hl := rfl) (hb := rfl); exact rfl
          apply sd_passed (hg := rfl) (hl := rfl) (hb := rfl); exact rfl
          apply sd_passed (hg := rfl) (hl := rfl) (hb := rfl); exact rfl
          apply sd_passed (hg := rfl) (hl := rfl) (hb := rfl); exact rfl
          apply sd_passed (hg := rfl) (hl := rfl) (hb := rfl); exact rfl
          apply sd_passedU (hg := rfl) (hl := rfl); exact rfl
          apply sd_passedU (hg := rfl) (hl := rfl); exact rfl
          apply sd_passedU (hg := rfl) (hl := rfl); exact rfl
          apply sd_passedU (hg := rfl) (hl := rfl); exact rfl
          apply sd_passedU (hg := rfl) (hl := rfl); exact rfl
          apply sd_passedU (hg := rfl) (hl := rfl); exact rfl
          apply sd_passedU (hg := rfl) (hl := rfl); exact rfl
          apply sd_passedU (hg := rfl) (hl := rfl); exact rfl
          apply sd_passedU (hg := rfl) (hl := rfl); exact rfl
          apply sd_passed (hg := rfl) (hl := rfl) (hb := rfl); exact rfl
          apply sd_passed (hg := rfl) (hl := rfl) (hb := rfl); exact rfl
          apply sd_passedU (hg := rfl) (hl := rfl); exact rfl
          apply sd_passedU (hg := rfl) (hl := rfl); exact rfl
          apply sd_passedU (hg := rfl) (hl := rfl); exact rfl
          apply sd_passedU (hg := rfl) (hl := rfl); exact rfl
          apply sd_passedU (hg := rfl) (hl := rfl); exact rfl
          apply sd_passedU (hg := rfl) (hl := rfl); exact rfl
          apply sd_passedU (hg := rfl) (hl := rfl); exact rfl
          apply sd_passedU (hg := rfl) (hl := rfl); exact rfl
          apply sd_passedU (hg := rfl) (hl := rfl); exact rfl
          apply sd_passed (hg := rfl) (hl := rfl) (hb := rfl); exact rfl
          apply sd_passed (hg := rfl) (hl := rfl) (hb := rfl); exact rfl
          apply sd_passedU (hg := rfl) (hl := rfl); exact rfl
          apply sd_passedU (hg := rfl) (hl := rfl); exact rfl
          apply sd_passedU (hg := rfl) (hl := rfl); exact rfl
          apply sd_passedU (hg := rfl) (hl := rfl); exact rfl
          apply sd_passedU (hg := rfl) (hl := rfl); exact rfl
          apply sd_passedU (hg := rfl) (hl := rfl); exact rfl
          apply sd_passedU (hg := rfl) (hl := rfl); exact rfl
          apply sd_passedU (hg := rfl) (hl := rfl); exact rfl
          apply sd_passedU (hg := rfl) (hl := rfl); exact rfl
          apply sd_passed (hg := rfl) (hl := rfl) (hb := rfl); exact rfl
          apply sd_guard (hfree := rfl) (hg := rfl) (hl := rfl); intro _; exact do_pick_f rfl rfl; exact rfl
          apply sd_guard (hfree := rfl) (hg := rfl) (hl := rfl); intro _; exact do_pick_f rfl rfl; exact rfl
          apply sd_guard (hfree := rfl) (hg := rfl) (hl := rfl); intro _; exact do_pick_t rfl rfl; exact rfl
          apply sd_plain (hfree := rfl); intro _; exact do_pick_f rfl rfl; exact rfl
          apply sd_nil
          exact jp_of (by repeat (first | exact sub_nil | apply sub_cons rfl))
        · have u : (B[kk + 1].rank != B[kk].rank) = false := u
          apply sd_passed (hg := rfl) (hl := rfl) (hb := rfl); exact rfl
          apply sd_passed (hg := rfl) (hl := rfl) (hb := rfl); exact rfl
          apply sd_passed (hg := rfl) (hl := rfl) (hb := rfl); exact rfl
          apply sd_passed (hg := rfl) (hl := rfl) (hb := rfl); exact rfl
          apply sd_passed (hg := rfl) (hl := rfl) (hb := rfl); exact rfl
          apply sd_guard (hfree := rfl) (hg := rfl) (hl := rfl); intro _; exact do_pick_f rfl rfl; exact rfl
          apply sd_guard (hfree := rfl) (hg := rfl) (hl := rfl); intro _; exact do_pick_f rfl rfl; exact rfl
          apply sd_guard (hfree := rfl) (hg := rfl) (hl := rfl); intro _; exact do_move rfl; exact rfl
          apply sd_guard (hfree := rfl) (hg := rfl) (hl := rfl); intro _; exact do_fieldAddr rfl rfl; exact rfl
          apply sd_guardL (hfree := rfl) (hg := rfl) (hl := rfl); exact do_load rfl (by exact ext_get_new (getApp (by assumption))) rfl (by exact rfl); exact rfl
          apply sd_guard (hfree := rfl) (hg := rfl) (hl := rfl); intro _; exact do_move rfl; exact rfl
          apply sd_guard (hfree := rfl) (hg := rfl) (hl := rfl); intro _; exact do_move rfl; exact rfl
          apply sd_guard (hfree := rfl) (hg := rfl) (hl := rfl); intro _; exact do_pred rfl (by omega); exact rfl
          apply sd_guard (hfree := rfl) (hg := rfl) (hl := rfl); intro _; exact do_indexAddrS rfl rfl rfl (by exact idx_nat (by omega)); exact rfl
          apply sd_guard (hfree := rfl) (hg := rfl) (hl := rfl); intro _; exact do_fieldAddr rfl rfl; exact rfl
          apply sd_guardL (hfree := rfl) (hg := rfl) (hl := rfl); exact do_load rfl (by exact ext_get_new (getApp (by assumption))) rfl (by exact pt_flat1 rw9_len (by omega) rfl); exact rfl
          apply sd_guard (hfree := rfl) (hg := rfl) (hl := rfl); intro _; exact do_binInt rfl rfl rfl trivial; exact rfl
          apply sd_guard (hfree := rfl) (hg := rfl) (hl := rfl); intro _; exact do_move rfl; exact rfl
          refine sd_gsplit rfl rfl (fun u3 => ?_) (fun u3 => ?_)
          rotate_left
          · exact absurd (show (B[kk + 1].rank == B[kk].rank) = false from u3) (by simpa using u)
          apply sd_guard (hfree := rfl) (hg := rfl) (hl := rfl); intro _; exact do_fieldAddr rfl rfl; exact rfl
          apply sd_guardL (hfree := rfl) (hg := rfl) (hl := rfl); exact do_load rfl (by exact ext_get_new (getApp (by assumption))) rfl (by exact rfl); exact rfl
          apply sd_guard (hfree := rfl) (hg := rfl) (hl := rfl); intro _; exact do_move rfl; exact rfl
          apply sd_guard (hfree := rfl) (hg := rfl) (hl := rfl); intro _; exact do_move rfl; exact rfl
          apply sd_guard (hfree := rfl) (hg := rfl) (hl := rfl); intro _; exact do_pred rfl (by omega); exact rfl
          apply sd_guard (hfree := rfl) (hg := rfl) (hl := rfl); intro _; exact do_indexAddrS rfl rfl rfl (by exact idx_nat (by omega)); exact rfl
          apply sd_guard (hfree := rfl) (hg := rfl) (hl := rfl); intro _; exact do_fieldAddr rfl rfl; exact rfl
          apply sd_guardL (hfree := rfl) (hg := rfl) (hl := rfl); exact do_load rfl (by exact ext_get_new (getApp (by assumption))) rfl (by exact pt_flat1 rw9_len (by omega) rfl); exact rfl
          apply sd_guard (hfree := rfl) (hg := rfl) (hl := rfl); intro _; exact do_binInt rfl rfl rfl trivial; exact rfl
          apply sd_guard (hfree := rfl) (hg := rfl) (hl := rfl); intro _; exact do_move rfl; exact rfl
          refine sd_gsplit rfl rfl (fun u3 => ?_) (fun u3 => ?_)
          · exact absurd (show (B[kk + 1].pts != B[kk].pts) = true from u3) (by simp [(hx.same (by simpa using u)).1])
          apply sd_guard (hfree := rfl) (hg := rfl) (hl := rfl); intro _; exact do_fieldAddr rfl rfl; exact rfl
          apply sd_guardL (hfree := rfl) (hg := rfl) (hl := rfl); exact do_load rfl (by exact ext_get_new (getApp (by assumption))) rfl (by exact rfl); exact rfl
          apply sd_guard (hfree := rfl) (hg := rfl) (hl := rfl); intro _; exact do_move rfl; exact rfl
          apply sd_guard (hfree := rfl) (hg := rfl) (hl := rfl); intro _; exact do_move rfl; exact rfl
          apply sd_guard (hfree := rfl) (hg := rfl) (hl := rfl); intro _; exact do_pred rfl (by omega); exact rfl
          apply sd_guard (hfree := rfl) (hg := rfl) (hl := rfl); intro _; exact do_indexAddrS rfl rfl rfl (by exact idx_nat (by omega)); exact rfl
          apply sd_guard (hfree := rfl) (hg := rfl) (hl := rfl); intro _; exact do_fieldAddr rfl rfl; exact rfl
          apply sd_guardL (hfree := rfl) (hg := rfl) (hl := rfl); exact do_load rfl (by exact ext_get_new (getApp (by assumption))) rfl (by exact pt_flat1 rw9_len (by omega) rfl); exact rfl
          apply sd_guard (hfree := rfl) (hg := rfl) (hl := rfl); intro _; exact do_binInt rfl rfl rfl trivial; exact rfl
          apply sd_guard (hfree := rfl) (hg := rfl) (hl := rfl); intro _; exact do_pick_f rfl rfl; exact rfl
          apply sd_guard (hfree := rfl) (hg := rfl) (hl := rfl); intro _; exact do_move rfl; exact rfl
          refine sd_gsplit rfl rfl (fun u3 => ?_) (fun u3 => ?_)
          · exact absurd (show (B[kk + 1].fr != B[kk].fr) = true from u3) (by simp [(hx.same (by simpa using u)).2.1])
          apply sd_guard (hfree := rfl) (hg := rfl) (hl := rfl); intro _; exact do_fieldAddr rfl rfl; exact rfl
          apply sd_guardL (hfree := rfl) (hg := rfl) (hl := rfl); exact do_load rfl (by exact ext_get_new (getApp (by assumption))) rfl (by exact rfl); exact rfl
          apply sd_guard (hfree := rfl) (hg := rfl) (hl := rfl); intro _; exact do_move rfl; exact rfl
          apply sd_guard (hfree := rfl) (hg := rfl) (hl := rfl); intro _; exact do_move rfl; exact rfl
          apply sd_guard (hfree := rfl) (hg := rfl) (hl := rfl); intro _; exact do_pred rfl (by omega); exact rfl
          apply sd_guard (hfree := rfl) (hg := rfl) (hl := rfl); intro _; exact do_indexAddrS rfl rfl rfl (by exact idx_nat (by omega)); exact rfl
          apply sd_guard (hfree := rfl) (hg := rfl) (hl := rfl); intro _; exact do_fieldAddr rfl rfl; exact rfl
          apply sd_guardL (hfree := rfl) (hg := rfl) (hl := rfl); exact do_load rfl (by exact ext_get_new (getApp (by assumption))) rfl (by exact pt_flat1 rw9_len (by omega) rfl); exact rfl
          apply sd_guard (hfree := rfl) (hg := rfl) (hl := rfl); intro _; exact do_binInt rfl rfl rfl trivial; exact rfl
          apply sd_guard (hfree := rfl) (hg := rfl) (hl := rfl); intro _; exact do_pick_f rfl rfl; exact rfl
          apply sd_guard (hfree := rfl) (hg := rfl) (hl := rfl); intro _; exact do_move rfl; exact rfl
          refine sd_gsplit rfl rfl (fun u3 => ?_) (fun u3 => ?_)
          · exact absurd (show (B[kk + 1].ag != B[kk].ag) = true from u3) (by simp [(hx.same (by simpa using u)).2.2.1])
          apply sd_guard (hfree := rfl) (hg := rfl) (hl := rfl); intro _; exact do_fieldAddr rfl rfl; exact rfl
          apply sd_guardL (hfree := rfl) (hg := rfl) (hl := rfl); exact do_load rfl (by exact ext_get_new (getApp (by assumption))) rfl (by exact rfl); exact rfl
          apply sd_guard (hfree := rfl) (hg := rfl) (hl := rfl); intro _; exact do_move rfl; exact rfl
          apply sd_guard (hfree := rfl) (hg := rfl) (hl := rfl); intro _; exact do_move rfl; exact rfl
          apply sd_guard (hfree := rfl) (hg := rfl) (hl := rfl); intro _; exact do_pred rfl (by omega); exact rfl
          apply sd_guard (hfree := rfl) (hg := rfl) (hl := rfl); intro _; exact do_indexAddrS rfl rfl rfl (by exact idx_nat (by omega)); exact rfl
          apply sd_guard (hfree := rfl) (hg := rfl) (hl := rfl); intro _; exact do_fieldAddr rfl rfl; exact rfl
          apply sd_guardL (hfree := rfl) (hg := rfl) (hl := rfl); exact do_load rfl (by exact ext_get_new (getApp (by assumption))) rfl (by exact pt_flat1 rw9_len (by omega) rfl); exact rfl
          apply sd_guard (hfree := rfl) (hg := rfl) (hl := rfl); intro _; exact do_binInt rfl rfl rfl trivial; exact rfl
          apply sd_guard (hfree := rfl) (hg := rfl) (hl := rfl); intro _; exact do_pick_f rfl rfl; exact rfl
          apply sd_guard (hfree := rfl) (hg := rfl) (hl := rfl); intro _; exact do_pick_t rfl rfl; exact rfl
          apply sd_guard (hfree := rfl) (hg := rfl) (hl := rfl); intro _; exact do_pick_f rfl rfl; exact rfl
          apply sd_guard (hfree := rfl) (hg := rfl) (hl := rfl); intro _; exact do_pick_t rfl rfl; exact rfl
          apply sd_plain (hfree := rfl); intro _; exact do_pick_f rfl rfl; exact rfl
          apply sd_nil
          rw [show decide (B[kk + 1].team < B[kk].team) = false from decide_eq_false (by have := (hx.same (by simpa using u)).2.2.2; omega)]
          exact jp_of (by repeat (first | exact sub_nil | apply sub_cons rfl))
    have y1 := sumR_bd (f := (·.won)) (B := B) (fun i h => by have := hBd i h; omega) i (by omega)
    have y2 := sumR_bd (f := (·.lost)) (B := B) (fun i h => by have := hBd i h; omega) i (by omega)
    have y3 := sumR_bd (f := (·.fr)) (B := B) (fun i h => by have := hBd i h; omega) i (by omega)
    have y4 := sumR_bd (f := (·.ag)) (B := B) (fun i h => by have := hBd i h; omega) i (by omega)
    have y5 := sumR_bd (f := (·.played)) (B := B) (fun i h => by have := hBd i h; omega) i (by omega)
    have y6 := sumR_bd (f := (·.drawn)) (B := B) (fun i h => by have := hBd i h; omega) i (by omega)
    refine ct_cond_f rfl rfl ?_
    apply ct_skip
    apply ct_seq
    apply ct_draw (by assumption); decide +kernel
    apply sd_plain (hfree := rfl); intro _; exact do_move rfl; exact rfl
    apply sd_plain (hfree := rfl); intro _; exact do_fieldAddr rfl rfl; exact rfl
    apply sd_look (hfree := rfl); exact do_load rfl (by exact ext_get_new (getApp (getApp (by assumption)))) rfl (by exact rfl); exact rfl
    apply sd_plain (hfree := rfl); intro _; exact do_add rfl rfl (by omega); exact rfl
    apply sd_plain (hfree := rfl); intro _; exact do_move rfl; exact rfl
    apply sd_plain (hfree := rfl); intro _; exact do_fieldAddr rfl rfl; exact rfl
    apply sd_look (hfree := rfl); exact do_load rfl (by exact ext_get_new (getApp (getApp (by assumption)))) rfl (by exact rfl); exact rfl
    apply sd_plain (hfree := rfl); intro _; exact do_add rfl rfl (by omega); exact rfl
    apply sd_plain (hfree := rfl); intro _; exact do_move rfl; exact rfl
    apply sd_plain (hfree := rfl); intro _; exact do_fieldAddr rfl rfl; exact rfl
    apply sd_look (hfree := rfl); exact do_load rfl (by exact ext_get_new (getApp (getApp (by assumption)))) rfl (by exact rfl); exact rfl
    apply sd_plain (hfree := rfl); intro _; exact do_add rfl rfl (by omega); exact rfl
    apply sd_plain (hfree := rfl); intro _; exact do_move rfl; exact rfl
    apply sd_plain (hfree := rfl); intro _; exact do_fieldAddr rfl rfl; exact rfl
    apply sd_look (hfree := rfl); exact do_load rfl (by exact ext_get_new (getApp (getApp (by assumption)))) rfl (by exact rfl); exact rfl
    apply sd_plain (hfree := rfl); intro _; exact do_add rfl rfl (by omega); exact rfl
    apply sd_plain (hfree := rfl); intro _; exact do_assign rfl; exact rfl
    apply sd_plain (hfree := rfl); intro _; exact do_assign rfl; exact rfl
    apply sd_plain (hfree := rfl); intro _; exact do_assign rfl; exact rfl
    apply sd_plain (hfree := rfl); intro _; exact do_assign rfl; exact rfl
    apply sd_nil
    apply ct_draw (by assumption); decide +kernel
    apply sd_plain (hfree := rfl); intro _; exact do_move rfl; exact rfl
    apply sd_plain (hfree := rfl); intro _; exact do_fieldAddr rfl rfl; exact rfl
    apply sd_look (hfree := rfl); exact do_load rfl (by exact ext_get_new (getApp (getApp (getApp (by assumption))))) rfl (by exact rfl); exact rfl
    apply sd_plain (hfree := rfl); intro _; exact do_add rfl rfl (by omega); exact rfl
    apply sd_plain (hfree := rfl); intro _; exact do_move rfl; exact rfl
    apply sd_plain (hfree := rfl); intro _; exact do_fieldAddr rfl rfl; exact rfl
    apply sd_look (hfree := rfl); exact do_load rfl (by exact ext_get_new (getApp (getApp (getApp (by assumption))))) rfl (by exact rfl); exact rfl
    apply sd_plain (hfree := rfl); intro _; exact do_add rfl rfl (by omega); exact rfl
    apply sd_plain (hfree := rfl); intro _; exact do_assign rfl; exact rfl
    apply sd_plain (hfree := rfl); intro _; exact do_assign rfl; exact rfl
    apply sd_nil
    apply ct_region
    apply seq_plain; exact do_succ rfl (by omega); exact rfl
    apply seq_plain; exact do_move rfl; exact rfl
    apply seq_nil
    have k1 := sumR_snoc (f := (·.won)) hiB
    have k2 := sumR_snoc (f := (·.lost)) hiB
    have k3 := sumR_snoc (f := (·.fr)) hiB
    have k4 := sumR_snoc (f := (·.ag)) hiB
    have k5 := sumR_snoc (f := (·.played)) hiB
    have k6 := sumR_snoc (f := (·.drawn)) hiB
    rw [← k1, ← k2, ← k3, ← k4, ← k5, ← k6]
    exact lt_to (by repeat (first | exact sub_nil | apply sub_cons rfl)) (.refl _) (ih' (i + 1) _ (by omega) (by omega) (by simpa using r0) (by simpa using r1) (by simpa using rt) (by simpa using hk2))
  have h1 : i = N := by simp at h1; omega
  rw [h1, show B.take N = B from List.take_of_length_le (by omega)]
  have hS : Sums B l.length := by rw [hB]; exact table_sums hl
  obtain ⟨s1, s2, s3, s4⟩ := hS
  have s5 : (sumR (·.drawn) B).tmod 2 = 0 := by
    have := sumR_bd (f := (·.drawn)) (B := B) (fun i h => by have := hBd i h; omega) B.length (Nat.le_refl _)
    rw [List.take_length] at this
    rw [Int.tmod_eq_emod_of_nonneg this.1]; exact s4
  have m2 : -9223372036854775808 ≤ 2 * (l.length : Int) ∧ 2 * (l.length : Int) ≤ 9223372036854775807 := by omega
  clear ih' hBd hrow hnd
  apply ct_exit
  apply exit_eq; exact rfl
  apply ct_seq
  apply ct_seq
  apply ct_region
  apply seq_plain; exact do_move rfl; exact rfl
  apply seq_plain; exact do_move rfl; exact rfl
  apply seq_plain; exact do_binInt rfl rfl rfl trivial; exact rfl
  apply seq_plain; exact do_move rfl; exact rfl
  refine seq_gsplit rfl rfl (fun u => ?_) (fun u => ?_)
  · exact absurd (show (sumR (·.won) B != sumR (·.lost) B) = true from u) (by simp [s1])
  apply seq_guard (hd := rfl) (hl := rfl); exact do_move rfl; exact rfl
  apply seq_guard (hd := rfl) (hl := rfl); exact do_move rfl; exact rfl
  apply seq_guard (hd := rfl) (hl := rfl); exact do_binInt rfl rfl rfl trivial; exact rfl
  apply seq_plain; exact do_pick_f rfl rfl; exact rfl
  apply seq_plain; exact do_move rfl; exact rfl
  refine seq_gsplit rfl rfl (fun u => ?_) (fun u => ?_)
  · exact absurd (show (sumR (·.fr) B != sumR (·.ag) B) = true from u) (by simp [s2])
  apply seq_guard (hd := rfl) (hl := rfl); exact do_move rfl; exact rfl
  apply seq_guard (hd := rfl) (hl := rfl); exact do_fieldAddr rfl rfl; exact rfl
  apply seq_guard (hd := rfl) (hl := rfl); exact do_load rfl (by exact ext_get_new (by assumption)) rfl (by exact rfl); exact rfl
  apply seq_guard (hd := rfl) (hl := rfl); exact do_lenS rfl rfl rfl; exact rfl
  apply seq_guard (hd := rfl) (hl := rfl); exact do_mul rfl rfl (by assumption); exact rfl
  apply seq_guard (hd := rfl) (hl := rfl); exact do_binInt rfl rfl rfl trivial; exact rfl
  apply seq_plain; exact do_pick_f rfl rfl; exact rfl
  apply seq_plain; exact do_move rfl; exact rfl
  refine seq_gsplit rfl rfl (fun u => ?_) (fun u => ?_)
  · exact absurd (show (sumR (·.played) B != 2 * (l.length : Int)) = true from u) (by simp [s3])
  apply seq_guard (hd := rfl) (hl := rfl); exact do_move rfl; exact rfl
  apply seq_guard (hd := rfl) (hl := rfl); exact do_rem rfl rfl (by decide); exact rfl
  apply seq_guard (hd := rfl) (hl := rfl); exact do_binInt rfl rfl rfl trivial; exact rfl
  apply seq_plain; exact do_pick_f rfl rfl; exact rfl
  apply seq_nil
  refine ct_cond_f rfl (by simp [s5]) ?_
  apply ct_skip
  apply ct_seq
  apply ct_draw (by assumption); decide +kernel
  apply sd_plain (hfree := rfl); intro _; exact do_indexAddrA rfl rfl rfl (by exact rfl); exact rfl
  apply sd_look (hfree := rfl); exact do_load rfl (by exact ext_get_new (getApp (by assumption))) rfl (by exact rfl); exact rfl
  apply sd_plain (hfree := rfl); intro _; exact do_indexAddrA rfl rfl rfl (by exact rfl); exact rfl
  apply sd_look (hfree := rfl); exact do_load rfl (by exact ext_get_new (getApp (by assumption))) rfl (by exact rfl); exact rfl
  apply sd_plain (hfree := rfl); intro _; exact do_assign rfl; exact rfl
  apply sd_plain (hfree := rfl); intro _; exact do_assign rfl; exact rfl
  apply sd_nil
  apply ct_seq
  apply ct_seq
  apply ct_region
  apply seq_plain; exact do_move rfl; exact rfl
  apply seq_plain; exact do_fieldAddr rfl rfl; exact rfl
  apply seq_plain; exact do_load rfl (by exact ext_get_new (getApp (by assumption))) rfl (by exact rfl); exact rfl
  apply seq_plain; exact do_predN rfl rfl (by omega) (by omega); exact rfl
  apply seq_call (ht := rfl); exact outside24; exact rfl
  apply seq_plain; exact do_move rfl; exact rfl
  refine seq_J [(2, .pointer (some ⟨nb H 0, 0, none⟩)), (22, I a), (23, I b), (345, .bool (outL a 0 ((N - 1 : Nat) : Int) || (outL b 0 ((N - 1 : Nat) : Int) || (a == b))))] (ds := []) (h := ext H H.fresh (Q ++ List.map some [])) ?_ ?_
  · refine seq_gsplit rfl rfl (fun u0 => ?_) (fun u0 => ?_)
    · have u0 : outL a 0 ((N - 1 : Nat) : Int) = true := u0
      rw [u0, Bool.true_or]
      apply seq_passed (hd := rfl) (hl := rfl) (hb := rfl); exact rfl
      apply seq_passed (hd := rfl) (hl := rfl) (hb := rfl); exact rfl
      apply seq_passed (hd := rfl) (hl := rfl) (hb := rfl); exact rfl
      apply seq_passed (hd := rfl) (hl := rfl) (hb := rfl); exact rfl
      apply seq_passed (hd := rfl) (hl := rfl) (hb := rfl); exact rfl
      apply seq_plain; exact do_pick_t rfl rfl; exact rfl
      apply seq_plain; exact do_move rfl; exact rfl
      apply seq_passed (hd := rfl) (hl := rfl) (hb := rfl); exact rfl
      apply seq_passed (hd := rfl) (hl := rfl) (hb := rfl); exact rfl
      apply seq_passed (hd := rfl) (hl := rfl) (hb := rfl); exact rfl
      apply seq_plain; exact do_pick_t rfl rfl; exact rfl
      apply seq_nil
      exact jp_of (by repeat (first | exact sub_nil | apply sub_cons rfl))
    have u0 : outL a 0 ((N - 1 : Nat) : Int) = false := u0
    rw [u0, Bool.false_or]
    apply seq_guard (hd := rfl) (hl := rfl); exact do_move rfl; exact rfl
    apply seq_guard (hd := rfl) (hl := rfl); exact do_fieldAddr rfl rfl; exact rfl
    apply seq_guard (hd := rfl) (hl := rfl); exact do_load rfl (by exact ext_get_new (getApp (by assumption))) rfl (by exact rfl); exact rfl
    apply seq_guard (hd := rfl) (hl := rfl); exact do_predN rfl rfl (by omega) (by omega); exact rfl
    apply seq_gcall (hg := rfl) (hl := rfl) (ht := rfl); exact outside24; exact rfl
    apply seq_plain; exact do_pick_f rfl rfl; exact rfl
    apply seq_plain; exact do_move rfl; exact rfl
    refine seq_gsplit rfl rfl (fun u1 => ?_) (fun u1 => ?_)
    · have u1 : outL b 0 ((N - 1 : Nat) : Int) = true := u1
      rw [u1, Bool.true_or]
      apply seq_passed (hd := rfl) (hl := rfl) (hb := rfl); exact rfl
      apply seq_passed (hd := rfl) (hl := rfl) (hb := rfl); exact rfl
      apply seq_passed (hd := rfl) (hl := rfl) (hb := rfl); exact rfl
      apply seq_plain; exact do_pick_t rfl rfl; exact rfl
      apply seq_nil
      exact jp_of (by repeat (first | exact sub_nil | apply sub_cons rfl))
    have u1 : outL b 0 ((N - 1 : Nat) : Int) = false := u1
    rw [u1, Bool.false_or]
    apply seq_guard (hd := rfl) (hl := rfl); exact do_move rfl; exact rfl
    apply seq_guard (hd := rfl) (hl := rfl); exact do_move rfl; exact rfl
    apply seq_guard (hd := rfl) (hl := rfl); exact do_binInt rfl rfl rfl trivial; exact rfl
    apply seq_plain; exact do_pick_f rfl rfl; exact rfl
    apply seq_nil
    exact jp_of (by repeat (first | exact sub_nil | apply sub_cons rfl))
  refine ct_cond rfl (fun h2 => ?_) (fun h2 => ?_)
  · apply ct_seq
    apply ct_region
    apply seq_plain; exact do_assign rfl; exact rfl
    apply seq_nil
    apply ct_ret
    exact fin_flat hc rfl rfl ⟨rfl, rfl⟩
  rw [Bool.or_eq_false_iff, Bool.or_eq_false_iff] at h2
  obtain ⟨a1, a2, a3⟩ := h2
  simp only [outL, decide_eq_false_iff_not] at a1 a2
  have a3 : a ≠ b := by simpa using a3
  have ha : 0 ≤ a ∧ a < N := by omega
  have hb : 0 ≤ b ∧ b < N := by omega
  obtain ⟨x, y, hx, hy, hR⟩ := head_c (H := ext H H.fresh (Q ++ List.map some [])) (c := c) (hs.ext (ext_Ext hc)) (ext_Ext hc _ _ hG) hchk hrule ha hb a3
  obtain ⟨z, w, hz, hw, hR2⟩ := head_c (H := ext H H.fresh (Q ++ List.map some [])) (c := c) (hs.ext (ext_Ext hc)) (ext_Ext hc _ _ hG) hchk hrule hb ha (Ne.symm a3)
  have eor : (fun k : Int => (k == b) || (k == a)) = fun k => (k == a) || (k == b) := funext fun k => Bool.or_comm _ _
  rw [eor] at hz hw
  have e1 : w = x := Option.some.inj (hw.symm.trans hx)
  have e2 : z = y := Option.some.inj (hz.symm.trans hy)
  rw [e1, e2] at hR2
  have hp : ∀ (k : Nat) v, (rowsF r N (onlyF (fun k => (k == a) || (k == b)) l))[k]?.map (·.pts) = some v → 0 ≤ v := fun k v h => by
    have hW := rowsF_bdK hr (n := N) (by omega) (onlyF_ok (am := fun k => (k == a) || (k == b)) hl) (Nat.le_trans (List.length_filter_le _ _) (by omega))
    cases e : (rowsF r N (onlyF (fun k => (k == a) || (k == b)) l))[k]? with
    | none => rw [e] at h; cases h
    | some u =>
      rw [e, Option.map_some, Option.some.injEq] at h
      obtain ⟨hk, e3⟩ := List.getElem?_eq_some_iff.1 e
      have := (hW k hk).pts
      rw [e3, h] at this
      exact this.1
  have bx := hp _ _ hx
  have bY := hp _ _ hy
  clear hp hz hw hx hy
  apply ct_skip
  apply ct_seq
  apply ct_region
  apply seq_plain; exact do_fieldAddr rfl rfl; exact rfl
  apply seq_plain; exact do_load rfl (by exact ext_get_new (getApp (by assumption))) rfl (by exact rfl); exact rfl
  apply seq_plain; exact do_fieldAddr rfl rfl; exact rfl
  apply seq_plain; exact do_load rfl (by exact ext_get_new (getApp (by assumption))) rfl (by exact rfl); exact rfl
  apply seq_plain; exact do_fieldAddr rfl rfl; exact rfl
  apply seq_plain; exact do_load rfl (by exact ext_get_new (getApp (by assumption))) rfl (by exact rfl); exact rfl
  apply seq_plain; exact do_move rfl; exact rfl
  apply seq_plain; exact do_move rfl; exact rfl
  apply seq_call (ht := rfl); exact hR; exact rfl
  apply seq_plain; exact do_move rfl; exact rfl
  apply seq_plain; exact do_extract rfl rfl; exact rfl
  apply seq_plain; exact do_extract rfl rfl; exact rfl
  apply seq_plain; exact do_extract rfl rfl; exact rfl
  apply seq_plain; exact do_assign rfl; exact rfl
  apply seq_plain; exact do_assign rfl; exact rfl
  apply seq_plain; exact do_assign rfl; exact rfl
  apply seq_nil
  apply ct_seq
  apply ct_region
  apply seq_plain; exact do_fieldAddr rfl rfl; exact rfl
  apply seq_plain; exact do_load rfl (by exact ext_get_new (getApp (by assumption))) rfl (by exact rfl); exact rfl
  apply seq_plain; exact do_fieldAddr rfl rfl; exact rfl
  apply seq_plain; exact do_load rfl (by exact ext_get_new (getApp (by assumption))) rfl (by exact rfl); exact rfl
  apply seq_plain; exact do_fieldAddr rfl rfl; exact rfl
  apply seq_plain; exact do_load rfl (by exact ext_get_new (getApp (by assumption))) rfl (by exact rfl); exact rfl
  apply seq_plain; exact do_move rfl; exact rfl
  apply seq_plain; exact do_move rfl; exact rfl
  apply seq_call (ht := rfl); exact hR2; exact rfl
  apply seq_plain; exact do_move rfl; exact rfl
  apply seq_plain; exact do_extract rfl rfl; exact rfl
  apply seq_plain; exact do_extract rfl rfl; exact rfl
  apply seq_plain; exact do_extract rfl rfl; exact rfl
  apply seq_plain; exact do_assign rfl; exact rfl
  apply seq_plain; exact do_assign rfl; exact rfl
  apply seq_plain; exact do_assign rfl; exact rfl
  apply seq_nil
  apply ct_seq
  apply ct_region
  apply seq_plain; exact do_move rfl; exact rfl
  apply seq_plain; exact do_move rfl; exact rfl
  apply seq_plain; exact do_add rfl rfl (by omega); exact rfl
  apply seq_plain; exact do_binInt rfl rfl rfl trivial; exact rfl
  apply seq_plain; exact do_move rfl; exact rfl
  apply seq_guard (hd := rfl) (hl := rfl); exact do_move rfl; exact rfl
  apply seq_guard (hd := rfl) (hl := rfl); exact do_move rfl; exact rfl
  apply seq_guard (hd := rfl) (hl := rfl); exact do_binInt rfl rfl rfl trivial; exact rfl
  apply seq_plain; exact do_pick_t rfl rfl; exact rfl
  apply seq_plain; exact do_move rfl; exact rfl
  refine seq_gsplit rfl rfl (fun u => ?_) (fun u => ?_)
  rotate_left
  · exact absurd (show (x == x) = false from u) (by simp)
  apply seq_guard (hd := rfl) (hl := rfl); exact do_move rfl; exact rfl
  apply seq_guard (hd := rfl) (hl := rfl); exact do_move rfl; exact rfl
  apply seq_guard (hd := rfl) (hl := rfl); exact do_binInt rfl rfl rfl trivial; exact rfl
  apply seq_plain; exact do_pick_t rfl rfl; exact rfl
  apply seq_plain; exact do_move rfl; exact rfl
  refine seq_gsplit rfl rfl (fun u => ?_) (fun u => ?_)
  rotate_left
  · exact absurd (show (y == y) = false from u) (by simp)
  apply seq_guard (hd := rfl) (hl := rfl); exact do_move rfl; exact rfl
  apply seq_guard (hd := rfl) (hl := rfl); exact do_binInt rfl rfl rfl trivial; exact rfl
  apply seq_plain; exact do_pick_t rfl rfl; exact rfl
  apply seq_plain; exact do_move rfl; exact rfl
  refine seq_gsplit rfl rfl (fun u => ?_) (fun u => ?_)
  rotate_left
  · exact absurd (of_decide_eq_false (show decide (x ≥ 0) = false from u)) (by omega)
  apply seq_guard (hd := rfl) (hl := rfl); exact do_move rfl; exact rfl
  apply seq_guard (hd := rfl) (hl := rfl); exact do_binInt rfl rfl rfl trivial; exact rfl
  apply seq_plain; exact do_pick_t rfl rfl; exact rfl
  apply seq_plain; exact do_assign rfl; exact rfl
  apply seq_nil
  apply ct_ret
  refine fin_flat hc rfl rfl ⟨?_, rfl⟩
  rw [show decide (y ≥ 0) = true from decide_eq_true bY]; rfl
end Go.Proofs.YtiggikjbknoohaaGreatDoor
