/- Contracts: the table of a league. -/
import Derived.Test.YtppflopinmkpgaaDoorTcJ
noncomputable section
namespace Go.Proofs.YtppflopinmkpgaaDoor
open Go Go.Den
set_option maxRecDepth 100000

theorem mix_set {α : Type} {P S : List α} {i : Nat} (hP : i < P.length) (hS : i < S.length) : (P.take i ++ S.drop i).set i P[i] = P.take (i + 1) ++ S.drop (i + 1) := by
  rw [List.drop_eq_getElem_cons hS, take_snoc hP, set_mid (by rw [List.length_take]; omega), List.append_assoc]
  rfl
theorem mix_len {α : Type} {P S : List α} {i : Nat} (h : P.length = S.length) : (P.take i ++ S.drop i).length = S.length := by
  rw [List.length_append, List.length_take, List.length_drop]; omega
theorem mix_get {α : Type} {P S : List α} {i : Nat} (hP : i < P.length) (hS : i < S.length) (h : i < (P.take i ++ S.drop i).length) : (P.take i ++ S.drop i)[i] = S[i] := by
  rw [List.getElem_append_right (by rw [List.length_take]; omega)]
  simp only [List.getElem_drop, List.length_take]
  congr 1
  omega
theorem mix_low {α : Type} {P S : List α} {i k : Nat} (hk : k < i) (hP : i < P.length) (h : k < (P.take i ++ S.drop i).length) : (P.take i ++ S.drop i)[k] = P[k] := by
  rw [List.getElem_append_left (by rw [List.length_take]; omega), List.getElem_take]
theorem onlyF_all {l : List Ma} : onlyF (fun _ => true) l = l := by
  unfold onlyF
  rw [List.filter_eq_self]
  intro m _; rfl
set_option maxHeartbeats 8000000 in
theorem table_c {H : AHeap} {n : Nat} {q : Option Addr} {c : Nat} {l : List Ma} {r : Ru} (hs : SlAt H 5 mt q l) (hG : H.get 1 = some (.cells cs0 0 false true)) (hchk : chkM n l = 0) (hrule : ruleL r = 0) (hn8 : n ≤ 8) :
    Ret Tryd.prog 7 [I n, .slice q l.length c, ruV r] H (.tuple ⟨[.slice (some ⟨H.fresh, 0, none⟩) n n, I 0]⟩) (H.add (rwB (tableL r n l) 9 false)) := by
  have hzz := chkM_zero.1 hchk
  have htop := top_ok hzz.1
  have hl : ∀ m ∈ l, MaOk n m := fun m hm => ma_ok (hzz.2.1 m hm)
  have hr := ru_ok hrule
  refine fn_start Tryd.func7 rfl rfl rfl fun hc => ?_
  apply ct_seq
  apply ct_region
  apply seq_newP; exact do_box rfl rfl rfl; exact rfl
  apply seq_plain; exact do_assign rfl; exact rfl
  apply seq_plain; exact do_assign rfl; exact rfl
  apply seq_nil
  apply ct_seq
  apply ct_seq
  apply ct_draw (by assumption); decide +kernel
  apply sd_plain (hfree := rfl); intro _; exact do_move rfl; exact rfl
  apply sd_plain (hfree := rfl); intro _; exact do_move rfl; exact rfl
  apply sd_call (ht := rfl); exact checkMatches82 (hs.ext (ext_Ext hc)) (by omega) (ext_Ext hc _ _ hG); exact rfl
  apply sd_look (hfree := rfl); exact do_load rfl (by exact ext_get_new rfl) rfl (by exact rfl); exact rfl
  apply sd_call (ht := rfl); exact checkRule115; exact rfl
  apply sd_newS (hfree := rfl); exact do_buildSlice rfl rfl rfl rfl rfl rfl rfl; exact rfl
  apply sd_callM (ht := rfl) (hw := rfl); decide +kernel; exact first84 (l := [_, _]) (slAt_map (ext_get_new rfl)) (by simp); exact rfl
  apply sd_plain (hfree := rfl); intro _; exact do_assign rfl; exact rfl
  apply sd_nil
  apply ct_seq
  apply ct_region
  apply seq_plain; exact do_move rfl; exact rfl
  apply seq_plain; exact do_binInt rfl rfl rfl trivial; exact rfl
  apply seq_nil
  refine ct_cond_f rfl (by rw [hchk, hrule]; rfl) ?_
  apply ct_skip
  apply ct_seq
  apply ct_region
  apply seq_plain; exact do_move rfl; exact rfl
  apply seq_plain; exact do_move rfl; exact rfl
  apply seq_plain; exact do_load rfl (by exact ext_get_new rfl) rfl (by exact rfl); exact rfl
  refine seq_call rfl (rows_c (am := fun _ => true) (hs.ext (ext_Ext hc)) htop.2 (by omega) hl hr (ext_Ext hc _ _ hG) fun k _ H' _ => all_c) rfl ?_
  rw [ext_fresh, ext_add, onlyF_all]
  obtain ⟨T, hT⟩ : ∃ T, T = rowsF r n l := ⟨_, rfl⟩
  have hTl : T.length = n := by rw [hT, rowsF_len]
  have hTb : ∀ i (h : i < T.length), RowBd 1000 T[i] := by subst hT; exact rowsF_bdK hr (by omega) hl (by omega)
  rw [← hT]
  apply seq_plain; exact do_assign rfl; exact rfl
  apply seq_nil
  apply ct_seq
  apply ct_region
  apply seq_newM; exact do_makeMap0; exact rfl
  apply seq_plain; exact do_assign rfl; exact rfl
  apply seq_nil
  apply ct_seq
  apply ct_seq
  apply ct_region
  apply seq_plain; exact do_move rfl; exact rfl
  apply seq_plain; exact do_lenS rfl rfl rfl; exact rfl
  apply seq_plain; exact do_move rfl; exact rfl
  apply seq_nil
  apply ct_block
  apply ct_loop
  refine lt_meas (α := Nat × List (Fg × Value) × List (Option ABlk)) (fun a => [(0, I n), (1, .slice q l.length c), (5, .pointer (some ⟨nb H 0, 0, none⟩)), (9, .slice (some ⟨nb H 2, 0, none⟩) n n), (10, .map (some (nb H 3))), (36, .slice (some ⟨nb H 2, 0, none⟩) n n), (37, I n), (38, I a.1)]) (fun a => ext H H.fresh a.2.2)
    (fun a => a.1 ≤ n ∧ a.2.2[0]? = some (some (.cells (ruL r) 0 false false)) ∧ a.2.2[2]? = some (some (rwB T 9 false)) ∧ a.2.2[3]? = some (some (pairM fgV id a.2.1)) ∧ Grp H a.2.2 T a.1 a.2.1) (fun a => n - a.1) (fun a ha ih => ?_)
    (0, [], [some (.cells (ruL r) 0 false false), some (.cells [I (chkM n l), I (ruleL r)] 1 false false), some (rwB T 9 false), some (pairM fgV id ([] : List (Fg × Value)))]) ⟨by simp, rfl, rfl, rfl, Grp.zero⟩ (by repeat (first | exact sub_nil | apply sub_cons rfl)) (.refl _)
  obtain ⟨i, ks, L⟩ := a
  obtain ⟨hi, hL0, hL2, hL3, hK⟩ := ha
  simp only at hi hL0 hL2 hL3 hK ih ⊢
  have ih' := fun i' ks' L' a1 a2 a3 a4 a5 a6 => ih (i', ks', L') a1 ⟨a2, a3, a4, a5, a6⟩
  simp only at ih'
  clear ih
  have hLl : 3 < L.length := (List.getElem?_eq_some_iff.1 hL3).1
  apply ct_seq
  apply ct_region
  apply seq_plain; exact do_binInt rfl rfl rfl trivial; exact rfl
  apply seq_nil
  apply ct_seq
  refine ct_cond rfl (fun h1 => ?_) (fun h1 => ?_)
  · simp only [decide_eq_true_eq, Int.ofNat_lt] at h1
    have hiT : i < T.length := by omega
    obtain ⟨d1, d2, d3, d4, d5, d6, d7, d8, d9⟩ := hTb i hiT
    apply ct_skip
    apply ct_seq
    apply ct_block
    apply ct_seq
    apply ct_region
    apply seq_plain; exact do_move rfl; exact rfl
    apply seq_plain; exact do_indexAddrS rfl rfl rfl (by exact idx_nat (by omega)); exact rfl
    apply seq_plain; exact do_load rfl (by exact ext_get_new (by assumption)) rfl (by exact pt_flat rw9_len (by omega)); exact rfl
    apply seq_newP; exact do_alloc rfl rfl; exact rfl
    apply seq_plain; exact do_assign rfl; exact rfl
    apply seq_putC (hc := by assumption); rotate_left; exact do_store rfl rfl (by exact ext_get_new List.getElem?_concat_length) rfl rfl (nb_own _); rotate_left; exact (by simp)
    apply ct_draw (by assumption); decide +kernel
    apply sd_plain (hfree := rfl); intro _; exact do_move rfl; exact rfl
    apply sd_look (hfree := rfl); exact do_load rfl (by exact ext_get_new (getApp getSetLast)) rfl (by exact rfl); exact rfl
    rw [set_mid rfl]
    obtain ⟨y8, e8⟩ : ∃ y : ABlk, y = .cells (rw9 T[i]) 0 false false := ⟨_, rfl⟩
    have g8 : (L ++ [some y8])[L.length]? = some (some y8) := List.getElem?_concat_length
    have g0 : (L ++ [some y8])[0]? = some (some (.cells (ruL r) 0 false false)) := getApp hL0
    have g2 : (L ++ [some y8])[2]? = some (some (rwB T 9 false)) := getApp hL2
    have g3 : (L ++ [some y8])[3]? = some (some (pairM fgV id ks)) := getApp hL3
    have gK : Grp H (L ++ [some y8]) T i ks := hK.move fun j cs h => getApp h
    rw [e8] at g8 g0 g2 g3 gK
    skip
    apply sd_call (ht := rfl); exact figures_c (x := T[i]) (by omega) (by omega); exact rfl
    apply sd_plain (hfree := rfl); intro _; exact do_move rfl; exact rfl
    apply sd_look (hfree := rfl); exact do_load rfl (by exact ext_get_new (getApp (by assumption))) rfl (by exact rfl); exact rfl
    apply sd_call (ht := rfl); exact figures_c (x := T[i]) (by omega) (by omega); exact rfl
    skip
    apply sd_look (hfree := rfl); exact do_pairGet (ks := ks) (a := figL T[i]) (f := fgV) (g := id) rfl rfl (by exact ext_get_new (getApp g3)) rfl zeroSl keyFg rfl; exact rfl
    apply sd_plain (hfree := rfl); intro _; exact do_move rfl; exact rfl
    apply sd_newS (hfree := rfl); exact do_buildSlice rfl rfl rfl rfl rfl rfl rfl; exact rfl
    have hil := idxs_len (t := T) (a := figL T[i]) (i := i)
    refine sd_growK (f := i1) (lst := idxs T (figL T[i]) i) (xs := [(i : Int)]) (k0 := 0) hc rfl (by decide +kernel) ((gK.get (figL T[i])).app _) (by omega) (fun _ => rfl) (fun _ => rfl) rfl rfl rfl rfl rfl rfl (by exact ext_get_new List.getElem?_concat_length) rfl (by simp) ?_ (Nat.ne_of_beq_eq_false rfl) (Nat.ne_of_beq_eq_false rfl) rfl (fun v' L1 hv' hst1 hlen1 => ?_)
    · exact Nat.le_trans (Nat.mul_le_mul_right _ (by simp only [List.length_cons, List.length_nil]; omega : _ ≤ 3000000000)) (Nat.le_of_ble_eq_true rfl)
    have q3 := hst1 3 _ (getApp g3) (fun _ e => by unfold pairM at e; cases e)
    refine sd_putQ (k := 3) rfl (by decide +kernel) hc (List.getElem?_eq_some_iff.1 q3).1 (do_pairPut (ks := ks) (a := figL T[i]) (b := v') (f := fgV) (g := id) rfl rfl rfl (by exact ext_get_new q3) rfl keyFg (nb_own _)) (fun L2 hl2 ho2 hk2 => ?_)
    apply sd_nil
    apply ct_region
    apply seq_plain; exact do_succ rfl (by omega); exact rfl
    apply seq_plain; exact do_move rfl; exact rfl
    apply seq_nil
    have no3 : ∀ (j : Nat) cs, L1[j]? = some (some (ABlk.cells cs 1 true false)) → j ≠ 3 := fun j cs hj e => by
      subst e
      rw [q3] at hj
      unfold pairM at hj
      cases hj
    have no3' : ∀ (j : Nat) cs, (L ++ [some (ABlk.cells (rw9 T[i]) 0 false false)])[j]? = some (some (ABlk.cells cs 1 true false)) → j ≠ 3 := fun j cs hj e => by
      subst e
      rw [g3] at hj
      unfold pairM at hj
      cases hj
    refine lt_to (by repeat (first | exact sub_nil | apply sub_cons rfl)) (.refl _) (ih' (i + 1) (putK ks (figL T[i]) v') _ (by omega) (by omega) ?_ ?_ ?_ ?_)
    · exact getApp ((ho2 0 (by omega)).trans (hst1 0 _ (getApp g0) (fun _ e => absurd (ABlk.cells.inj e).2.1 (by decide))))
    · exact getApp ((ho2 2 (by omega)).trans (hst1 2 _ (getApp g2) (fun _ e => absurd (ABlk.cells.inj e).2.1 (by decide))))
    · exact getApp hk2
    · exact gK.put hiT (hv'.move fun _ j hj => getApp ((ho2 j (no3 _ _ hj)).trans hj)) fun j cs hj hne => getApp ((ho2 j (no3' _ _ hj)).trans (hst1 j _ (getApp hj) fun h e => hne h (by injection e)))
  have h1 : i = n := by simp at h1; omega
  rw [h1] at hK
  clear ih' h1 hi
  apply ct_exit
  apply exit_eq; exact rfl
  apply ct_seq
  apply ct_region
  apply seq_plain; exact do_move rfl; exact rfl
  apply seq_newS; exact mkFigs rfl (by omega); exact rfl
  apply seq_newP; exact do_alloc rfl rfl; exact rfl
  apply seq_putC (hc := by assumption); rotate_left; exact do_store rfl rfl (by exact ext_get_new List.getElem?_concat_length) rfl rfl (nb_own _); rotate_left; exact (by simp)
  apply ct_seq
  apply ct_seq
  apply ct_region
  apply seq_plain; exact do_move rfl; exact rfl
  rw [set_mid rfl]
  obtain ⟨zA, eA⟩ : ∃ y : ABlk, y = fgB (List.replicate n (0, 0, 0)) := ⟨_, rfl⟩
  obtain ⟨zc, ec⟩ : ∃ y : ABlk, y = .cells [.slice (some ⟨nb H L.length, 0, none⟩) n n] 0 false false := ⟨_, rfl⟩
  have v0 : (L ++ [some zA] ++ [some zc])[0]? = some (some (.cells (ruL r) 0 false false)) := getApp (getApp hL0)
  have v2 : (L ++ [some zA] ++ [some zc])[2]? = some (some (rwB T 9 false)) := getApp (getApp hL2)
  have v3 : (L ++ [some zA] ++ [some zc])[3]? = some (some (pairM fgV id ks)) := getApp (getApp hL3)
  have vA : (L ++ [some zA] ++ [some zc])[L.length]? = some (some zA) := getApp List.getElem?_concat_length
  have vl : (L ++ [some zA]).length = L.length + 1 := by simp
  have vc : (L ++ [some zA] ++ [some zc])[L.length + 1]? = some (some zc) := by rw [← vl]; exact List.getElem?_concat_length
  have vl2 : (L ++ [some zA] ++ [some zc]).length = L.length + 2 := by simp
  have vK : Grp H (L ++ [some zA] ++ [some zc]) T n ks := hK.move fun j cs h => getApp (getApp h)
  rw [eA, ec] at v0 v2 v3 vA vc vl2 vK
  rw [eA] at vl
  apply seq_newP
  · exact do_rangeMap (es := pairEs fgV id ks 0) (c := ks.length) (b := false) rfl rfl (by exact ext_get_new v3)
  · exact rfl
  rw [vl, vl2]
  obtain ⟨L5, eL5⟩ : ∃ L5 : List (Option ABlk), L5 = L ++ [some (fgB (List.replicate n (0, 0, 0)))] ++ [some (.cells [.slice (some ⟨nb H L.length, 0, none⟩) n n] 0 false false)] := ⟨_, rfl⟩
  rw [← eL5] at v0 v2 v3 vA vc vl2 vK ⊢
  apply seq_nil
  apply ct_block
  apply ct_loop
  refine lt_meas (α := List Nat × List Fg × List (Option ABlk)) (fun _ => [(0, I n), (1, .slice q l.length c), (5, .pointer (some ⟨nb H 0, 0, none⟩)), (9, .slice (some ⟨nb H 2, 0, none⟩) n n), (13, .pointer (some ⟨nb H (L.length + 1), 0, none⟩)), (57, .pointer (some ⟨nb H (L.length + 2), 0, none⟩))]) (fun a => ext H H.fresh a.2.2)
    (fun a => (a.1.Nodup ∧ (∀ j ∈ a.1, j < ks.length) ∧ a.2.1.length = n ∧ (∀ i : Nat, (∃ j ∈ a.1, ∃ p, ks[j]? = some p ∧ (i : Int) ∈ idxs T p.1 n) → a.2.1[i]? = some (amongL r n l i))) ∧
      (a.2.2[0]? = some (some (.cells (ruL r) 0 false false)) ∧ a.2.2[2]? = some (some (rwB T 9 false)) ∧ a.2.2[3]? = some (some (pairM fgV id ks)) ∧ a.2.2[L.length]? = some (some (fgB a.2.1)) ∧
        a.2.2[L.length + 1]? = some (some (.cells [.slice (some ⟨nb H L.length, 0, none⟩) n n] 0 false false)) ∧ a.2.2[L.length + 2]? = some (some (.miter (some (nb H 3)) ks.length a.1 ks.length))) ∧ Grp H a.2.2 T n ks)
    (fun a => ks.length - a.1.length) (fun a ha ih => ?_) ([], List.replicate n (0, 0, 0), L5 ++ [some (.miter (some (nb H 3)) ks.length [] ks.length)])
    ⟨⟨.nil, fun _ h => (by cases h), by simp, fun _ ⟨_, h, _⟩ => (by cases h)⟩, ⟨getApp v0, getApp v2, getApp v3, getApp vA, getApp vc, by rw [← vl2]; exact List.getElem?_concat_length⟩, vK.move fun j cs h => getApp h⟩ (by repeat (first | exact sub_nil | apply sub_cons rfl)) (.refl _)
  obtain ⟨seen, A, M⟩ := a
  obtain ⟨⟨hnd, hlt, hAl, hgood⟩, ⟨m0, m2, m3, mA, mc, mI⟩, mK⟩ := ha
  simp only at hnd hlt hAl hgood m0 m2 m3 mA mc mI mK ih ⊢
  have ih' := fun s' A' M' a1 a2 a3 a4 => ih (s', A', M') a1 ⟨a2, a3, a4⟩
  simp only at ih'
  clear ih
  have hle : seen.length ≤ ks.length := by
    have := nodup_len hnd (m := List.range ks.length) fun j hj => List.mem_range.2 (hlt j hj)
    simpa using this
  apply ct_seq
  apply ct_region
  refine seq_nextMapK (f := fgV) (g := id) (ks := ks) (b := false) hc rfl mI (by exact ext_get_new m3) rfl (fun hall => ?_) (fun j hj hs2 M1 hl1 ho1 hk1 => ?_)
  rotate_left
  · have hlt2 : seen.length < ks.length := by
      rcases Nat.lt_or_ge seen.length ks.length with h | h
      · exact h
      · exfalso
        have := nodup_len (k := j :: seen) (m := List.range ks.length) (List.nodup_cons.2 ⟨hs2, hnd⟩) fun x hx => by
          rcases List.mem_cons.1 hx with rfl | hx
          · exact List.mem_range.2 hj
          · exact List.mem_range.2 (hlt x hx)
        simp only [List.length_cons, List.length_range] at this
        omega
    have n0 := (ho1 0 (by omega)).trans m0
    have n2 := (ho1 2 (by omega)).trans m2
    have n3 := (ho1 3 (by omega)).trans m3
    have nA := (ho1 L.length (by omega)).trans mA
    have nc := (ho1 (L.length + 1) (by omega)).trans mc
    have nK : Grp H M1 T n ks := mK.move fun k cs h => (ho1 k fun e => by subst e; rw [mI] at h; cases h).trans h
    obtain ⟨hlst, hne⟩ := nK.lst ks[j] (List.getElem_mem hj)
    obtain ⟨pp, epp, hsl, _⟩ := hlst.slice (lo := H.fresh) (fun _ => rfl)
    have epp2 : (id ks[j].2 : Value) = .slice pp (idxs T ks[j].1 n).length (idxs T ks[j].1 n).length := epp
    apply seq_plain; exact do_extract rfl rfl; exact rfl
    apply seq_nil
    apply ct_seq
    refine ct_cond_t rfl rfl ?_
    apply ct_skip
    apply ct_block
    apply ct_seq
    apply ct_region
    apply seq_plain; exact do_entry (ks := ks) (f := fgV) (g := id) (b := false) rfl (by exact ext_get_new hk1) (by exact ext_get_new n3) hj; exact rfl
    rw [epp2]
    apply seq_plain; exact do_extract rfl rfl; exact rfl
    apply seq_newP; exact do_alloc rfl rfl; exact rfl
    apply seq_putC (hc := by assumption); rotate_left; exact do_store rfl rfl (by exact ext_get_new List.getElem?_concat_length) rfl rfl (nb_own _); rotate_left; exact (by simp)
    apply ct_seq
    apply ct_region
    apply seq_plain; exact do_move rfl; exact rfl
    apply seq_plain; exact do_move rfl; exact rfl
    obtain ⟨yt, et⟩ : ∃ y : ABlk, y = .cells [.slice pp (idxs T ks[j].1 n).length (idxs T ks[j].1 n).length] 0 false false := ⟨_, rfl⟩
    rw [set_mid rfl]
    have p0 : (M1 ++ [some yt])[0]? = some (some (.cells (ruL r) 0 false false)) := getApp n0
    have pT : (M1 ++ [some yt])[M1.length]? = some (some yt) := List.getElem?_concat_length
    have pl : (M1 ++ [some yt]).length = M1.length + 1 := by simp
    have hsl1 : SlAt (ext H H.fresh (M1 ++ [some yt])) 1 i1 pp (idxs T ks[j].1 n) := by
      obtain ⟨pp', e', h', _⟩ := (hlst.app [some yt]).slice (lo := H.fresh) (fun _ => rfl)
      rw [epp] at e'
      have : pp = pp' := by injection e'
      rw [this]; exact h'
    rw [et] at p0 pT pl hsl1
    have hil := idxs_len (t := T) (a := ks[j].1) (i := n)
    apply seq_plain; exact do_load rfl (by exact ext_get_new (by assumption)) rfl (by exact rfl); exact rfl
    apply seq_plain; exact do_makeFunc rfl rfl; exact rfl
    refine seq_call rfl (rows_c (am := fun k => (idxs T ks[j].1 n).any fun x => k == x) (hs.ext (ext_Ext hc)) htop.2 (by omega) hl hr (ext_Ext hc _ _ hG) fun k _ H' hE => inTeams_c (hE _ _ (ext_get_new pT)) (hsl1.ext hE) (by omega)) rfl ?_
    rw [ext_fresh, ext_add, pl]
    obtain ⟨W, hW⟩ : ∃ W, W = rowsF r n (onlyF (fun k => (idxs T ks[j].1 n).any fun x => k == x) l) := ⟨_, rfl⟩
    have hWl : W.length = n := by rw [hW, rowsF_len]
    have hWb : ∀ i (h : i < W.length), RowBd 1000 W[i] := by
      subst hW
      exact rowsF_bdK hr (by omega) (onlyF_ok hl) (Nat.le_trans (List.length_filter_le _ _) (by omega))
    have hWa : ∀ i (h : i < W.length), T[i]?.map figL = some ks[j].1 → amongL r n l i = figA W[i] := fun i h ha => by
      rw [hT] at ha
      refine among_idxs hl ha W[i] ?_
      have e : onlyL (idxs (rowsF r n l) ks[j].1 n) l = onlyF (fun k => (idxs T ks[j].1 n).any fun x => k == x) l := by rw [hT]; rfl
      rw [e, ← hW]
      exact List.getElem?_eq_getElem h
    rw [← hW]
    apply seq_plain; exact do_assign rfl; exact rfl
    apply seq_nil
    apply ct_seq
    apply ct_region
    apply seq_plain; exact do_load rfl (by exact ext_get_new (getApp (by assumption))) rfl (by exact rfl); exact rfl
    apply seq_plain; exact do_lenS rfl rfl rfl; exact rfl
    apply seq_plain; exact do_move rfl; exact rfl
    apply seq_nil
    apply ct_block
    apply ct_loop
    obtain ⟨L6, eL6⟩ : ∃ L6 : List (Option ABlk), L6 = M1 ++ [some (.cells [.slice pp (idxs T ks[j].1 n).length (idxs T ks[j].1 n).length] 0 false false)] ++ [some (rwB W 9 false)] := ⟨_, rfl⟩
    have w0 : L6[0]? = some (some (.cells (ruL r) 0 false false)) := by rw [eL6]; exact getApp (getApp n0)
    have w2 : L6[2]? = some (some (rwB T 9 false)) := by rw [eL6]; exact getApp (getApp n2)
    have w3 : L6[3]? = some (some (pairM fgV id ks)) := by rw [eL6]; exact getApp (getApp n3)
    have wA : L6[L.length]? = some (some (fgB A)) := by rw [eL6]; exact getApp (getApp nA)
    have wc : L6[L.length + 1]? = some (some (.cells [.slice (some ⟨nb H L.length, 0, none⟩) n n] 0 false false)) := by rw [eL6]; exact getApp (getApp nc)
    have wI : L6[L.length + 2]? = some (some (.miter (some (nb H 3)) ks.length (seen ++ [j]) ks.length)) := by rw [eL6]; exact getApp (getApp hk1)
    have wW : L6[M1.length + 1]? = some (some (rwB W 9 false)) := by rw [eL6, ← pl]; exact List.getElem?_concat_length
    have wK : Grp H L6 T n ks := by rw [eL6]; exact nK.move fun k cs h => getApp (getApp h)
    have wl : L.length + 2 < M1.length := (List.getElem?_eq_some_iff.1 hk1).1
    rw [← eL6]
    refine lt_meas (α := Nat × List Fg × List (Option ABlk)) (fun a => [(0, I n), (1, .slice q l.length c), (5, .pointer (some ⟨nb H 0, 0, none⟩)), (9, .slice (some ⟨nb H 2, 0, none⟩) n n), (13, .pointer (some ⟨nb H (L.length + 1), 0, none⟩)), (16, .slice (some ⟨nb H (M1.length + 1), 0, none⟩) n n), (57, .pointer (some ⟨nb H (L.length + 2), 0, none⟩)), (67, .slice pp (idxs T ks[j].1 n).length (idxs T ks[j].1 n).length), (68, I (idxs T ks[j].1 n).length), (69, I a.1)]) (fun a => ext H H.fresh a.2.2)
      (fun a => (a.1 ≤ (idxs T ks[j].1 n).length ∧ a.2.1.length = n ∧ (∀ i : Nat, ((∃ j' ∈ seen, ∃ p, ks[j']? = some p ∧ (i : Int) ∈ idxs T p.1 n) ∨ (i : Int) ∈ (idxs T ks[j].1 n).take a.1) → a.2.1[i]? = some (amongL r n l i))) ∧
        (a.2.2[0]? = some (some (.cells (ruL r) 0 false false)) ∧ a.2.2[2]? = some (some (rwB T 9 false)) ∧ a.2.2[3]? = some (some (pairM fgV id ks)) ∧ a.2.2[L.length]? = some (some (fgB a.2.1)) ∧
          a.2.2[L.length + 1]? = some (some (.cells [.slice (some ⟨nb H L.length, 0, none⟩) n n] 0 false false)) ∧ a.2.2[L.length + 2]? = some (some (.miter (some (nb H 3)) ks.length (seen ++ [j]) ks.length)) ∧ a.2.2[M1.length + 1]? = some (some (rwB W 9 false))) ∧ Grp H a.2.2 T n ks)
      (fun a => (idxs T ks[j].1 n).length - a.1) (fun a ha ih => ?_) (0, A, L6) ⟨⟨by simp, hAl, fun i h => hgood i (h.elim id fun h => by simp at h)⟩, ⟨w0, w2, w3, wA, wc, wI, wW⟩, wK⟩ (by repeat (first | exact sub_nil | apply sub_cons rfl)) (.refl _)
    obtain ⟨u, A', M'⟩ := a
    obtain ⟨⟨hu, hAl', hgood'⟩, ⟨x0, x2, x3, xA, xc, xI, xW⟩, xK⟩ := ha
    simp only at hu hAl' hgood' x0 x2 x3 xA xc xI xW xK ih ⊢
    have ih4 := fun u' A'' M'' a1 a2 a3 a4 => ih (u', A'', M'') a1 ⟨a2, a3, a4⟩
    simp only at ih4
    clear ih
    apply ct_seq
    apply ct_region
    apply seq_plain; exact do_binInt rfl rfl rfl trivial; exact rfl
    apply seq_nil
    apply ct_seq
    refine ct_cond rfl (fun h2 => ?_) (fun h2 => ?_)
    · simp only [decide_eq_true_eq, Int.ofNat_lt] at h2
      obtain ⟨i0, hi0, ei0, hf0⟩ := mem_idxs.1 (List.getElem_mem h2)
      have hb0 : 0 ≤ (idxs T ks[j].1 n)[u] ∧ (idxs T ks[j].1 n)[u] < n := by rw [ei0]; omega
      have hn0 : ((idxs T ks[j].1 n)[u]).toNat = i0 := by rw [ei0]; omega
      have hw0 : ((idxs T ks[j].1 n)[u]).toNat < W.length := by omega
      have ha0 : ((idxs T ks[j].1 n)[u]).toNat < A'.length := by omega
      obtain ⟨d1, d2, d3, d4, d5, d6, d7, d8, d9⟩ := hWb _ hw0
      obtain ⟨xl, _⟩ := xK.lst ks[j] (List.getElem_mem hj)
      obtain ⟨pp', e', xsl, _⟩ := xl.slice (lo := H.fresh) (fun _ => rfl)
      rw [epp] at e'
      obtain rfl : pp = pp' := by injection e'
      obtain ⟨bo, oo, cso, zo, so, roo, rfl, hgo, hwo⟩ := xsl.out (by intro e; rw [e] at h2; simp at h2)
      apply ct_skip
      apply ct_seq
      apply ct_block
      apply ct_seq
      apply ct_region
      apply seq_plain; exact do_indexAddrS rfl rfl rfl (by exact idx_nat (by omega)); exact rfl
      apply seq_plain; exact do_load rfl (by assumption) rfl (by exact pt_sl0 (by assumption) (by omega)); exact rfl
      apply seq_plain; exact do_assign rfl; exact rfl
      apply seq_nil
      apply ct_seq
      apply ct_draw (by assumption); decide +kernel
      apply sd_look (hfree := rfl); exact do_load rfl (by exact ext_get_new (getApp (by assumption))) rfl (by exact rfl); exact rfl
      apply sd_plain (hfree := rfl); intro _; exact do_move rfl; exact rfl
      apply sd_plain (hfree := rfl); intro _; exact do_move rfl; exact rfl
      apply sd_plain (hfree := rfl); intro _; exact do_move rfl; exact rfl
      apply sd_plain (hfree := rfl); intro _; exact do_indexAddrS rfl rfl rfl (by exact idx_int (by omega)); exact rfl
      apply sd_look (hfree := rfl); exact do_load rfl (by exact ext_get_new (getApp (by assumption))) rfl (by exact pt_flat rw9_len (by omega)); exact rfl
      apply sd_call (ht := rfl); exact figures_c (x := W[((idxs T ks[j].1 n)[u]).toNat]) (by omega) (by omega); exact rfl
      apply sd_plain (hfree := rfl); intro _; exact do_indexAddrS rfl rfl rfl (by exact idx_int (by omega)); exact rfl
      refine sd_putQ (k := L.length) rfl (by decide +kernel) hc (List.getElem?_eq_some_iff.1 xA).1 (do_store rfl rfl (ext_get_new xA) rfl (stl_elem fg_len (fun _ => rfl) ha0) (nb_own _)) (fun M2 hl2 ho2 hk2 => ?_)
      have y0 := (ho2 0 (by omega)).trans x0
      have yc := (ho2 (L.length + 1) (by omega)).trans xc
      apply sd_nil
      apply ct_region
      apply seq_plain; exact do_load rfl (by exact ext_get_new (getApp (by assumption))) rfl (by exact rfl); exact rfl
      apply seq_plain; exact do_move rfl; exact rfl
      apply seq_plain; exact do_indexAddrS rfl rfl rfl (by exact idx_int (by omega)); exact rfl
      apply seq_plain; exact do_fieldAddr rfl rfl; exact rfl
      refine seq_putQC (k := L.length) hc (List.getElem?_eq_some_iff.1 (getApp hk2)).1 (do_store rfl rfl (ext_get_new (getApp hk2)) rfl (stl_flat (f := fg) (w := 3) (j := 2) (x' := figA W[((idxs T ks[j].1 n)[u]).toNat]) fg_len (by rw [List.length_set]; exact ha0) (by omega) (by rw [List.getElem_set_self]; rfl) rfl rfl) (nb_own _)) (fun M3 hl3 ho3 hk3 => ?_)
      rw [List.set_set] at hk3
      have hfin : amongL r n l ((idxs T ks[j].1 n)[u]).toNat = figA W[((idxs T ks[j].1 n)[u]).toNat] := hWa _ hw0 (by rw [hn0]; exact hf0)
      apply ct_region
      apply seq_plain; exact do_succ rfl (by omega); exact rfl
      apply seq_plain; exact do_move rfl; exact rfl
      apply seq_nil
      refine lt_to (by repeat (first | exact sub_nil | apply sub_cons rfl)) (.refl _) (ih4 (u + 1) (A'.set ((idxs T ks[j].1 n)[u]).toNat (figA W[((idxs T ks[j].1 n)[u]).toNat])) M3 (by omega) ⟨by omega, by rw [List.length_set]; exact hAl', fun i hi => ?_⟩
        ⟨(ho3 0 (by omega)).trans (getApp y0), (ho3 2 (by omega)).trans (getApp ((ho2 2 (by omega)).trans x2)), (ho3 3 (by omega)).trans (getApp ((ho2 3 (by omega)).trans x3)), hk3,
          (ho3 _ (by omega)).trans (getApp yc), (ho3 _ (by omega)).trans (getApp ((ho2 _ (by omega)).trans xI)), (ho3 _ (by omega)).trans (getApp ((ho2 _ (by omega)).trans xW))⟩ ?_)
      · by_cases e : ((idxs T ks[j].1 n)[u]).toNat = i
        · rw [← e, List.getElem?_set_self ha0, hfin]
        · rw [List.getElem?_set_ne e]
          refine hgood' i (hi.imp id fun h => ?_)
          rw [take_snoc h2, List.mem_append, List.mem_singleton] at h
          rcases h with h | h
          · exact h
          · exact absurd (by omega) e
      · have ne : ∀ (k : Nat) cs, M'[k]? = some (some (ABlk.cells cs 1 true false)) → k ≠ L.length := fun k cs h e => by
          subst e
          rw [xA] at h
          exact absurd (ABlk.cells.inj (Option.some.inj (Option.some.inj h))).2.1 (by decide)
        exact xK.move fun k cs h => (ho3 k (ne k cs h)).trans (getApp ((ho2 k (ne k cs h)).trans h))
    · have h2 : u = (idxs T ks[j].1 n).length := by simp at h2; omega
      apply ct_exit
      apply exit_eq; exact rfl
      refine lt_to (by repeat (first | exact sub_nil | apply sub_cons rfl)) (.refl _) (ih' (seen ++ [j]) A' M' (by simp only [List.length_append, List.length_singleton]; omega) ⟨?_, ?_, hAl', fun i hi => ?_⟩ ⟨x0, x2, x3, xA, xc, xI⟩ xK)
      · rw [List.nodup_append]
        refine ⟨hnd, by simp, fun x hx y hy e => hs2 ?_⟩
        rw [List.mem_singleton] at hy
        rw [← hy, ← e]; exact hx
      · intro x hx
        rcases List.mem_append.1 hx with h | h
        · exact hlt x h
        · rw [List.mem_singleton] at h; rw [h]; exact hj
      · obtain ⟨j', hj', p, hp, hm⟩ := hi
        rcases List.mem_append.1 hj' with h | h
        · exact hgood' i (.inl ⟨j', h, p, hp, hm⟩)
        · rw [List.mem_singleton] at h
          subst h
          rw [List.getElem?_eq_getElem hj, Option.some.injEq] at hp
          subst hp
          refine hgood' i (.inr ?_)
          rw [h2, List.take_of_length_le (Nat.le_refl _)]; exact hm
  have hallA : ∀ i, i < n → A[i]? = some (amongL r n l i) := fun i hi => by
    obtain ⟨j, hj, hm⟩ := mK.key hi (by omega)
    exact hgood i ⟨j, hall j hj, ks[j], List.getElem?_eq_getElem hj, hm⟩
  have eam : (fun i => A[i]?.getD (0, 0, 0)) = amongL r n l := by
    funext i
    by_cases h : i < n
    · rw [hallA i h]; rfl
    · rw [List.getElem?_eq_none (by omega)]
      unfold amongL
      simp only [Option.getD_none]
      rw [List.getElem?_eq_none (by rw [rowsF_len]; omega)]
  apply seq_plain; exact do_extract rfl rfl; exact rfl
  apply seq_nil
  apply ct_seq
  refine ct_cond_f rfl rfl ?_
  apply ct_exit
  apply exit_eq; exact rfl
  apply ct_seq
  apply ct_region
  apply seq_plain; exact do_makeFunc rfl rfl; exact rfl
  apply seq_plain; exact do_assign rfl; exact rfl
  apply seq_nil
  apply ct_seq
  apply ct_region
  apply seq_plain; exact do_move rfl; exact rfl
  apply seq_plain; exact do_move rfl; exact rfl
  have tm : ∀ x ∈ T, (0 ≤ x.team ∧ x.team < n) ∧ ((0 ≤ x.fr ∧ x.fr ≤ 99000000) ∧ (0 ≤ x.ag ∧ x.ag ≤ 99000000)) := fun x hx => by
    obtain ⟨i, hi, rfl⟩ := List.getElem_of_mem hx
    obtain ⟨d1, d2, d3, d4, d5, d6, d7, d8, d9⟩ := hTb i hi
    have e : T[i].team = (i : Int) := by subst hT; exact (rowsF_ok hi).team
    exact ⟨by omega, by omega⟩
  have hm2l : 2 < M.length := (List.getElem?_eq_some_iff.1 m2).1
  obtain ⟨S, hS⟩ : ∃ S, S = sortedL r n l := ⟨_, rfl⟩
  have hSl : S.length = n := by rw [hS, sorted_len]
  have hTne : T ≠ [] := fun e => by rw [e] at hTl; simp at hTl; omega
  have eS : insA (fun x y => decide (betterL (fun i => A[i]?.getD (0, 0, 0)) x y < 0)) 0 T (T.length - 1) = S := by
    have q := insA_isort (less_weak (amongL r n l)) (q := []) (m := T) (r := []) hTne
    rw [List.append_nil, List.nil_append, List.append_nil, List.nil_append] at q
    rw [eam, hS]
    subst hT
    exact q
  have hsort := sortStable_c (H := ext H H.fresh M) (T := T) (b := nb H 2) (z := 9) (c := n) (g := 27) (s := false) (caps := [.pointer (some ⟨nb H (L.length + 1), 0, none⟩)]) (cm := betterL (fun i => A[i]?.getD (0, 0, 0))) (nb_own _) (nb_lt hm2l) (ext_get_new m2) (by omega)
    (fun x hx y hy H' h' => cmpRows_c (h' _ _ (fun e => by have := nb_inj.1 e; omega) (ext_get_new mc)) (h' _ _ (fun e => by have := nb_inj.1 e; omega) (ext_get_new mA)) hAl (tm x hx).1 (tm y hy).1 (tm x hx).2 (tm y hy).2)
  rw [eS, hTl] at hsort
  refine seq_callPC (k := 2) hc hm2l rfl hsort rfl ?_
  obtain ⟨M7, e7⟩ : ∃ M7, M7 = M.set 2 (some (rwB S 9 false)) := ⟨_, rfl⟩
  have r2 : M7[2]? = some (some (rwB S 9 false)) := by rw [e7]; exact List.getElem?_set_self hm2l
  have rA : M7[L.length]? = some (some (fgB A)) := by rw [e7, List.getElem?_set_ne (by omega)]; exact mA
  have rc : M7[L.length + 1]? = some (some (.cells [.slice (some ⟨nb H L.length, 0, none⟩) n n] 0 false false)) := by rw [e7, List.getElem?_set_ne (by omega)]; exact mc
  rw [← e7]
  obtain ⟨B, hB⟩ : ∃ B, B = tableL r n l := ⟨_, rfl⟩
  have hBl : B.length = n := by rw [hB, table_len]
  have hBi : ∀ i (h : i < B.length) (h' : i < S.length), B[i] = { S[i] with rank := rankL (amongL r n l) S i } := fun i h h' => by
    subst hB; subst hS
    exact table_get (by rwa [table_len] at h)
  have hSb : ∀ i (h : i < S.length), (0 ≤ S[i].team ∧ S[i].team < n) ∧ ((0 ≤ S[i].fr ∧ S[i].fr ≤ 99000000) ∧ (0 ≤ S[i].ag ∧ S[i].ag ≤ 99000000)) := fun i h => by
    refine tm _ ?_
    have : S[i] ∈ rowsF r n l := by
      refine sorted_perm.subset ?_
      subst hS
      exact List.getElem_mem h
    rw [hT]; exact this
  apply ct_seq
  apply ct_seq
  apply ct_region
  apply seq_plain; exact do_move rfl; exact rfl
  apply seq_plain; exact do_lenS rfl rfl rfl; exact rfl
  apply seq_plain; exact do_move rfl; exact rfl
  apply seq_nil
  apply ct_block
  apply ct_loop
  refine lt_meas (α := Nat × List (Option ABlk)) (fun a => [(9, .slice (some ⟨nb H 2, 0, none⟩) n n), (19, .func (.func 27) #[] ⟨[.pointer (some ⟨nb H (L.length + 1), 0, none⟩)]⟩), (91, I n), (92, I a.1)]) (fun a => ext H H.fresh a.2)
    (fun a => a.1 ≤ n ∧ a.2[2]? = some (some (rwB (B.take a.1 ++ S.drop a.1) 9 false)) ∧ a.2[L.length]? = some (some (fgB A)) ∧ a.2[L.length + 1]? = some (some (.cells [.slice (some ⟨nb H L.length, 0, none⟩) n n] 0 false false))) (fun a => n - a.1) (fun a ha ih => ?_) (0, M7) ⟨by omega, r2, rA, rc⟩ (by repeat (first | exact sub_nil | apply sub_cons rfl)) (.refl _)
  clear r2 rA rc e7 M7 ih' hgood mI mK m0 m2 m3 mA mc hnd hlt hle hall hallA
  obtain ⟨i, M⟩ := a
  obtain ⟨hi, k2, kA, kc⟩ := ha
  simp only at hi k2 kA kc ih ⊢
  have ih' := fun i' M' a1 a2 a3 a4 a5 => ih (i', M') a1 ⟨a2, a3, a4, a5⟩
  simp only at ih'
  clear ih
  apply ct_seq
  apply ct_region
  apply seq_plain; exact do_binInt rfl rfl rfl trivial; exact rfl
  apply seq_nil
  apply ct_seq
  refine ct_cond rfl (fun h1 => ?_) (fun h1 => ?_)
  · simp only [decide_eq_true_eq, Int.ofNat_lt] at h1
    have hiB : i < B.length := by omega
    have hiS : i < S.length := by omega
    have hUl : (B.take i ++ S.drop i).length = n := by rw [mix_len (by omega)]; exact hSl
    have hiU : i < (B.take i ++ S.drop i).length := by omega
    have hUi := mix_get hiB hiS hiU
    apply ct_skip
    apply ct_seq
    apply ct_block
    apply ct_seq
    apply ct_region
    apply seq_plain; exact do_move rfl; exact rfl
    apply seq_plain; exact do_assign rfl; exact rfl
    apply seq_nil
    apply ct_seq
    apply ct_region
    apply seq_plain; exact do_move rfl; exact rfl
    apply seq_plain; exact do_move rfl; exact rfl
    apply seq_plain; exact do_move rfl; exact rfl
    apply seq_plain; exact do_succ rfl (by omega); exact rfl
    apply seq_plain; exact do_indexAddrS rfl rfl rfl (by exact idx_nat (by omega)); exact rfl
    apply seq_plain; exact do_fieldAddr rfl rfl; exact rfl
    refine seq_putQC (k := 2) hc (List.getElem?_eq_some_iff.1 k2).1 (do_store rfl rfl (ext_get_new k2) rfl (stl_flat (f := rw9) (w := 9) (j := 8) (x' := { S[i] with rank := ((i + 1 : Nat) : Int) }) rw9_len hiU (by omega) (by rw [hUi]; rfl) rfl rfl) (nb_own _)) (fun M8 hl8 ho8 hk8 => ?_)
    have t2A := (ho8 L.length (by omega)).trans kA
    have t2c := (ho8 (L.length + 1) (by omega)).trans kc
    obtain ⟨U8, eU8⟩ : ∃ U8, U8 = (B.take i ++ S.drop i).set i { S[i] with rank := ((i + 1 : Nat) : Int) } := ⟨_, rfl⟩
    rw [← eU8] at hk8
    have hU8l : U8.length = n := by rw [eU8, List.length_set]; exact hUl
    have hU8i : ∀ h : i < U8.length, U8[i] = { S[i] with rank := ((i + 1 : Nat) : Int) } := fun h => by
      subst eU8; exact List.getElem_set_self _
    have hU8k : ∀ k (h : k < U8.length) (_ : k < i) (h' : k < B.length), U8[k] = B[k] := fun k h hki h' => by
      subst eU8
      rw [List.getElem_set_ne (by omega)]
      exact mix_low hki hiB _
    have hnext : ∀ x : Rw, x = B[i] → U8.set i x = B.take (i + 1) ++ S.drop (i + 1) := fun x e => by
      rw [eU8, List.set_set, e]
      exact mix_set hiB hiS
    have hself : U8.set i { S[i] with rank := ((i + 1 : Nat) : Int) } = U8 := by rw [eU8, List.set_set]
    apply ct_seq
    apply ct_draw (by assumption); decide +kernel
    apply sd_plain (hfree := rfl); intro _; exact do_move rfl; exact rfl
    apply sd_plain (hfree := rfl); intro _; exact do_binInt rfl rfl rfl trivial; exact rfl
    apply sd_plain (hfree := rfl); intro _; exact do_move rfl; exact rfl
    refine sd_gsplit rfl rfl (fun u => ?_) (fun u => ?_)
    · have u : 0 < i := by simp at u; omega
      obtain ⟨kk, rfl⟩ : ∃ k, i = k + 1 := ⟨i - 1, by omega⟩
      have z0 : kk < U8.length := by omega
      have z1 : kk + 1 < U8.length := by omega
      have z2 : kk < S.length := by omega
      have z3 : kk < B.length := by omega
      have o1 : U8[kk] = { S[kk] with rank := rankL (amongL r n l) S kk } := (hU8k kk z0 (by omega) z3).trans (hBi kk z3 z2)
      have o2 : U8[kk + 1] = { S[kk + 1] with rank := ((kk + 1 + 1 : Nat) : Int) } := hU8i z1
      have e3 : betterL (fun i => A[i]?.getD (0, 0, 0)) U8[kk] U8[kk + 1] = betterL (amongL r n l) S[kk] S[kk + 1] := by rw [eam, o1, o2]; rfl
      apply sd_guard (hfree := rfl) (hg := rfl) (hl := rfl); intro _; exact do_move rfl; exact rfl
      apply sd_guard (hfree := rfl) (hg := rfl) (hl := rfl); intro _; exact do_move rfl; exact rfl
      apply sd_guard (hfree := rfl) (hg := rfl) (hl := rfl); intro _; exact do_move rfl; exact rfl
      apply sd_guard (hfree := rfl) (hg := rfl) (hl := rfl); intro _; exact do_pred rfl (by omega); exact rfl
      apply sd_guard (hfree := rfl) (hg := rfl) (hl := rfl); intro _; exact do_indexAddrS rfl rfl rfl (by exact idx_nat (by omega)); exact rfl
      apply sd_guardL (hfree := rfl) (hg := rfl) (hl := rfl); exact do_load rfl (by exact ext_get_new (getApp (by assumption))) rfl (by exact pt_flat rw9_len (by omega)); exact rfl
      apply sd_guard (hfree := rfl) (hg := rfl) (hl := rfl); intro _; exact do_move rfl; exact rfl
      apply sd_guard (hfree := rfl) (hg := rfl) (hl := rfl); intro _; exact do_move rfl; exact rfl
      apply sd_guard (hfree := rfl) (hg := rfl) (hl := rfl); intro _; exact do_indexAddrS rfl rfl rfl (by exact idx_nat (by omega)); exact rfl
      apply sd_guardL (hfree := rfl) (hg := rfl) (hl := rfl); exact do_load rfl (by exact ext_get_new (getApp (by assumption))) rfl (by exact pt_flat rw9_len (by omega)); exact rfl
      apply sd_gcall (hg := rfl) (hl := rfl) (ht := rfl); exact cmpRows_c (x := U8[kk]) (y := U8[kk + 1]) (ext_get_new (getApp t2c)) (ext_get_new (getApp t2A)) hAl (by rw [o1]; exact (hSb kk z2).1) (by rw [o2]; exact (hSb (kk + 1) hiS).1) (by rw [o1]; exact (hSb kk z2).2) (by rw [o2]; exact (hSb (kk + 1) hiS).2); exact rfl
      rw [e3]
      apply sd_guard (hfree := rfl) (hg := rfl) (hl := rfl); intro _; exact do_binInt rfl rfl rfl trivial; exact rfl
      apply sd_plain (hfree := rfl); intro _; exact do_pick_t rfl rfl; exact rfl
      apply sd_nil
      refine ct_cond rfl (fun h2 => ?_) (fun h2 => ?_)
      · have h2 : betterL (amongL r n l) S[kk] S[kk + 1] = 0 := by simpa using h2
        apply ct_region
        apply seq_plain; exact do_move rfl; exact rfl
        apply seq_plain; exact do_move rfl; exact rfl
        apply seq_plain; exact do_move rfl; exact rfl
        apply seq_plain; exact do_move rfl; exact rfl
        apply seq_plain; exact do_pred rfl (by omega); exact rfl
        apply seq_plain; exact do_indexAddrS rfl rfl rfl (by exact idx_nat (by omega)); exact rfl
        apply seq_plain; exact do_fieldAddr rfl rfl; exact rfl
        apply seq_plain; exact do_load rfl (by exact ext_get_new (getApp (by assumption))) rfl (by exact pt_flat1 rw9_len (by omega) rfl); exact rfl
        apply seq_plain; exact do_indexAddrS rfl rfl rfl (by exact idx_nat (by omega)); exact rfl
        apply seq_plain; exact do_fieldAddr rfl rfl; exact rfl
        refine seq_putQC (k := 2) hc (List.getElem?_eq_some_iff.1 (getApp hk8)).1 (do_store rfl rfl (ext_get_new (getApp hk8)) rfl (stl_flat (f := rw9) (w := 9) (j := 8) (x' := { S[kk + 1] with rank := U8[kk].rank }) rw9_len z1 (by omega) (by rw [o2]; rfl) rfl rfl) (nb_own _)) (fun M9 hl9 ho9 hk9 => ?_)
        apply ct_region
        apply seq_plain; exact do_succ rfl (by omega); exact rfl
        apply seq_plain; exact do_move rfl; exact rfl
        apply seq_nil
        refine lt_to (by repeat (first | exact sub_nil | apply sub_cons rfl)) (.refl _) (ih' (kk + 1 + 1) M9 (by omega) (by omega) ?_ ((ho9 _ (by omega)).trans (getApp t2A)) ((ho9 _ (by omega)).trans (getApp t2c)))
        rw [hk9, hnext _ ?_]
        rw [hBi (kk + 1) hiB hiS, rankL_succ hiS, if_pos h2, o1]
      · have h2 : ¬ betterL (amongL r n l) S[kk] S[kk + 1] = 0 := by simpa using h2
        apply ct_skip
        apply ct_region
        apply seq_plain; exact do_succ rfl (by omega); exact rfl
        apply seq_plain; exact do_move rfl; exact rfl
        apply seq_nil
        refine lt_to (by repeat (first | exact sub_nil | apply sub_cons rfl)) (.refl _) (ih' (kk + 1 + 1) _ (by omega) (by omega) ?_ (getApp t2A) (getApp t2c))
        rw [← hnext { S[kk + 1] with rank := ((kk + 1 + 1 : Nat) : Int) } (by rw [hBi (kk + 1) hiB hiS, rankL_succ hiS, if_neg h2]), hself]
        exact getApp hk8
    · have u : i = 0 := by simp at u; omega
      subst u
      apply sd_passed (hg := rfl) (hl := rfl) (hb := rfl); exact rfl
      apply sd_passed (hg := rfl) (hl := rfl) (hb := rfl); exact rfl
      apply sd_passed (hg := rfl) (hl := rfl) (hb := rfl); exact rfl
      apply sd_passed (hg := rfl) (hl := rfl) (hb := rfl); exact rfl
      apply sd_passed (hg := rfl) (hl := rfl) (hb := rfl); exact rfl
      apply sd_passed (hg := rfl) (hl := rfl) (hb := rfl); exact rfl
      apply sd_passed (hg := rfl) (hl := rfl) (hb := rfl); exact rfl
      apply sd_passed (hg := rfl) (hl := rfl) (hb := rfl); exact rfl
      apply sd_passed (hg := rfl) (hl := rfl) (hb := rfl); exact rfl
      apply sd_passed (hg := rfl) (hl := rfl) (hb := rfl); exact rfl
      apply sd_passed (hg := rfl) (hl := rfl) (hb := rfl); exact rfl
      apply sd_passed (hg := rfl) (hl := rfl) (hb := rfl); exact rfl
      apply sd_plain (hfree := rfl); intro _; exact do_pick_f rfl rfl; exact rfl
      apply sd_nil
      refine ct_cond_f rfl rfl ?_
      apply ct_skip
      apply ct_region
      apply seq_plain; exact do_succ rfl (by omega); exact rfl
      apply seq_plain; exact do_move rfl; exact rfl
      apply seq_nil
      refine lt_to (by repeat (first | exact sub_nil | apply sub_cons rfl)) (.refl _) (ih' (0 + 1) _ (by omega) (by omega) ?_ (getApp t2A) (getApp t2c))
      have q : U8 = B.take (0 + 1) ++ S.drop (0 + 1) := hself.symm.trans (hnext _ (by rw [hBi 0 hiB hiS]; rfl))
      rw [← q]
      exact getApp hk8
  · have h1 : i = n := by simp at h1; omega
    rw [h1, List.take_of_length_le (by omega), List.drop_of_length_le (by omega), List.append_nil] at k2
    apply ct_exit
    apply exit_eq; exact rfl
    apply ct_seq
    apply ct_region
    apply seq_plain; exact do_move rfl; exact rfl
    apply seq_plain; exact do_assign rfl; exact rfl
    apply seq_plain; exact do_assign rfl; exact rfl
    apply seq_nil
    apply ct_ret
    refine fin_one hc rfl k2 (rw_flat _) ?_ ⟨rfl, by rw [hB]⟩
    simp [packA, renV, renL, renOf_one (H := H) ⟨own_iff.1 (nb_own 2), nb_ge 2⟩]
end Go.Proofs.YtppflopinmkpgaaDoor
