/- Contracts: sorted keys; the balance of an account, and all of them. -/
import Derived.Test.YtfjihdlpohljbaaGreatBcC
import Derived.Test.YtfjihdlpohljbaaGreatHpC
noncomputable section
namespace Go.Proofs.YtfjihdlpohljbaaGreat
open Go Go.Den
set_option maxRecDepth 100000

theorem srtS_le (l : List (List UInt8)) : (srtS l).Pairwise fun a b => a ≤ b := by
  have := List.pairwise_mergeSort (le := fun x y : List UInt8 => decide (x ≤ y)) (fun a b c h1 h2 => by
    simp only [decide_eq_true_eq] at h1 h2 ⊢; exact List.le_trans h1 h2) (fun a b => by
    simp only [Bool.or_eq_true, decide_eq_true_eq]; exact List.le_total a b) l
  exact this.imp fun h => by simpa using h
theorem srtS_uniq {a b : List (List UInt8)} (h : a.Perm b) : srtS a = srtS b :=
  List.Perm.eq_of_pairwise (le := fun a b => a ≤ b) (fun a b _ _ h1 h2 => List.le_antisymm h1 h2) (srtS_le a) (srtS_le b) ((srtS_perm a).trans (h.trans (srtS_perm b).symm))
/-- names in their order -/
def srtN (l : List ByteArray) : List ByteArray := (srtS (l.map fun a => a.data.toList)).map strB
theorem srtN_uniq {a b : List ByteArray} (h : a.Perm b) : srtN a = srtN b := by
  unfold srtN; rw [srtS_uniq (h.map _)]
theorem srtN_len (l : List ByteArray) : (srtN l).length = l.length := by simp [srtN, srtS_len]
theorem s1_enc (l : List ByteArray) : l.flatMap s1 = (l.map fun a => a.data.toList).map encStr := by
  induction l with
  | nil => rfl
  | cons a l ih => rw [List.flatMap_cons, ih]; rfl
theorem s1_map (l : List ByteArray) : l.flatMap s1 = l.map strV := by
  induction l with
  | nil => rfl
  | cons a l ih => rw [List.flatMap_cons, ih]; rfl
theorem s1_str (l : List (List UInt8)) : (l.map strB).flatMap s1 = l.map encStr := by
  induction l with
  | nil => rfl
  | cons a l ih => rw [List.map_cons, List.flatMap_cons, ih]; rfl
set_option maxHeartbeats 1000000 in
theorem sorted_c {H : AHeap} {b1 m : Nat} {ks : List (ByteArray × Int)} (hn : ks.length ≤ 1000) (g1 : ∃ z s ro, H.get b1 = some (.cells [.map (some m)] z s ro)) (g2 : H.get m = some (balB ks)) :
    Ret Tryz.prog 47 [keysV b1] H (lstV H.fresh (srtN (ks.map (·.1)))) (lstH H 1 s1 (srtN (ks.map (·.1)))) := by
  refine fn_start Tryz.func47 rfl rfl rfl fun hc => ?_
  obtain ⟨z, s, ro, g1⟩ := g1
  apply ct_seq
  apply ct_region
  apply seq_plain; exact do_assign rfl; exact rfl
  apply seq_nil
  apply ct_seq
  apply ct_region
  apply seq_plain; exact do_move rfl; exact rfl
  refine seq_callQ rfl (collect_c (H := ext H H.fresh []) (b1 := b1) (m := m) hn ⟨z, s, ro, ext_get_old hc g1⟩ (ext_get_old hc g2)) rfl (fun v h hv => ?_)
  obtain ⟨ps, hp, rfl, rfl⟩ := hv
  have hpl := hp.length_eq
  rw [List.length_map] at hpl
  rw [← srtN_uniq hp]
  clear hp g1 g2
  rw [lstH_ext, ext_fresh]
  have hv : Lst H ([] ++ lstL 1 s1 ps) 1 s1 0 (lstV (nb H ([] : List (Option ABlk)).length) ps) ps := lst_ofL (Nat.zero_le _)
  rcases hv.out with ⟨hne, e⟩ | ⟨hne, K, _, e, hL⟩
  · rw [e, hne]
    skip
    apply seq_plain; exact do_assign rfl; exact rfl
    apply seq_nil
    apply ct_seq
    apply ct_region
    apply seq_plain; exact do_move rfl; exact rfl
    apply seq_call (ht := rfl); exact sortS0_c; exact rfl
    apply seq_nil
    apply ct_seq
    apply ct_region
    apply seq_plain; exact do_move rfl; exact rfl
    apply seq_plain; exact do_assign rfl; exact rfl
    apply seq_nil
    apply ct_ret
    have e0 : srtN [] = [] := List.length_eq_zero_iff.1 (srtN_len [])
    refine fin_flat hc rfl rfl ⟨?_, ?_⟩ <;> (rw [e0]; rfl)
  · rw [e]
    obtain ⟨L, hLe⟩ : ∃ L, L = [] ++ lstL 1 s1 ps := ⟨_, rfl⟩
    rw [← hLe] at hL ⊢
    rw [s1_enc] at hL
    have hlt : K < L.length := (List.getElem?_eq_some_iff.1 hL).1
    obtain ⟨T, hT⟩ : ∃ T, T = srtS (ps.map fun a => a.data.toList) := ⟨_, rfl⟩
    have cS : Ret Tryz.prog 82 [.slice (some ⟨nb H K, 0, none⟩) ps.length ps.length] (ext H H.fresh L) (packA []) ((ext H H.fresh L).put (nb H K) (.cells (T.map encStr) 1 true false)) := by
      have e2 : ps.length = (ps.map fun a : ByteArray => a.data.toList).length := by simp
      rw [hT]
      have := sortS_c (c := ps.length) (nb_own _) (ext_get_new (H := H) (lo := H.fresh) hL) (by rw [List.length_map]; omega)
      rwa [← e2] at this
    clear e hv hLe
    apply seq_plain; exact do_assign rfl; exact rfl
    apply seq_nil
    apply ct_seq
    apply ct_region
    apply seq_plain; exact do_move rfl; exact rfl
    refine seq_callPC (k := K) hc hlt rfl cS rfl ?_
    have hTl : (T.map strB).length = ps.length := by rw [hT, List.length_map, srtS_len, List.length_map]
    have hv : Lst H (L.set K (some (.cells (T.map encStr) 1 true false))) 1 s1 0 (.slice (some ⟨nb H K, 0, none⟩) ps.length ps.length) (T.map strB) := by
      refine ⟨.inr ⟨fun h => hne (List.length_eq_zero_iff.1 (by rw [← hTl, h]; rfl)), K, Nat.zero_le _, by rw [hTl], ?_⟩⟩
      rw [List.getElem?_set_self hlt, s1_str]
    apply ct_seq
    apply ct_region
    apply seq_plain; exact do_move rfl; exact rfl
    apply seq_plain; exact do_assign rfl; exact rfl
    apply seq_nil
    apply ct_ret
    refine fin_lst hc hv rfl (fun _ => rfl) ⟨?_, ?_⟩ <;> (unfold srtN; rw [hT])

theorem poss_ok {l : List Po} (h : possE l = 0) : l.length ≤ 256 ∧ ∀ p ∈ l, 0 ≤ p.amt ∧ p.amt ≤ 999999999 := by
  unfold possE at h
  by_cases hl : l.length > 256
  · rw [if_pos hl] at h; exact absurd h (by decide)
  · rw [if_neg hl] at h
    refine ⟨by omega, fun x hx => ?_⟩
    obtain ⟨i, hi, rfl⟩ := List.getElem_of_mem hx
    have h := restG_zero (err := fun _ x => posE x) h hi
    unfold posE at h
    have := whenL_z (firstL_allZ h (whenL (outL l[i].amt 1 999999999) 3) (by simp)) (by decide)
    simp only [outL, decide_eq_false_iff_not] at this
    omega
theorem app_right {L M : List (Option ABlk)} {k : Nat} {x : Option ABlk} (h : M[k]? = some x) : (L ++ M)[L.length + k]? = some x := by
  rw [List.getElem?_append_right (by omega), Nat.add_sub_cancel_left]; exact h
theorem putK_le {ks : List (ByteArray × Int)} {a : ByteArray} {v : Int} : (putK ks a v).length ≤ ks.length + 1 := by
  cases e : getK ks a with
  | none => rw [putK_new e]; simp
  | some u => rw [putK_len e]; omega
theorem accM_len {l : List Po} : ∀ i, i ≤ l.length → (accM (l.take i)).length ≤ 2 * i
  | 0, _ => by simp [accM]
  | i + 1, h => by
    have := accM_len (l := l) i (by omega)
    rw [accM_succ (by omega)]
    unfold accS
    have h1 := putK_le (ks := accM (l.take i)) (a := l[i].debit) (v := (getK (accM (l.take i)) l[i].debit).getD 0 + l[i].amt)
    have h2 := putK_le (ks := putK (accM (l.take i)) l[i].debit ((getK (accM (l.take i)) l[i].debit).getD 0 + l[i].amt)) (a := l[i].credit) (v := (getK (putK (accM (l.take i)) l[i].debit ((getK (accM (l.take i)) l[i].debit).getD 0 + l[i].amt)) l[i].credit).getD 0 - l[i].amt)
    simp only
    omega
def balE (l : List Po) (a : ByteArray) : Int := firstL [possE l, nameE [a]]
def balV (l : List Po) (a : ByteArray) : Int := if balE l a = 0 then balI l a else 0
set_option maxHeartbeats 1000000 in
theorem balance_c {H : AHeap} {q : Option Addr} {c : Nat} {l : List Po} {a : ByteArray} (hs : SlAt H 3 po q l) (hlow : LowS q c l.length) (hn : l.length < 1000000000000) :
    Ret Tryz.prog 16 [.slice q l.length c, .string a] H (.tuple ⟨[I (balV l a), I (balE l a)]⟩) H := by
  refine fn_start Tryz.func16 rfl rfl rfl fun hc => ?_
  apply ct_seq
  apply ct_region
  apply seq_plain; exact do_assign rfl; exact rfl
  apply seq_plain; exact do_assign rfl; exact rfl
  apply seq_nil
  apply ct_seq
  apply ct_seq
  apply ct_region
  apply seq_plain; exact do_move rfl; exact rfl
  apply seq_call (ht := rfl); exact checkPostings_c (hs.ext (ext_Ext hc)) hlow hn; exact rfl
  apply seq_plain; exact do_move rfl; exact rfl
  apply seq_newS; exact do_buildSlice rfl rfl rfl rfl rfl rfl rfl; exact rfl
  apply seq_call (ht := rfl); exact named_c (l := [_]) (slAt_map (ext_get_new rfl)) (by simp); exact rfl
  apply seq_newS; exact do_buildSlice rfl rfl rfl rfl rfl rfl rfl; exact rfl
  apply seq_call (ht := rfl); exact first84 (l := [_, _]) (slAt_map (ext_get_new rfl)) (by simp); exact rfl
  apply seq_plain; exact do_assign rfl; exact rfl
  apply seq_nil
  apply ct_seq
  apply ct_region
  apply seq_plain; exact do_move rfl; exact rfl
  apply seq_plain; exact do_binInt rfl rfl rfl trivial; exact rfl
  apply seq_nil
  have e0 : firstL [possE l, nameE [a]] = balE l a := rfl
  rw [e0]
  refine ct_cond rfl (fun h1 => ?_) (fun h1 => ?_)
  · have h1 : balE l a ≠ 0 := by simpa using h1
    apply ct_seq
    apply ct_region
    apply seq_plain; exact do_move rfl; exact rfl
    apply seq_plain; exact do_assign rfl; exact rfl
    apply seq_plain; exact do_assign rfl; exact rfl
    apply seq_nil
    apply ct_ret
    refine fin_flat hc rfl rfl ⟨?_, rfl⟩
    unfold balV
    rw [if_neg h1]; rfl
  have h1 : balE l a = 0 := by simpa using h1
  obtain ⟨h256, ha⟩ := poss_ok (firstL_allZ h1 (possE l) (by simp))
  apply ct_skip
  apply ct_seq
  apply ct_region
  apply seq_plain; exact do_move rfl; exact rfl
  refine seq_callQ rfl (balances_c (hs.ext (ext_Ext hc)) h256 ha) rfl (fun v h hv => ?_)
  obtain ⟨M, k, q1, q2, hM, rfl⟩ := hv
  rw [nb_ext]
  refine seqL_to sub_refl (grown hc q1 q2) (by simp) ?_
  have hM2 := fun L : List (Option ABlk) => app_right (L := L) hM
  clear q1 q2 hM
  apply seq_plain; exact do_move rfl; exact rfl
  apply seq_plain; exact do_pairGet (f := strV) (g := fun n : Int => I n) (ks := accM l) (a := a) (z := I 0) (v := I ((getK (accM l) a).getD 0)) rfl rfl (by exact ext_get_new (hM2 _)) rfl rfl keyStr (by cases getK (accM l) a <;> rfl); exact rfl
  apply seq_plain; exact do_assign rfl; exact rfl
  apply seq_plain; exact do_assign rfl; exact rfl
  apply seq_nil
  apply ct_ret
  refine fin_flat hc rfl rfl ⟨?_, rfl⟩
  unfold balV
  rw [h1, if_pos rfl, accM_get]; rfl
/-- an account with its balance -/
abbrev ab (x : ByteArray × Int) : List Value := [.string x.1, I x.2]
def trlV (l : List Po) : List (ByteArray × Int) := if possE l = 0 then trialL l else []
theorem trial_eq (l : List Po) : trialL l = (srtN (accK l)).map fun a => (a, balI l a) := by
  unfold trialL srtN accB
  rw [List.map_map]; rfl
theorem ab_len (x : ByteArray × Int) : (ab x).length = 2 := rfl
set_option maxHeartbeats 2000000 in
theorem trial_c {H : AHeap} {q : Option Addr} {c : Nat} {l : List Po} (hs : SlAt H 3 po q l) (hlow : LowS q c l.length) (hn : l.length < 1000000000000) :
    Ret Tryz.prog 17 [.slice q l.length c] H (.tuple ⟨[lstV H.fresh (trlV l), I (possE l)]⟩) (lstH H 2 ab (trlV l)) := by
  refine fn_start Tryz.func17 rfl rfl rfl fun hc => ?_
  apply ct_seq
  apply ct_region
  apply seq_plain; exact do_assign rfl; exact rfl
  apply seq_plain; exact do_assign rfl; exact rfl
  apply seq_nil
  apply ct_seq
  apply ct_seq
  apply ct_region
  apply seq_plain; exact do_move rfl; exact rfl
  apply seq_call (ht := rfl); exact checkPostings_c (hs.ext (ext_Ext hc)) hlow hn; exact rfl
  apply seq_plain; exact do_assign rfl; exact rfl
  apply seq_nil
  apply ct_seq
  apply ct_region
  apply seq_plain; exact do_move rfl; exact rfl
  apply seq_plain; exact do_binInt rfl rfl rfl trivial; exact rfl
  apply seq_nil
  refine ct_cond rfl (fun h1 => ?_) (fun h1 => ?_)
  · have h1 : possE l ≠ 0 := by simpa using h1
    apply ct_seq
    apply ct_region
    apply seq_plain; exact do_move rfl; exact rfl
    apply seq_plain; exact do_assign rfl; exact rfl
    apply seq_plain; exact do_assign rfl; exact rfl
    apply seq_nil
    apply ct_ret
    refine fin_flat hc rfl rfl ⟨?_, ?_⟩ <;> (unfold trlV; rw [if_neg h1]; rfl)
  have h1 : possE l = 0 := by simpa using h1
  obtain ⟨h256, ha⟩ := poss_ok h1
  have hT : trlV l = (srtN (accK l)).map fun a => (a, balI l a) := by unfold trlV; rw [if_pos h1, trial_eq]
  rw [hT, h1]
  apply ct_skip
  apply ct_seq
  apply ct_region
  apply seq_plain; exact do_move rfl; exact rfl
  refine seq_callQ rfl (balances_c (hs.ext (ext_Ext hc)) h256 ha) rfl (fun v h hv => ?_)
  obtain ⟨M, k, q1, q2, hM, rfl⟩ := hv
  rw [nb_ext]
  refine seqL_to sub_refl (grown hc q1 q2) (by simp) ?_
  simp only [List.length_nil, Nat.zero_add, List.nil_append]
  clear q1 q2
  obtain ⟨lo, hlo⟩ : ∃ lo, lo = h.low := ⟨_, rfl⟩
  rw [← hlo]
  clear hlo h
  apply seq_plain; exact do_assign rfl; exact rfl
  apply seq_nil
  apply ct_seq
  apply ct_region
  apply seq_plain; exact do_assign rfl; exact rfl
  apply seq_nil
  apply ct_seq
  apply ct_seq
  apply ct_region
  apply seq_plain; exact do_move rfl; exact rfl
  refine seq_callQ rfl (keys_c (H := ext H lo M)) rfl (fun v h hv => ?_)
  obtain ⟨q1, q2, rfl⟩ := hv
  rw [nb_ext]
  refine seqL_to sub_refl (grown hc q1 q2) (by simp) ?_
  simp only [Nat.add_zero]
  clear q1 q2
  obtain ⟨lo2, hlo⟩ : ∃ lo2, lo2 = h.low := ⟨_, rfl⟩
  rw [← hlo]
  clear hlo h lo
  obtain ⟨K, hK⟩ : ∃ K, K = srtN (accK l) := ⟨_, rfl⟩
  have aK := accM_len (l := l) l.length (Nat.le_refl _)
  rw [List.take_length] at aK
  have hKl : K.length ≤ 600 := by
    rw [hK, srtN_len]
    unfold accK
    rw [List.length_map]
    omega
  have cs := sorted_c (H := ext H lo2 (M ++ [some (bx [.map (some (nb H k))])])) (b1 := nb H M.length) (m := nb H k) (ks := accM l) (by omega) ⟨0, false, false, ext_get_new List.getElem?_concat_length⟩ (ext_get_new (getApp hM))
  rw [lstH_ext, ext_fresh] at cs
  have e0 : srtN ((accM l).map (·.1)) = K := hK.symm
  rw [e0] at cs
  rw [← hK]
  apply seq_call (ht := rfl); exact cs; exact rfl
  obtain ⟨N, hN⟩ : ∃ N, N = M ++ [some (bx [.map (some (nb H k))])] ++ lstL 1 s1 K := ⟨_, rfl⟩
  have m1 : N[k]? = some (some (balB (accM l))) := by rw [hN]; exact getApp (getApp hM)
  obtain ⟨pK, hpK⟩ : ∃ pK, pK = lstP (nb H (M ++ [some (bx [.map (some (nb H k))])]).length) K := ⟨_, rfl⟩
  obtain ⟨j, hj1, hj2⟩ : ∃ j, (K ≠ [] → pK = some ⟨nb H j, 0, none⟩) ∧ (K ≠ [] → N[j]? = some (some (.cells (K.map strV) 1 true false))) := by
    refine ⟨(M ++ [some (bx [.map (some (nb H k))])]).length, fun h => ?_, fun h => ?_⟩
    · rw [hpK]
      cases K with
      | nil => exact absurd rfl h
      | cons a r => rfl
    · rw [hN]
      cases K with
      | nil => exact absurd rfl h
      | cons a r => rw [← s1_map]; exact List.getElem?_concat_length
  have e1 : lstV (nb H (M ++ [some (bx [.map (some (nb H k))])]).length) K = .slice pK K.length K.length := by rw [hpK]; rfl
  rw [← hN, e1]
  clear hN hpK e1 cs e0 hK hM aK
  apply seq_plain; exact do_lenS rfl rfl rfl; exact rfl
  apply seq_plain; exact do_move rfl; exact rfl
  apply seq_nil
  apply ct_block
  apply ct_loop
  refine lt_meas (α := Nat × Value × List (Option ABlk)) (fun a => [(5, .map (some (nb H k))), (6, a.2.1), (18, .slice pK K.length K.length), (19, I K.length), (20, I a.1)]) (fun a => ext H lo2 a.2.2) (fun a => a.1 ≤ K.length ∧ Lst H a.2.2 2 ab 0 a.2.1 ((K.take a.1).map fun a => (a, balI l a)) ∧ a.2.2[k]? = some (some (balB (accM l))) ∧ (K ≠ [] → a.2.2[j]? = some (some (.cells (K.map strV) 1 true false)))) (fun a => K.length - a.1) (fun a hx ih => ?_) (0, .slice none 0 0, N) ⟨by omega, .nil, m1, hj2⟩ (by repeat (first | exact sub_nil | apply sub_cons rfl)) (.refl _)
  clear m1 hj2 N
  obtain ⟨i, v, L⟩ := a
  obtain ⟨hi, hv, m1, hj2⟩ := hx
  simp only at hi hv m1 hj2 ih ⊢
  have ih' := fun i' v' L' a1 a2 a3 a4 a5 => ih (i', v', L') a1 ⟨a2, a3, a4, a5⟩
  simp only at ih'
  clear ih
  apply ct_seq
  apply ct_region
  apply seq_plain; exact do_binInt rfl rfl rfl trivial; exact rfl
  apply seq_nil
  apply ct_seq
  refine ct_cond rfl (fun h2 => ?_) (fun h2 => ?_)
  · simp only [decide_eq_true_eq, Int.ofNat_lt] at h2
    have hne : K ≠ [] := by intro e; rw [e] at h2; simp at h2
    have hj3 := hj1 hne
    have hj4 := hj2 hne
    rw [hj3] at ih' ⊢
    have eg := accM_get l K[i]
    have st : ((K.take (i + 1)).map fun a => (a, balI l a)) = ((K.take i).map fun a => (a, balI l a)) ++ [(K[i], balI l K[i])] := by rw [take_snoc h2, List.map_append]; rfl
    have hlen : ((K.take i).map fun a => (a, balI l a)).length ≤ 600 := by rw [List.length_map, List.length_take]; omega
    apply ct_skip
    apply ct_seq
    apply ct_block
    apply ct_seq
    apply ct_region
    apply seq_plain; exact do_indexAddrS rfl rfl rfl (by exact idx_nat (by omega)); exact rfl
    apply seq_plain; exact do_load rfl (by exact ext_get_new (by assumption)) rfl (by exact pt_map (by omega)); exact rfl
    apply seq_plain; exact do_assign rfl; exact rfl
    apply seq_nil
    apply ct_region
    apply seq_plain; exact do_move rfl; exact rfl
    apply seq_plain; exact do_move rfl; exact rfl
    apply seq_plain; exact do_move rfl; exact rfl
    apply seq_plain; exact do_move rfl; exact rfl
    apply seq_plain; exact do_pairGet (f := strV) (g := fun n : Int => I n) (ks := accM l) (a := K[i]) (z := I 0) (v := I ((getK (accM l) K[i]).getD 0)) rfl rfl (by exact ext_get_new m1) rfl rfl keyStr (by cases getK (accM l) K[i] <;> rfl); exact rfl
    rw [eg]
    skip
    apply seq_plain; exact do_build rfl rfl rfl rfl; exact rfl
    apply seq_newS; exact do_buildSlice rfl rfl rfl rfl rfl rfl rfl; exact rfl
    refine seq_growK (xs := [(K[i], balI l K[i])]) hc (hv.app _) (Nat.zero_le _) (fun _ => rfl) (fun _ => rfl) rfl rfl rfl rfl rfl rfl (ext_get_new List.getElem?_concat_length) rfl (by simp) ?_ (Nat.ne_of_beq_eq_false rfl) (Nat.ne_of_beq_eq_false rfl) rfl (fun v2 L3 hv' hst3 hlen3 => ?_)
    · exact Nat.le_trans (Nat.mul_le_mul_right _ (by simp only [List.length_cons, List.length_nil]; omega : _ ≤ 30000)) (Nat.le_of_ble_eq_true rfl)
    rw [← st] at hv'
    have n1 : L3[k]? = some (some (balB (accM l))) := hst3 _ _ (getApp m1) fun _ => by intro h; cases h
    have n2 : L3[j]? = some (some (.cells (K.map strV) 1 true false)) := hst3 _ _ (getApp hj4) fun _ => by simp
    apply seq_plain; exact do_assign rfl; exact rfl
    apply seq_nil
    apply ct_region
    apply seq_plain; exact do_succ rfl (by omega); exact rfl
    apply seq_plain; exact do_move rfl; exact rfl
    apply seq_nil
    exact lt_to (by repeat (first | exact sub_nil | apply sub_cons rfl)) (.refl _) (ih' (i + 1) v2 L3 (by omega) (by omega) hv' n1 (fun _ => n2))
  have h2 : i = K.length := by simp at h2; omega
  subst h2
  rw [List.take_length] at hv
  clear ih'
  apply ct_exit
  apply exit_eq; exact rfl
  apply ct_seq
  apply ct_region
  apply seq_plain; exact do_move rfl; exact rfl
  apply seq_plain; exact do_assign rfl; exact rfl
  apply seq_plain; exact do_assign rfl; exact rfl
  apply seq_nil
  apply ct_ret
  exact fin_lst2 hc hv rfl (fun _ => rfl) ⟨rfl, rfl⟩
end Go.Proofs.YtfjihdlpohljbaaGreat
