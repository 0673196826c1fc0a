/- Contract: Assign, up to 24 bookings. -/
import Derived.Test.YtflbffhahoblfaaGreatDoorAsE
import Derived.Test.YtflbffhahoblfaaGreatDoorSmE
noncomputable section
namespace Go.Proofs.YtflbffhahoblfaaGreatDoor
open Go Go.Den
set_option maxRecDepth 100000
set_option maxHeartbeats 16000000 in
theorem Assign24_c {H : AHeap} {q r : Option Addr} {c d : Nat} {t : List Tb} {l : List Bk} (hs : SlAt H 2 tb q t) (hlow : LowS q c t.length) (hn : t.length < 1000000) (hr : SlAt H 4 bk r l) (hlow2 : LowS r d l.length) (hq : OldS H r) (hm0 : l.length < 1000000) (hm : bothE t l = 0 → l.length ≤ 24) :
    Ret Tryz.prog 8 [.slice q t.length c, .slice r l.length d] H (asgVal H t l) (asgH H t l) := by
  refine fn_start Tryz.func8 rfl rfl rfl fun hc => ?_
  apply ct_seq
  apply ct_region
  apply seq_newP; exact do_box rfl rfl rfl; exact rfl
  iterate 2 (apply seq_plain; exact do_assign rfl; exact rfl)
  apply seq_nil
  iterate 2 (apply ct_seq)
  apply ct_region
  apply seq_plain; exact do_move rfl; exact rfl
  apply seq_plain; exact do_load rfl (by exact ext_get_new rfl) rfl (by exact rfl); exact rfl
  apply seq_call (ht := rfl); exact checkBoth_c (hs.ext (ext_Ext hc)) hlow (by omega) (hr.ext (ext_Ext hc)) hlow2 (by omega); exact rfl
  apply seq_newS; exact do_buildSlice rfl rfl rfl rfl rfl rfl rfl; exact rfl
  apply seq_call (ht := rfl); exact first84 (l := [_]) (slAt_map (ext_get_new rfl)) (by simp); exact rfl
  apply seq_plain; exact do_assign rfl; exact rfl
  apply seq_nil
  apply ct_seq
  apply ct_region
  apply seq_plain; exact do_move rfl; exact rfl
  apply seq_plain; exact do_binInt rfl rfl rfl trivial; exact rfl
  apply seq_nil
  rw [first1_z]
  refine ct_cond rfl (fun h1 => ?_) (fun h1 => ?_)
  · have h1 : bothE t l ≠ 0 := by simpa using h1
    have e : asgX t l = bothE t l := if_pos h1
    have e1 : asgVal H t l = .tuple ⟨[.slice none 0 0, I (bothE t l)]⟩ := by unfold asgVal; rw [e, if_neg h1]
    have e2 : asgH H t l = H := by unfold asgH; rw [e, if_neg h1]
    rw [e1, e2]
    apply ct_seq
    apply ct_region
    apply seq_plain; exact do_move rfl; exact rfl
    iterate 2 (apply seq_plain; exact do_assign rfl; exact rfl)
    apply seq_nil
    apply ct_ret
    exact fin_flat hc rfl rfl ⟨rfl, rfl⟩
  have h1 : bothE t l = 0 := by simpa using h1
  have hm := hm h1
  apply ct_skip
  iterate 2 (apply ct_seq)
  apply ct_region
  apply seq_plain; exact do_move rfl; exact rfl
  apply seq_plain; exact do_load rfl (by exact ext_get_new rfl) rfl (by exact rfl); exact rfl
  apply seq_call (ht := rfl); exact fit_c (hs.ext (ext_Ext hc)) (by omega) (hr.ext (ext_Ext hc)) hq.ext (by omega); exact rfl
  apply seq_plain; exact do_unOp rfl rfl; exact rfl
  apply seq_nil
  refine ct_cond rfl (fun h2 => ?_) (fun h2 => ?_)
  · have h2 : fitB t l = false := by simpa using h2
    have e : asgX t l = 23 := by
      unfold asgX
      rw [if_neg (by rw [h1]; simp), if_neg (by rw [h2]; simp)]
    have e1 : asgVal H t l = .tuple ⟨[.slice none 0 0, I 23]⟩ := by unfold asgVal; rw [e]; rfl
    have e2 : asgH H t l = H := by unfold asgH; rw [e]; rfl
    rw [e1, e2]
    apply ct_seq
    apply ct_region
    iterate 2 (apply seq_plain; exact do_assign rfl; exact rfl)
    apply seq_nil
    apply ct_ret
    exact fin_flat hc rfl rfl ⟨rfl, rfl⟩
  have h2 : fitB t l = true := by simpa using h2
  have e : asgX t l = 0 := by
    unfold asgX
    rw [if_neg (by rw [h1]; simp), if_pos h2]
  have ok := both_ok h1
  have hfit := ok.fit.1 h2
  have e1 : asgVal H t l = .tuple ⟨[.slice (some ⟨H.fresh, 0, none⟩) l.length l.length, I 0]⟩ := by unfold asgVal; rw [e]; rfl
  have e2 : asgH H t l = H.add (.cells ((asgV t l).map I) 1 false false) := by unfold asgH; rw [e]; rfl
  rw [e1, e2]
  clear e e1 e2 h1 h2
  have ht64 := ok.tlen
  have hinv := asg_inv ok.ok hfit
  apply ct_skip
  apply ct_seq
  apply ct_region
  apply seq_plain; exact do_load rfl (by exact ext_get_new rfl) rfl (by exact rfl); exact rfl
  apply seq_plain; exact do_lenS rfl rfl rfl; exact rfl
  apply seq_newS; exact mk33 rfl (by omega); exact rfl
  apply seq_plain; exact do_assign rfl; exact rfl
  apply seq_nil
  apply ct_seq
  apply ct_region
  apply seq_plain; exact do_load rfl (by exact ext_get_new rfl) rfl (by exact rfl); exact rfl
  apply seq_plain; exact do_lenS rfl rfl rfl; exact rfl
  apply seq_newS; exact mk33 rfl (by omega); exact rfl
  apply seq_plain; exact do_assign rfl; exact rfl
  apply seq_nil
  iterate 2 (apply ct_seq)
  apply ct_region
  apply seq_plain; exact do_load rfl (by exact ext_get_new rfl) rfl (by exact rfl); exact rfl
  apply seq_plain; exact do_lenS rfl rfl rfl; exact rfl
  apply seq_plain; exact do_move rfl; exact rfl
  apply seq_nil
  apply ct_block
  apply ct_loop
  refine lt_meas (α := Nat × List Int × List Int × List (Option ABlk)) (fun a => [(0, .slice q t.length c), (3, .pointer (some ⟨nb H 0, 0, none⟩)), (7, .slice (some ⟨nb H 2, 0, none⟩) l.length l.length), (8, .slice (some ⟨nb H 3, 0, none⟩) l.length l.length), (31, I l.length), (32, I a.1)]) (fun a => ext H H.fresh a.2.2.2) (fun a => a.1 ≤ l.length ∧ a.2.1.length = l.length ∧ a.2.2.1.length = l.length ∧ (∀ j (h : j < a.2.1.length), j < a.1 → a.2.1[j] = -1) ∧ (∀ j (h : j < a.2.2.1.length), j < a.1 → a.2.2.1[j] = (j : Int)) ∧ a.2.2.2[0]? = some (some (.cells [.slice r l.length d] 0 false false)) ∧ a.2.2.2[2]? = some (some (.cells (a.2.1.map I) 1 false false)) ∧ a.2.2.2[3]? = some (some (.cells (a.2.2.1.map I) 1 false false))) (fun a => l.length - a.1) (fun a ha ih => ?_) (0, List.replicate l.length 0, List.replicate l.length 0, _) ?_ (by repeat (first | exact sub_nil | apply sub_cons rfl)) (.refl _)
  rotate_left
  · exact ⟨Nat.zero_le _, by simp, by simp, fun _ _ h => absurd h (Nat.not_lt_zero _), fun _ _ h => absurd h (Nat.not_lt_zero _), rfl, rfl, rfl⟩
  obtain ⟨i, A, O, L⟩ := a
  obtain ⟨hi, hAl, hOl, hA, hO, l0, l2, l3⟩ := ha
  simp only at hi hAl hOl hA hO l0 l2 l3 ih ⊢
  have ih' := fun i' A' O' L' a1 a2 a3 a4 a5 a6 a7 a8 a9 => ih (i', A', O', L') a1 ⟨a2, a3, a4, a5, a6, a7, a8, a9⟩
  simp only at ih'
  clear ih
  apply ct_seq
  apply ct_region
  apply seq_plain; exact do_binInt rfl rfl rfl trivial; exact rfl
  apply seq_nil
  apply ct_seq
  refine ct_cond rfl (fun h1 => ?_) (fun h1 => ?_)
  · simp only [decide_eq_true_eq, Int.ofNat_lt] at h1
    have hiA : i < A.length := by omega
    have hiO : i < O.length := by omega
    apply ct_skip
    apply ct_seq
    apply ct_block
    apply ct_seq
    apply ct_region
    apply seq_plain; exact do_move rfl; exact rfl
    apply seq_plain; exact do_assign rfl; exact rfl
    apply seq_nil
    apply ct_region
    iterate 5 (apply seq_plain; exact do_move rfl; exact rfl)
    apply seq_plain; exact do_indexAddrS rfl rfl rfl (by exact idx_nat (by omega)); exact rfl
    refine seq_putQ (k := 2) hc (List.getElem?_eq_some_iff.1 l2).1 (do_store rfl rfl (ext_get_new l2) rfl (stl_map (g := I) (v := -1) hiA rfl rfl) (nb_own _)) (fun M hl2 ho2 hk2 => ?_)
    have m3 : M[3]? = some (some (.cells (O.map I) 1 false false)) := by rw [ho2 3 (by decide)]; exact l3
    have m0 : M[0]? = some (some (.cells [.slice r l.length d] 0 false false)) := by rw [ho2 0 (by decide)]; exact l0
    apply seq_plain; exact do_indexAddrS rfl rfl rfl (by exact idx_nat (by omega)); exact rfl
    refine seq_putQC (k := 3) hc (List.getElem?_eq_some_iff.1 m3).1 (do_store rfl rfl (ext_get_new m3) rfl (stl_map (g := I) (v := (i : Int)) hiO rfl rfl) (nb_own _)) (fun M2 hl3 ho3 hk3 => ?_)
    apply ct_region
    apply seq_plain; exact do_succ rfl (by omega); exact rfl
    apply seq_plain; exact do_move rfl; exact rfl
    apply seq_nil
    refine lt_to (by repeat (first | exact sub_nil | apply sub_cons rfl)) (.refl _) (ih' (i + 1) (A.set i (-1)) (O.set i (i : Int)) M2 (by omega) (by omega) (by rw [List.length_set]; exact hAl) (by rw [List.length_set]; exact hOl) (fun j hj hji => ?_) (fun j hj hji => ?_) (by rw [ho3 0 (by decide)]; exact m0) (by rw [ho3 2 (by decide)]; exact hk2) hk3)
    · rw [List.getElem_set]
      split
      · rfl
      · exact hA j (by rw [List.length_set] at hj; exact hj) (by omega)
    · rw [List.getElem_set]
      split
      · rename_i e; rw [e]
      · exact hO j (by rw [List.length_set] at hj; exact hj) (by omega)
  have h1 : i = l.length := by simp at h1; omega
  subst h1
  clear ih' hi
  have eA : A = asgA t l 0 := by
    show A = List.replicate l.length (-1)
    rw [List.eq_replicate_iff]
    refine ⟨hAl, fun x hx => ?_⟩
    obtain ⟨j, hj, rfl⟩ := List.getElem_of_mem hx
    exact hA j hj (by omega)
  have eT : (natZ (List.range l.length)).length = l.length := by rw [natZ_len, List.length_range]
  have eO : O = natZ (List.range l.length) := by
    refine List.ext_getElem (by rw [eT]; exact hOl) fun j h1 h2 => ?_
    rw [hO j h1 (by omega)]
    simp [natZ]
  subst eA eO
  clear hA hO hAl hOl
  have hL3 : 3 < L.length := (List.getElem?_eq_some_iff.1 l3).1
  have hnl : (natZ (ordL l)).length = l.length := by rw [natZ_len, ordL_len]
  have cS : Ret Tryz.prog 40 [.slice (some ⟨nb H 3, 0, none⟩) l.length l.length, .func (.func 41) #[] ⟨[.pointer (some ⟨nb H 0, 0, none⟩)]⟩] (ext H H.fresh L) (packA []) ((ext H H.fresh L).put (nb H 3) (inZ (natZ (ordL l)) 1 false)) := by
    have := sortOrd_c (H := ext H H.fresh L) (l := l) (c := l.length) (caps := [.pointer (some ⟨nb H 0, 0, none⟩)]) (g := 41) (nb_own 3) (by rw [ext_fresh]; simp only [nb]; omega) (ext_get_new l3) hm fun x hx y hy H' h' => by
      have bd : ∀ x ∈ natZ (List.range l.length), 0 ≤ x ∧ x < l.length := fun x hx => by
        unfold natZ at hx
        obtain ⟨k, hk, rfl⟩ := List.mem_map.1 hx
        have := List.mem_range.1 hk
        omega
      have bx := bd x hx
      obtain ⟨bq, oq, cq, zq, sq, rq, e, hg, hw⟩ := hr.out (by intro e; rw [e] at bx; simp at bx; omega)
      have hne : bq ≠ nb H 3 := fun e2 => by
        have := hc (nb H 3) (own_iff.1 (nb_own 3)) (nb_ge 3)
        rw [← e2, hg] at this; cases this
      refine assign1_c (r := r) (d := d) ⟨fun _ => ⟨bq, oq, cq, zq, sq, rq, e, h' bq _ hne (ext_get_old hc hg), hw⟩⟩ (h' (nb H 0) _ (fun e => absurd (nb_inj.1 e) (by decide)) (ext_get_new l0)) bx (bd y hy)
    exact this
  apply ct_exit
  apply exit_eq; exact rfl
  apply ct_seq
  apply ct_region
  apply seq_plain; exact do_move rfl; exact rfl
  apply seq_plain; exact do_makeFunc rfl rfl; exact rfl
  refine seq_callPC (k := 3) hc hL3 rfl cS rfl ?_
  obtain ⟨M, hM⟩ : ∃ M, M = L.set 3 (some (inZ (natZ (ordL l)) 1 false)) := ⟨_, rfl⟩
  have m3 : M[3]? = some (some (.cells ((natZ (ordL l)).map I) 1 false false)) := by rw [hM]; exact List.getElem?_set_self hL3
  have m2 : M[2]? = some (some (.cells ((asgA t l 0).map I) 1 false false)) := by rw [hM, List.getElem?_set_ne (by decide)]; exact l2
  have m0 : M[0]? = some (some (.cells [.slice r l.length d] 0 false false)) := by rw [hM, List.getElem?_set_ne (by decide)]; exact l0
  rw [← hM]
  clear hM cS l0 l2 l3 hL3
  iterate 2 (apply ct_seq)
  apply ct_region
  apply seq_plain; exact do_move rfl; exact rfl
  apply seq_plain; exact do_lenS rfl rfl rfl; exact rfl
  apply seq_plain; exact do_move rfl; exact rfl
  apply seq_nil
  apply ct_block
  apply ct_loop
  refine lt_meas (α := Nat × List (Option ABlk)) (fun a => [(0, .slice q t.length c), (3, .pointer (some ⟨nb H 0, 0, none⟩)), (7, .slice (some ⟨nb H 2, 0, none⟩) l.length l.length), (46, .slice (some ⟨nb H 3, 0, none⟩) l.length l.length), (47, I l.length), (48, I a.1)]) (fun a => ext H H.fresh a.2) (fun a => a.1 ≤ l.length ∧ a.2[0]? = some (some (.cells [.slice r l.length d] 0 false false)) ∧ a.2[2]? = some (some (.cells ((asgA t l a.1).map I) 1 false false)) ∧ a.2[3]? = some (some (.cells ((natZ (ordL l)).map I) 1 false false))) (fun a => l.length - a.1) (fun a ha ih => ?_) (0, M) ⟨Nat.zero_le _, m0, m2, m3⟩ (by repeat (first | exact sub_nil | apply sub_cons rfl)) (.refl _)
  clear m0 m2 m3
  obtain ⟨i, L⟩ := a
  obtain ⟨hi, l0, l2, l3⟩ := ha
  simp only at hi l0 l2 l3 ih ⊢
  have ih' := fun i' L' a1 a2 a3 a4 a5 => ih (i', L') a1 ⟨a2, a3, a4, a5⟩
  simp only at ih'
  clear ih
  apply ct_seq
  apply ct_region
  apply seq_plain; exact do_binInt rfl rfl rfl trivial; exact rfl
  apply seq_nil
  apply ct_seq
  refine ct_cond rfl (fun h1 => ?_) (fun h1 => ?_)
  · simp only [decide_eq_true_eq, Int.ofNat_lt] at h1
    have hio : i < (ordL l).length := by rw [ordL_len]; exact h1
    have hsu := asgA_succ (t := t) hio
    have hlt := ordL_lt hio
    have eo : (natZ (ordL l))[i]'(by omega) = (((ordL l)[i] : Nat) : Int) := by simp [natZ]
    obtain ⟨oi, hoi⟩ : ∃ oi, oi = (ordL l)[i] := ⟨_, rfl⟩
    rw [← hoi] at eo hsu
    simp only [← hoi] at hlt
    obtain ⟨b1, o1, cs1, z1, st1, ro1, rfl, hg1, hw1⟩ := hr.out (by intro e; rw [e] at h1; simp at h1)
    have hai := hinv i hi
    obtain ⟨v, hv⟩ : ∃ v, v = freeV t l (asgA t l i) l[oi] := ⟨_, rfl⟩
    have cF : ∀ lo X, Ret Tryz.prog 43 [.slice q t.length c, .agg ⟨bk l[oi]⟩, .slice (some ⟨b1, o1, none⟩) l.length d, .slice (some ⟨nb H 2, 0, none⟩) l.length l.length] (ext H lo (L ++ X)) (I v) (ext H lo (L ++ X)) := fun lo X => by
      have := free_c (H := ext H lo (L ++ X)) (c := c) (d := d) (e := l.length) (b := l[oi]) (A := asgA t l i) (w := some ⟨nb H 2, 0, none⟩) (hs.ext (ext_Ext hc)) ht64 (hr.ext (ext_Ext hc)) (by omega) (slAt_map (ext_get_new (getApp l2))) asgA_len (asgA_lt hai ht64)
      rw [asgA_len] at this
      rw [hv]; exact this
    have hset : (asgA t l i).set oi v = asgA t l (i + 1) := by
      rw [hsu, hv]
      unfold asgS
      rw [List.getElem?_eq_getElem hlt]; rfl
    have hoA : oi < (asgA t l i).length := by rw [asgA_len]; exact hlt
    clear hv hai hsu
    apply ct_skip
    apply ct_seq
    apply ct_block
    apply ct_seq
    apply ct_region
    apply seq_plain; exact do_indexAddrS rfl rfl rfl (by exact idx_nat (by omega)); exact rfl
    apply seq_plain; exact do_load rfl (by exact ext_get_new (by assumption)) rfl (by exact pt_map (by omega)); exact rfl
    apply seq_plain; exact do_assign rfl; exact rfl
    apply seq_nil
    apply ct_draw (by assumption); decide +kernel
    iterate 3 (apply sd_plain (hfree := rfl); intro _; exact do_move rfl; exact rfl)
    apply sd_look (hfree := rfl); exact do_load rfl (by exact ext_get_new (getApp (by assumption))) rfl (by exact rfl); exact rfl
    apply sd_plain (hfree := rfl); intro _; exact do_move rfl; exact rfl
    apply sd_plain (hfree := rfl); intro _; exact do_indexAddrS rfl rfl rfl (by exact idx_int (by omega)); exact rfl
    apply sd_look (hfree := rfl); exact do_load rfl (by exact ext_get_old (by assumption) (by assumption)) rfl (by exact pt_sl (by assumption) (by omega)); exact rfl
    apply sd_look (hfree := rfl); exact do_load rfl (by exact ext_get_new (getApp (by assumption))) rfl (by exact rfl); exact rfl
    apply sd_plain (hfree := rfl); intro _; exact do_move rfl; exact rfl
    simp only [eo, Int.toNat_natCast]
    apply sd_call (ht := rfl); exact cF _ _; exact rfl
    apply sd_plain (hfree := rfl); intro _; exact do_indexAddrS rfl rfl rfl (by exact idx_nat (by omega)); exact rfl
    refine sd_putQ (k := 2) rfl (by decide +kernel) hc (List.getElem?_eq_some_iff.1 l2).1 (do_store rfl rfl (ext_get_new l2) rfl (stl_map (g := I) (v := v) hoA rfl rfl) (nb_own _)) (fun M hl2 ho2 hk2 => ?_)
    rw [hset] at hk2
    apply sd_nil
    apply ct_region
    apply seq_plain; exact do_succ rfl (by omega); exact rfl
    apply seq_plain; exact do_move rfl; exact rfl
    apply seq_nil
    exact lt_to (by repeat (first | exact sub_nil | apply sub_cons rfl)) (by simp only [List.map_nil, List.append_nil]; exact .refl _) (ih' (i + 1) M (by omega) (by omega) (by rw [ho2 0 (by decide)]; exact l0) hk2 (by rw [ho2 3 (by decide)]; exact l3))
  have h1 : i = l.length := by simp at h1; omega
  subst h1
  apply ct_exit
  apply exit_eq; exact rfl
  apply ct_seq
  apply ct_region
  apply seq_plain; exact do_move rfl; exact rfl
  iterate 2 (apply seq_plain; exact do_assign rfl; exact rfl)
  apply seq_nil
  apply ct_ret
  refine fin_one hc rfl l2 (in_flat _) (v := .tuple ⟨[.slice (some ⟨H.fresh, 0, none⟩) l.length l.length, I 0]⟩) ?_ ⟨rfl, rfl⟩
  simp [packA, renV, renL, renOf_one (H := H) ⟨own_iff.1 (nb_own 2), nb_ge 2⟩]
end Go.Proofs.YtflbffhahoblfaaGreatDoor
