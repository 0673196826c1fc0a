/- HallPrices: a price that is not split; what is compared; the law's own walk. -/
import Derived.Test.YtfegloadbajbhaaGreatDoorHbB
import Derived.Test.YtfegloadbajbhaaGreatDoorSxT
import Derived.Test.YtfegloadbajbhaaGreatDoorAwake
noncomputable section
namespace Go.Proofs.YtfegloadbajbhaaGreatDoor
open Go Go.Den
set_option maxRecDepth 100000

/-- the error of a price that is split -/
def splitX (l : List Ra) (a b n : Int) : Int := if splitE l a b n ≠ 0 then splitE l a b n else priceE l a b
theorem splitE_zero {l : List Ra} {a b n : Int} (h : splitE l a b n = 0) : spanE l a b = 0 ∧ 1 ≤ n ∧ n ≤ 16 := by
  have t := firstL_allZ h
  have t1 := t _ (List.mem_cons_self ..)
  have t2 := whenL_z (t _ (List.mem_cons_of_mem _ (List.mem_cons_self ..))) (by decide)
  simp only [outL, decide_eq_false_iff_not] at t2
  exact ⟨t1, by omega, by omega⟩
theorem splitErr_c {H : AHeap} {q : Option Addr} {c : Nat} {l : List Ra} {a b n : Int} (hs : SlAt H 3 ra q l) (hlow : LowS q c l.length) (hn : l.length < 1000000000000) (hx : splitX l a b n ≠ 0) :
    Ret Tryz.prog 53 [.slice q l.length c, I a, I b, I n] H (.tuple ⟨[.slice none 0 0, I (splitX l a b n)]⟩) H := by
  refine fn_start Tryz.func53 rfl rfl rfl fun hc => ?_
  apply ct_seq
  apply ct_region
  apply seq_plain; exact do_assign rfl; exact rfl
  apply seq_plain; exact do_assign rfl; exact rfl
  apply seq_nil
  apply ct_seq
  apply ct_seq
  apply ct_region
  apply seq_plain; exact do_move rfl; exact rfl
  apply seq_plain; exact do_move rfl; exact rfl
  apply seq_plain; exact do_move rfl; exact rfl
  apply seq_call (ht := rfl); exact checkSpan_c (hs.ext (ext_Ext hc)) hlow hn; exact rfl
  apply seq_plain; exact do_move rfl; exact rfl
  apply seq_call (ht := rfl); exact within89; exact rfl
  apply seq_newS; exact do_buildSlice rfl rfl rfl rfl rfl rfl rfl; exact rfl
  apply seq_call (ht := rfl); exact first84 (l := [_, _]) (slAt_map (ext_get_new rfl)) (by simp); exact rfl
  apply seq_plain; exact do_assign rfl; exact rfl
  apply seq_nil
  apply ct_seq
  apply ct_region
  apply seq_plain; exact do_move rfl; exact rfl
  apply seq_plain; exact do_binInt rfl rfl rfl trivial; exact rfl
  apply seq_nil
  refine ct_cond rfl (fun h1 => ?_) (fun h1 => ?_)
  · have h1 : splitE l a b n ≠ 0 := by unfold splitE; simpa using h1
    apply ct_seq
    apply ct_region
    apply seq_plain; exact do_move rfl; exact rfl
    apply seq_plain; exact do_assign rfl; exact rfl
    apply seq_plain; exact do_assign rfl; exact rfl
    apply seq_nil
    apply ct_ret
    refine fin_flat hc rfl rfl ⟨?_, rfl⟩
    unfold splitX
    rw [if_pos h1]; rfl
  · have h1 : splitE l a b n = 0 := by unfold splitE; simpa using h1
    obtain ⟨h2, h3, h4⟩ := splitE_zero h1
    obtain ⟨hr, h5, h6, h7⟩ := span_ok h2
    obtain ⟨a, rfl⟩ := Int.eq_ofNat_of_zero_le h5
    obtain ⟨b, rfl⟩ := Int.eq_ofNat_of_zero_le (by omega : 0 ≤ b)
    have hp : priceP l a b > 999999999 ∧ splitX l a b n = 4 := by
      unfold splitX at hx ⊢
      rw [if_neg (by rw [h1]; simp)] at hx ⊢
      unfold priceE at hx ⊢
      rw [if_neg (by rw [h2]; simp)] at hx ⊢
      simp only [Int.toNat_natCast] at hx ⊢
      by_cases h : priceP l a b > 999999999
      · exact ⟨h, if_pos h⟩
      · rw [if_neg h] at hx; exact absurd rfl hx
    obtain ⟨hp, hX⟩ := hp
    have cP := fun L => price_c (c := c) (hs.ext (ext_Ext hc (lo := H.fresh) (L := L))) hr (show a ≤ 100100 by omega) (show b ≤ 100100 by omega)
    simp only [if_pos hp] at cP
    apply ct_skip
    apply ct_seq
    apply ct_region
    apply seq_plain; exact do_move rfl; exact rfl
    apply seq_plain; exact do_move rfl; exact rfl
    apply seq_plain; exact do_move rfl; exact rfl
    apply seq_call (ht := rfl); exact cP _; exact rfl
    apply seq_plain; exact do_move rfl; exact rfl
    apply seq_plain; exact do_extract rfl rfl; exact rfl
    apply seq_plain; exact do_extract rfl rfl; exact rfl
    apply seq_plain; exact do_assign rfl; exact rfl
    apply seq_plain; exact do_assign rfl; exact rfl
    apply seq_nil
    apply ct_seq
    apply ct_seq
    apply ct_region
    apply seq_plain; exact do_move rfl; exact rfl
    apply seq_plain; exact do_binInt rfl rfl rfl trivial; exact rfl
    apply seq_nil
    refine ct_cond_t rfl rfl ?_
    apply ct_seq
    apply ct_region
    apply seq_plain; exact do_move rfl; exact rfl
    apply seq_plain; exact do_assign rfl; exact rfl
    apply seq_plain; exact do_assign rfl; exact rfl
    apply seq_nil
    apply ct_ret
    refine fin_flat hc rfl rfl ⟨?_, rfl⟩
    rw [hX]; rfl
def integerB (have' e bad want : Int) : Bool := if bad ≠ 0 then (have' == 0) && (e == bad) else (e == 0) && (have' == want)
theorem integer_c {H : AHeap} {h e bad want : Int} : Ret Tryz.prog 27 [I h, I e, I bad, I want] H (.bool (integerB h e bad want)) H := by
  refine fn_start Tryz.func27 rfl rfl rfl fun hc => ?_
  unfold integerB
  apply ct_seq
  apply ct_region
  apply seq_plain; exact do_assign rfl; exact rfl
  apply seq_nil
  apply ct_seq
  apply ct_seq
  apply ct_region
  apply seq_plain; exact do_move rfl; exact rfl
  apply seq_plain; exact do_binInt rfl rfl rfl trivial; exact rfl
  apply seq_nil
  refine ct_cond rfl (fun h1 => ?_) (fun h1 => ?_)
  · have h1 : bad ≠ 0 := by simpa using h1
    rw [if_pos h1]
    apply ct_seq
    apply ct_region
    apply seq_plain; exact do_move rfl; exact rfl
    apply seq_plain; exact do_binInt rfl rfl rfl trivial; exact rfl
    apply seq_plain; exact do_move rfl; exact rfl
    refine seq_gsplit rfl rfl (fun u => ?_) (fun u => ?_)
    · have u : (h == 0) = true := u
      apply seq_guard (hd := rfl) (hl := rfl); exact do_move rfl; exact rfl
      apply seq_guard (hd := rfl) (hl := rfl); exact do_move rfl; exact rfl
      apply seq_guard (hd := rfl) (hl := rfl); exact do_binInt rfl rfl rfl trivial; exact rfl
      apply seq_plain; exact do_pick_t rfl rfl; exact rfl
      apply seq_plain; exact do_assign rfl; exact rfl
      apply seq_nil
      apply ct_ret
      refine fin_flat hc rfl rfl ⟨?_, rfl⟩
      rw [u]; rfl
    · have u : (h == 0) = false := u
      apply seq_passed (hd := rfl) (hl := rfl) (hb := rfl); exact rfl
      apply seq_passed (hd := rfl) (hl := rfl) (hb := rfl); exact rfl
      apply seq_passed (hd := rfl) (hl := rfl) (hb := rfl); exact rfl
      apply seq_plain; exact do_pick_f rfl rfl; exact rfl
      apply seq_plain; exact do_assign rfl; exact rfl
      apply seq_nil
      apply ct_ret
      refine fin_flat hc rfl rfl ⟨?_, rfl⟩
      rw [u]; rfl
  · have h1 : ¬ bad ≠ 0 := by simpa using h1
    rw [if_neg h1]
    apply ct_skip
    apply ct_seq
    apply ct_region
    apply seq_plain; exact do_move rfl; exact rfl
    apply seq_plain; exact do_binInt rfl rfl rfl trivial; exact rfl
    apply seq_plain; exact do_move rfl; exact rfl
    refine seq_gsplit rfl rfl (fun u => ?_) (fun u => ?_)
    · have u : (e == 0) = true := u
      apply seq_guard (hd := rfl) (hl := rfl); exact do_move rfl; exact rfl
      apply seq_guard (hd := rfl) (hl := rfl); exact do_move rfl; exact rfl
      apply seq_guard (hd := rfl) (hl := rfl); exact do_binInt rfl rfl rfl trivial; exact rfl
      apply seq_plain; exact do_pick_t rfl rfl; exact rfl
      apply seq_plain; exact do_assign rfl; exact rfl
      apply seq_nil
      apply ct_ret
      refine fin_flat hc rfl rfl ⟨?_, rfl⟩
      rw [u]; rfl
    · have u : (e == 0) = false := u
      apply seq_passed (hd := rfl) (hl := rfl) (hb := rfl); exact rfl
      apply seq_passed (hd := rfl) (hl := rfl) (hb := rfl); exact rfl
      apply seq_passed (hd := rfl) (hl := rfl) (hb := rfl); exact rfl
      apply seq_plain; exact do_pick_f rfl rfl; exact rfl
      apply seq_plain; exact do_assign rfl; exact rfl
      apply seq_nil
      apply ct_ret
      refine fin_flat hc rfl rfl ⟨?_, rfl⟩
      rw [u]; rfl
def listB (have' : List Int) (e bad : Int) (want : List Int) : Bool := if bad ≠ 0 then ((have'.length : Int) == 0) && (e == bad) else (e == 0) && decide (have' = want)
theorem list_c {H : AHeap} {p q : Option Addr} {c c' : Nat} {l m : List Int} {e bad : Int} (hs : SlAt H 1 i1 p l) (ht : SlAt H 1 i1 q m) (hn : l.length < 1000000000000) :
    Ret Tryz.prog 34 [.slice p l.length c, I e, I bad, .slice q m.length c'] H (.bool (listB l e bad m)) H := by
  refine fn_start Tryz.func34 rfl rfl rfl fun hc => ?_
  unfold listB
  apply ct_seq
  apply ct_region
  apply seq_plain; exact do_assign rfl; exact rfl
  apply seq_nil
  apply ct_seq
  apply ct_seq
  apply ct_region
  apply seq_plain; exact do_move rfl; exact rfl
  apply seq_plain; exact do_binInt rfl rfl rfl trivial; exact rfl
  apply seq_nil
  refine ct_cond rfl (fun h1 => ?_) (fun h1 => ?_)
  · have h1 : bad ≠ 0 := by simpa using h1
    rw [if_pos h1]
    apply ct_seq
    apply ct_region
    apply seq_plain; exact do_move rfl; exact rfl
    apply seq_plain; exact do_lenS rfl rfl rfl; exact rfl
    apply seq_plain; exact do_binInt rfl rfl rfl trivial; exact rfl
    apply seq_plain; exact do_move rfl; exact rfl
    refine seq_gsplit rfl rfl (fun u => ?_) (fun u => ?_)
    · have u : ((l.length : Int) == 0) = true := u
      apply seq_guard (hd := rfl) (hl := rfl); exact do_move rfl; exact rfl
      apply seq_guard (hd := rfl) (hl := rfl); exact do_move rfl; exact rfl
      apply seq_guard (hd := rfl) (hl := rfl); exact do_binInt rfl rfl rfl trivial; exact rfl
      apply seq_plain; exact do_pick_t rfl rfl; exact rfl
      apply seq_plain; exact do_assign rfl; exact rfl
      apply seq_nil
      apply ct_ret
      refine fin_flat hc rfl rfl ⟨?_, rfl⟩
      rw [u]; rfl
    · have u : ((l.length : Int) == 0) = false := u
      apply seq_passed (hd := rfl) (hl := rfl) (hb := rfl); exact rfl
      apply seq_passed (hd := rfl) (hl := rfl) (hb := rfl); exact rfl
      apply seq_passed (hd := rfl) (hl := rfl) (hb := rfl); exact rfl
      apply seq_plain; exact do_pick_f rfl rfl; exact rfl
      apply seq_plain; exact do_assign rfl; exact rfl
      apply seq_nil
      apply ct_ret
      refine fin_flat hc rfl rfl ⟨?_, rfl⟩
      rw [u]; rfl
  · have h1 : ¬ bad ≠ 0 := by simpa using h1
    rw [if_neg h1]
    apply ct_skip
    apply ct_seq
    apply ct_region
    apply seq_plain; exact do_move rfl; exact rfl
    apply seq_plain; exact do_binInt rfl rfl rfl trivial; exact rfl
    apply seq_plain; exact do_move rfl; exact rfl
    refine seq_gsplit rfl rfl (fun u => ?_) (fun u => ?_)
    · have u : (e == 0) = true := u
      apply seq_guard (hd := rfl) (hl := rfl); exact do_move rfl; exact rfl
      apply seq_guard (hd := rfl) (hl := rfl); exact do_move rfl; exact rfl
      apply seq_gcall (hg := rfl) (hl := rfl) (ht := rfl); exact sameInts79 (hs.ext (ext_Ext hc)) (ht.ext (ext_Ext hc)) hn; exact rfl
      apply seq_plain; exact do_pick_t rfl rfl; exact rfl
      apply seq_plain; exact do_assign rfl; exact rfl
      apply seq_nil
      apply ct_ret
      refine fin_flat hc rfl rfl ⟨?_, rfl⟩
      rw [u]; rfl
    · have u : (e == 0) = false := u
      apply seq_passed (hd := rfl) (hl := rfl) (hb := rfl); exact rfl
      apply seq_passed (hd := rfl) (hl := rfl) (hb := rfl); exact rfl
      apply seq_passed (hd := rfl) (hl := rfl) (hb := rfl); exact rfl
      apply seq_plain; exact do_pick_f rfl rfl; exact rfl
      apply seq_plain; exact do_assign rfl; exact rfl
      apply seq_nil
      apply ct_ret
      refine fin_flat hc rfl rfl ⟨?_, rfl⟩
      rw [u]; rfl
theorem integerB_is {l : List Ra} {a b : Int} : integerB (priceV l a b) (priceE l a b) (priceE l a b) (if spanE l a b ≠ 0 then 0 else priceP l a.toNat b.toNat) = true := by
  unfold integerB priceV priceE
  by_cases h : spanE l a b ≠ 0
  · rw [if_pos h, if_pos h, if_pos h]; simp
  · rw [if_neg h, if_neg h, if_neg h]
    by_cases h2 : priceP l a.toNat b.toNat > 999999999
    · rw [if_pos h2, if_pos h2]; rfl
    · rw [if_neg h2, if_neg h2]; simp
/-- what a price that is split leaves: a list, or an error -/
theorem split_any {H : AHeap} (hc : Closed H) {q : Option Addr} {c : Nat} {l : List Ra} {a b n : Int} (hs : SlAt H 3 ra q l) (hlow : LowS q c l.length) (hn : l.length < 1000000000000) (L : List (Option ABlk)) :
    ∃ (S : List Int) (p : Option Addr) (M : List (Option ABlk)), Ret Tryz.prog 53 [.slice q l.length c, I a, I b, I n] (ext H H.fresh L) (.tuple ⟨[.slice p S.length S.length, I (splitX l a b n)]⟩) (ext H H.fresh (L ++ M)) ∧
      (∀ L' lo, Keeps (L ++ M) L' → SlAt (ext H lo L') 1 i1 p S) ∧ (splitX l a b n ≠ 0 → S = []) ∧ (splitX l a b n = 0 → S = sharesP (priceP l a.toNat b.toNat).toNat n.toNat) := by
  by_cases hX : splitX l a b n = 0
  · have h1 : splitE l a b n = 0 := by
      unfold splitX at hX
      by_cases h : splitE l a b n = 0
      · exact h
      · rw [if_pos h] at hX; exact hX
    obtain ⟨h2, h3, h4⟩ := splitE_zero h1
    obtain ⟨hr, h5, h6, h7⟩ := span_ok h2
    obtain ⟨a, rfl⟩ := Int.eq_ofNat_of_zero_le h5
    obtain ⟨b, rfl⟩ := Int.eq_ofNat_of_zero_le (by omega : 0 ≤ b)
    obtain ⟨n, rfl⟩ := Int.eq_ofNat_of_zero_le (by omega : 0 ≤ n)
    have hp : priceP l a b ≤ 999999999 := by
      unfold splitX at hX
      rw [if_neg (by rw [h1]; simp)] at hX
      unfold priceE at hX
      rw [if_neg (by rw [h2]; simp)] at hX
      simp only [Int.toNat_natCast] at hX
      by_cases h : priceP l a b > 999999999
      · rw [if_pos h] at hX; exact absurd hX (by decide)
      · omega
    refine ⟨sharesP (priceP l a b).toNat n, some ⟨nb H L.length, 0, none⟩, [some (.cells ((sharesP (priceP l a b).toNat n).map I) 1 false false)], ?_, fun L' lo hk => slAt_map (ext_get_new (hk _ _ List.getElem?_concat_length)), fun h => absurd hX h, fun _ => rfl⟩
    have := split_c (c := c) (hs.ext (ext_Ext hc (lo := H.fresh) (L := L))) hlow (by omega) h2 (show 1 ≤ n by omega) (by omega) hp
    rw [ext_add, ext_fresh] at this
    rw [hX, sharesP_len]
    exact this
  · refine ⟨[], none, [], ?_, fun _ _ _ => .nil, fun _ => rfl, fun h => absurd h hX⟩
    rw [List.append_nil]
    exact splitErr_c (hs.ext (ext_Ext hc)) hlow hn hX
set_option maxHeartbeats 16000000 in
theorem prices_w {H : AHeap} {q : Option Addr} {c : Nat} {l : List Ra} {a b n : Int} (haw : ∀ h, Ext H h → Ret Tryz.prog 17 [] h (.bool true) h) (hs : SlAt H 3 ra q l) (hlow : LowS q c l.length) (hn : l.length ≤ 1048576) :
    Ret Tryz.prog 7 [.slice q l.length c, .agg ⟨[I a, I b]⟩, I n] H (.bool true) H := by
  refine fn_start Tryz.func7 rfl rfl rfl fun hc => ?_
  have cO : Ret Tryz.prog 49 [.slice q l.length c] (ext H H.fresh [some (.cells [I a, I b] 0 false false)]) (lstV (nb H 1) l) (ext H H.fresh ([some (.cells [I a, I b] 0 false false)] ++ lstL 3 ra l)) := by
    have := ownRates_c (c := c) (hs.ext (ext_Ext hc (lo := H.fresh) (L := [some (.cells [I a, I b] 0 false false)]))) (by omega)
    rwa [lstH_ext, ext_fresh] at this
  apply ct_seq
  apply ct_region
  apply seq_newP; exact do_box rfl rfl rfl; exact rfl
  apply seq_plain; exact do_assign rfl; exact rfl
  apply seq_nil
  apply ct_seq
  apply ct_region
  apply seq_plain; exact do_move rfl; exact rfl
  apply seq_call (ht := rfl); exact cO; exact rfl
  obtain ⟨L, hL⟩ : ∃ L, L = [some (ABlk.cells [I a, I b] 0 false false)] ++ lstL 3 ra l := ⟨_, rfl⟩
  have hL0 : L[0]? = some (some (.cells [I a, I b] 0 false false)) := by rw [hL]; exact getApp rfl
  have hv : Lst H L 3 ra 0 (lstV (nb H 1) l) l := by rw [hL]; exact lst_ofL (Nat.zero_le _)
  obtain ⟨x, hx1, hx2⟩ := hv.slAll ra_len
  rw [← hL, hx1]
  clear hL cO hv hx1
  apply seq_plain; exact do_assign rfl; exact rfl
  apply seq_nil
  apply ct_seq
  apply ct_seq
  apply ct_region
  apply seq_call (ht := rfl); exact haw _ (ext_Ext hc); exact rfl
  apply seq_plain; exact do_unOp rfl rfl; exact rfl
  apply seq_plain; exact do_move rfl; exact rfl
  apply seq_guard (hd := rfl) (hl := rfl); exact do_move rfl; exact rfl
  apply seq_guard (hd := rfl) (hl := rfl); exact do_lenS rfl rfl rfl; exact rfl
  apply seq_guard (hd := rfl) (hl := rfl); exact do_binInt rfl rfl rfl trivial; exact rfl
  apply seq_plain; exact do_pick_f rfl rfl; exact rfl
  apply seq_nil
  refine ct_cond rfl (fun h1 => ?_) (fun h1 => ?_)
  · apply ct_seq
    apply ct_region
    apply seq_call (ht := rfl); exact haw _ (ext_Ext hc); exact rfl
    apply seq_plain; exact do_assign rfl; exact rfl
    apply seq_nil
    apply ct_ret
    exact fin_flat hc rfl rfl ⟨rfl, rfl⟩
  have h1 : l.length ≤ 100 := by simp at h1; omega
  have cR := fun L' hK => refRates_c (c := l.length) (hx2 L' H.fresh hK) (by omega)
  have cC := fun L' => checkRates_c (hs.ext (ext_Ext hc (lo := H.fresh) (L := L'))) hlow (by omega)
  have cP := fun L' => Price_c (a := a) (b := b) (hs.ext (ext_Ext hc (lo := H.fresh) (L := L'))) hlow (by omega)
  have e1 : (ratesE l != ratesE l) = false := by simp
  apply ct_skip
  apply ct_seq
  apply ct_region
  apply seq_plain; exact do_move rfl; exact rfl
  apply seq_call (ht := rfl); exact cR _ (.refl _); exact rfl
  apply seq_plain; exact do_assign rfl; exact rfl
  apply seq_nil
  apply ct_seq
  apply ct_seq
  apply ct_region
  apply seq_plain; exact do_move rfl; exact rfl
  apply seq_call (ht := rfl); exact cC _; exact rfl
  apply seq_plain; exact do_move rfl; exact rfl
  apply seq_plain; exact do_binInt rfl rfl rfl trivial; exact rfl
  apply seq_nil
  rw [e1]
  refine ct_cond_f rfl rfl ?_
  apply ct_skip
  apply ct_seq
  apply ct_region
  apply seq_plain; exact do_move rfl; exact rfl
  apply seq_plain; exact do_indexAddrA rfl rfl rfl (by exact rfl); exact rfl
  apply seq_plain; exact do_load rfl (by exact ext_get_new (by assumption)) rfl (by exact rfl); exact rfl
  apply seq_plain; exact do_indexAddrA rfl rfl rfl (by exact rfl); exact rfl
  apply seq_plain; exact do_load rfl (by exact ext_get_new (by assumption)) rfl (by exact rfl); exact rfl
  apply seq_call (ht := rfl); exact cP _; exact rfl
  apply seq_plain; exact do_move rfl; exact rfl
  apply seq_plain; exact do_extract rfl rfl; exact rfl
  apply seq_plain; exact do_extract rfl rfl; exact rfl
  apply seq_plain; exact do_assign rfl; exact rfl
  apply seq_plain; exact do_assign rfl; exact rfl
  apply seq_nil
  apply ct_seq
  apply ct_region
  apply seq_plain; exact do_move rfl; exact rfl
  apply seq_plain; exact do_indexAddrA rfl rfl rfl (by exact rfl); exact rfl
  apply seq_plain; exact do_load rfl (by exact ext_get_new (by assumption)) rfl (by exact rfl); exact rfl
  apply seq_plain; exact do_indexAddrA rfl rfl rfl (by exact rfl); exact rfl
  apply seq_plain; exact do_load rfl (by exact ext_get_new (by assumption)) rfl (by exact rfl); exact rfl
  apply seq_plain; exact do_move rfl; exact rfl
  obtain ⟨S, p, M, hS1, hS2, hS3, hS4⟩ := split_any (c := c) (a := a) (b := b) (n := n) hc hs hlow (by omega) L
  apply seq_call (ht := rfl); exact hS1; exact rfl
  obtain ⟨L1, hL1⟩ : ∃ L1, L1 = L ++ M := ⟨_, rfl⟩
  have hL1k : Keeps L L1 := by rw [hL1]; exact .app M
  have hL10 := hL1k _ _ hL0
  rw [← hL1] at hS2 ⊢
  clear hS1 hL1
  apply seq_plain; exact do_move rfl; exact rfl
  apply seq_plain; exact do_extract rfl rfl; exact rfl
  apply seq_plain; exact do_extract rfl rfl; exact rfl
  apply seq_plain; exact do_assign rfl; exact rfl
  apply seq_plain; exact do_assign rfl; exact rfl
  apply seq_nil
  apply ct_seq
  apply ct_region
  apply seq_plain; exact do_move rfl; exact rfl
  apply seq_plain; exact do_indexAddrA rfl rfl rfl (by exact rfl); exact rfl
  apply seq_plain; exact do_load rfl (by exact ext_get_new (by assumption)) rfl (by exact rfl); exact rfl
  apply seq_plain; exact do_indexAddrA rfl rfl rfl (by exact rfl); exact rfl
  apply seq_plain; exact do_load rfl (by exact ext_get_new (by assumption)) rfl (by exact rfl); exact rfl
  apply seq_call (ht := rfl); exact refSpan_c; exact rfl
  apply seq_newS; exact do_buildSlice rfl rfl rfl rfl rfl rfl rfl; exact rfl
  apply seq_call (ht := rfl); exact lawFirst_c (l := [_, _]) (slAt_map (ext_get_new List.getElem?_concat_length)) (by simp); exact rfl
  rw [← spanE_sp]
  apply seq_plain; exact do_assign rfl; exact rfl
  apply seq_nil
  apply ct_seq
  apply ct_region
  apply seq_plain; exact do_move rfl; exact rfl
  apply seq_plain; exact do_move rfl; exact rfl
  apply seq_call (ht := rfl); exact outside24; exact rfl
  apply seq_call (ht := rfl); exact when23; exact rfl
  apply seq_newS; exact do_buildSlice rfl rfl rfl rfl rfl rfl rfl; exact rfl
  apply seq_call (ht := rfl); exact lawFirst_c (l := [_, _]) (slAt_map (ext_get_new List.getElem?_concat_length)) (by simp); exact rfl
  rw [show firstL [spanE l a b, whenL (outL n 1 16) 3] = splitE l a b n from rfl]
  apply seq_plain; exact do_assign rfl; exact rfl
  apply seq_nil
  apply ct_seq
  apply ct_region
  apply seq_plain; exact do_assign rfl; exact rfl
  apply seq_nil
  apply ct_seq
  apply ct_seq
  apply ct_region
  apply seq_plain; exact do_move rfl; exact rfl
  apply seq_plain; exact do_binInt rfl rfl rfl trivial; exact rfl
  apply seq_nil
  refine ct_JX (α := List (Option ABlk)) (ds := []) (fun _ => [(2, I n), (9, I (priceV l a b)), (10, I (priceE l a b)), (11, .slice p S.length S.length), (12, I (splitX l a b n)), (13, I (priceE l a b)), (14, I (splitX l a b n)), (15, I (if spanE l a b ≠ 0 then 0 else priceP l a.toNat b.toNat))]) (fun L' => ext H H.fresh L') (fun L' => Keeps L1 L') ?_ ?_
  · refine ct_cond rfl (fun g1 => ?_) (fun g1 => ?_)
    · have g1 : spanE l a b = 0 := by simpa using g1
      obtain ⟨hr, h5, h6, h7⟩ := span_ok g1
      obtain ⟨a, rfl⟩ := Int.eq_ofNat_of_zero_le h5
      obtain ⟨b, rfl⟩ := Int.eq_ofNat_of_zero_le (by omega : 0 ≤ b)
      have pe : whenL (decide (priceP l a b > 999999999)) 4 = priceE l a b := by
        unfold priceE
        rw [if_neg (by rw [g1]; simp)]
        simp only [Int.toNat_natCast, whenL, decide_eq_true_eq]
      have pp : (if spanE l a b ≠ 0 then 0 else priceP l (a : Int).toNat (b : Int).toNat) = priceP l a b := by rw [if_neg (by rw [g1]; simp)]; rfl
      have px : firstL [splitE l a b n, priceE l a b] = splitX l a b n := by
        unfold splitX
        by_cases h : splitE l a b n = 0
        · rw [if_neg (by rw [h]; simp), h]
          by_cases h2 : priceE l a b = 0 <;> simp [firstL, h2]
        · rw [if_pos h]; simp [firstL, h]
      have pk : splitE l a b n = splitE l a b n := rfl
      apply ct_seq
      apply ct_region
      apply seq_plain; exact do_move rfl; exact rfl
      apply seq_plain; exact do_indexAddrA rfl rfl rfl (by exact rfl); exact rfl
      apply seq_plain; exact do_load rfl (by exact ext_get_new (getApp (getApp (by assumption)))) rfl (by exact rfl); exact rfl
      apply seq_plain; exact do_indexAddrA rfl rfl rfl (by exact rfl); exact rfl
      apply seq_plain; exact do_load rfl (by exact ext_get_new (getApp (getApp (by assumption)))) rfl (by exact rfl); exact rfl
      apply seq_call (ht := rfl); exact refPrice_c (c := l.length) (hx2 _ _ (hL1k.trans ((Keeps.app _).trans (.app _)))) hr (by omega) (by omega); exact rfl
      apply seq_plain; exact do_assign rfl; exact rfl
      apply seq_nil
      apply ct_seq
      apply ct_region
      apply seq_plain; exact do_move rfl; exact rfl
      apply seq_plain; exact do_binInt rfl rfl rfl trivial; exact rfl
      apply seq_call (ht := rfl); exact when23; exact rfl
      apply seq_plain; exact do_assign rfl; exact rfl
      apply seq_nil
      apply ct_region
      apply seq_plain; exact do_move rfl; exact rfl
      apply seq_plain; exact do_move rfl; exact rfl
      apply seq_newS; exact do_buildSlice rfl rfl rfl rfl rfl rfl rfl; exact rfl
      rw [pe]
      skip
      apply seq_call (ht := rfl); exact lawFirst_c (l := [_, _]) (slAt_map (ext_get_new List.getElem?_concat_length)) (by simp); exact rfl
      rw [px]
      apply seq_plain; exact do_assign rfl; exact rfl
      apply seq_nil
      rw [pp]
      exact jx_of _ (((Keeps.app _).trans (.app _)).trans (.app _)) (by repeat (first | exact sub_nil | apply sub_cons rfl)) rfl
    · have g1 : spanE l a b ≠ 0 := by simpa using g1
      have pe : spanE l a b = priceE l a b := by unfold priceE; rw [if_pos g1]
      have px : splitE l a b n = splitX l a b n := by
        have h : splitE l a b n ≠ 0 := by
          unfold splitE; simp [firstL, g1]
        unfold splitX
        rw [if_pos h]
      rw [if_pos g1, px, pe]
      apply ct_skip
      exact jx_of _ ((Keeps.app _).trans (.app _)) (by repeat (first | exact sub_nil | apply sub_cons rfl)) rfl
  intro L2 hK2
  have hi := integerB_is (l := l) (a := a) (b := b)
  apply ct_seq
  apply ct_seq
  apply ct_region
  apply seq_plain; exact do_move rfl; exact rfl
  apply seq_plain; exact do_move rfl; exact rfl
  apply seq_plain; exact do_move rfl; exact rfl
  apply seq_plain; exact do_move rfl; exact rfl
  apply seq_call (ht := rfl); exact integer_c; exact rfl
  apply seq_plain; exact do_unOp rfl rfl; exact rfl
  apply seq_nil
  rw [hi]
  skip
  refine ct_cond_f rfl rfl ?_
  apply ct_skip
  apply ct_seq
  apply ct_seq
  apply ct_region
  apply seq_plain; exact do_move rfl; exact rfl
  apply seq_plain; exact do_binInt rfl rfl rfl trivial; exact rfl
  apply seq_nil
  refine ct_cond rfl (fun g2 => ?_) (fun g2 => ?_)
  · have g2 : splitX l a b n ≠ 0 := by simpa using g2
    have hS := hS3 g2
    subst hS
    apply ct_seq
    apply ct_region
    apply seq_plain; exact do_move rfl; exact rfl
    apply seq_plain; exact do_move rfl; exact rfl
    apply seq_plain; exact do_move rfl; exact rfl
    apply seq_call (ht := rfl); exact list_c (m := []) (hS2 _ _ hK2) .nil (by simp); exact rfl
    apply seq_plain; exact do_assign rfl; exact rfl
    apply seq_nil
    apply ct_ret
    refine fin_flat hc rfl rfl ⟨?_, rfl⟩
    simp [listB, g2, packA]
  have g2 : splitX l a b n = 0 := by simpa using g2
  have hS := hS4 g2
  have h3 : splitE l a b n = 0 := by
    unfold splitX at g2
    by_cases h : splitE l a b n = 0
    · exact h
    · rw [if_pos h] at g2; exact g2
  have h4 : priceE l a b = 0 := by
    unfold splitX at g2
    rwa [if_neg (by rw [h3]; simp)] at g2
  obtain ⟨h5, h6, h7⟩ := splitE_zero h3
  obtain ⟨hr, h8, h9, h10⟩ := span_ok h5
  obtain ⟨N, rfl⟩ := Int.eq_ofNat_of_zero_le (by omega : 0 ≤ n)
  have hp0 := (priceP_bd hr (a := a.toNat) (b := b.toNat) (by omega)).1
  have hpm : (priceP l a.toNat b.toNat).toNat ≤ 999999999 := by
    unfold priceE at h4
    rw [if_neg (by rw [h5]; simp)] at h4
    by_cases h : priceP l a.toNat b.toNat > 999999999
    · rw [if_pos h] at h4; exact absurd h4 (by decide)
    · omega
  obtain ⟨tt, htt⟩ : ∃ tt, tt = (priceP l a.toNat b.toNat).toNat := ⟨_, rfl⟩
  have pp : (if spanE l a b ≠ 0 then 0 else priceP l a.toNat b.toNat) = (tt : Int) := by rw [if_neg (by rw [h5]; simp), htt, Int.toNat_of_nonneg hp0]
  rw [← htt] at hpm hS
  rw [pp, g2]
  clear pp htt hp0 cP cC cR
  apply ct_skip
  apply ct_seq
  apply ct_region
  apply seq_plain; exact do_move rfl; exact rfl
  apply seq_newS; exact mk33 rfl (by omega); exact rfl
  apply seq_plain; exact do_assign rfl; exact rfl
  apply seq_nil
  apply ct_seq
  apply ct_seq
  apply ct_region
  apply seq_plain; exact do_assign rfl; exact rfl
  apply seq_nil
  apply ct_block
  apply ct_loop
  refine lt_meas (α := Nat × List (Option ABlk)) (fun a => [(2, I N), (11, .slice p S.length S.length), (12, I 0), (15, I tt), (16, .slice (some ⟨nb H L2.length, 0, none⟩) N N), (17, I a.1)]) (fun a => ext H H.fresh a.2)
    (fun a => a.1 ≤ N ∧ L2.length < a.2.length ∧ Keeps L2 a.2 ∧ a.2[L2.length]? = some (some (.cells ((stepS N a.1 (fun _ => 1) (fun _ => 0)).map I) 1 false false))) (fun a => N - a.1) (fun a ha ih => ?_) (0, L2 ++ [some (.cells ((List.replicate N 0).map I) 1 false false)]) ⟨by simp, by simp, .app _, by rw [stepS_zero]; exact List.getElem?_concat_length⟩ (by repeat (first | exact sub_nil | apply sub_cons rfl)) (.refl _)
  obtain ⟨i, M⟩ := a
  obtain ⟨hi, hMl, hMk, f1⟩ := ha
  simp only at hi hMl hMk f1 ih ⊢
  have ih' := fun i' L' a1 a2 a3 a4 a5 => ih (i', L') a1 ⟨a2, a3, a4, a5⟩
  simp only at ih'
  clear ih
  apply ct_seq
  apply ct_seq
  apply ct_region
  apply seq_plain; exact do_move rfl; exact rfl
  apply seq_plain; exact do_move rfl; exact rfl
  apply seq_plain; exact do_binInt rfl rfl rfl trivial; exact rfl
  apply seq_nil
  refine ct_cond rfl (fun g1 => ?_) (fun g1 => ?_)
  · have g1 : i < N := by simp only [decide_eq_true_eq] at g1; omega
    have sl : (stepS N i (fun _ => 1) (fun _ => 0)).length = N := stepS_len
    apply ct_skip
    apply ct_seq
    apply ct_block
    apply ct_region
    apply seq_plain; exact do_move rfl; exact rfl
    apply seq_plain; exact do_move rfl; exact rfl
    apply seq_plain; exact do_indexAddrS rfl rfl rfl (by exact idx_nat (by omega)); exact rfl
    refine seq_putQC (k := L2.length) hc hMl (do_store rfl rfl (ext_get_new f1) rfl (stl_map (by omega) rfl rfl) (nb_own _)) (fun L1 m1 o1 k1 => ?_)
    rw [stepS_set _ rfl] at k1
    have hk1 : Keeps L2 L1 := fun k y hy => by
      have hlt : k < L2.length := (List.getElem?_eq_some_iff.1 hy).1
      rw [o1 k (by omega)]; exact hMk k y hy
    clear o1
    apply ct_region
    apply seq_plain; exact do_move rfl; exact rfl
    apply seq_plain; exact do_succ rfl (by omega); exact rfl
    apply seq_plain; exact do_assign rfl; exact rfl
    apply seq_nil
    exact lt_to (by repeat (first | exact sub_nil | apply sub_cons rfl)) (.refl _) (ih' (i + 1) L1 (by omega) (by omega) (by omega) hk1 k1)
  have g1 : i = N := by simp only [decide_eq_false_iff_not] at g1; omega
  subst g1
  have hO : stepS i i (fun _ => 1) (fun _ => 0) = List.replicate i 1 := by
    refine List.ext_getElem (by rw [stepS_len, List.length_replicate]) fun k h1 h2 => ?_
    rw [List.getElem_replicate, stepS_lo (by rw [stepS_len] at h1; exact h1)]
  rw [hO] at f1
  have hOl : (List.replicate i (1 : Int)).length = i := List.length_replicate
  have cS : Ret Tryz.prog 57 [I tt, .slice (some ⟨nb H L2.length, 0, none⟩) i i] (ext H H.fresh M) (lstV (nb H M.length) (sharesP tt i)) (ext H H.fresh (M ++ lstL 1 i1 (sharesP tt i))) := by
    have := refShares_c (c := i) (slAt_map (H := ext H H.fresh M) (g := I) (ext_get_new f1)) rfl (by omega) (by omega) hpm
    rw [hOl, lstH_ext, ext_fresh] at this
    exact this
  have hv : Lst H (M ++ lstL 1 i1 (sharesP tt i)) 1 i1 0 (lstV (nb H M.length) (sharesP tt i)) (sharesP tt i) := lst_ofL (Nat.zero_le _)
  obtain ⟨p2, e2, hp2⟩ := hv.slAll (fun _ => rfl)
  rw [e2] at cS
  clear ih' hv
  apply ct_exit
  apply exit_eq; exact rfl
  apply ct_seq
  apply ct_region
  apply seq_plain; exact do_move rfl; exact rfl
  apply seq_plain; exact do_move rfl; exact rfl
  apply seq_plain; exact do_move rfl; exact rfl
  apply seq_plain; exact do_move rfl; exact rfl
  apply seq_call (ht := rfl); exact cS; exact rfl
  skip
  apply seq_call (ht := rfl); exact list_c (hS2 _ _ (hK2.trans (hMk.trans (.app _)))) (hp2 _ _ (.refl _)) (by rw [hS, sharesP_len]; omega); exact rfl
  apply seq_plain; exact do_assign rfl; exact rfl
  apply seq_nil
  apply ct_ret
  refine fin_flat hc rfl rfl ⟨?_, rfl⟩
  simp [listB, hS, packA]
-- HERE
end Go.Proofs.YtfegloadbajbhaaGreatDoor
