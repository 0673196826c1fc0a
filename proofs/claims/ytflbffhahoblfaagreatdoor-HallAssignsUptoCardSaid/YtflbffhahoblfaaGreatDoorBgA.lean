/- Contracts: a round, as the program yields it. -/
import Derived.Test.YtflbffhahoblfaaGreatDoorSxM
import Derived.Test.YtflbffhahoblfaaGreatDoorSxP
import Derived.Test.YtflbffhahoblfaaGreatDoorStB
import Derived.Test.YtflbffhahoblfaaGreatDoorSxY
import Derived.Test.YtflbffhahoblfaaGreatDoorCpL
import Derived.Test.YtflbffhahoblfaaGreatDoorHkA
noncomputable section
namespace Go.Proofs.YtflbffhahoblfaaGreatDoor
open Go Go.Den
set_option maxRecDepth 100000
def pr (x : Fx) : Int × Int := (x.home, x.away)
theorem low_ext {h : AHeap} {lo : Nat} {M : List (Option ABlk)} : (ext h lo M).low ≤ (ext h lo M).fresh := by
  have : (ext h lo M).low = min lo h.fresh := rfl
  have : (ext h lo M).fresh = nb h M.length := ext_fresh
  have := nb_ge (H := h) M.length
  omega
end Go.Proofs.YtflbffhahoblfaaGreatDoor
/- Contracts: the quarters at which bookings begin, as they are yielded. -/
noncomputable section
namespace Go.Proofs.YtflbffhahoblfaaGreatDoor
open Go Go.Den
set_option maxRecDepth 100000
def froms (l : List Bk) (k : ByteArray) : List Int := (l.filter fun x => decide (x.kind = k)).map (·.frm)
theorem froms_snoc {l : List Bk} {k : ByteArray} {i : Nat} (h : i < l.length) : froms (l.take (i + 1)) k = froms (l.take i) k ++ if l[i].kind = k then [l[i].frm] else [] := by
  rw [take_snoc h]
  unfold froms
  rw [List.filter_append, List.map_append]
  congr 1
  by_cases e : l[i].kind = k <;> simp [e]
theorem froms_len (l : List Bk) (k : ByteArray) : (froms l k).length ≤ l.length := by
  unfold froms
  rw [List.length_map]
  exact List.length_filter_le ..
def begL (l : List Bk) (k : ByteArray) : List Int := Lib.compact (srtI (froms l k))
def begP (l : List Bk) (k : ByteArray) : List (Int × Int) := (begL l k).map fun q => (q, (cntD l k q : Int))
theorem compact_len {α : Type} [Inhabited α] [DecidableEq α] (l : List α) : (Lib.compact l).length ≤ l.length := by
  unfold Lib.compact Lib.compactUpTo
  rw [List.length_map]
  exact Nat.le_trans (List.length_filter_le ..) (by simp)
structure Beg (B b1 b2 : Nat) (q : Option Addr) (c : Nat) (l : List Bk) (k : ByteArray) (F0 : Nat) (J : List (Int × Int) → AHeap → Prop) (S : AHeap → Prop) : Prop where
  st : ∀ ps h h', LQ h h' → h'.low ≤ h'.fresh → J ps h → J ps h'
  stS : ∀ h h', LQ h h' → h'.low ≤ h'.fresh → S h → S h'
  lowS : ∀ h, S h → h.low ≤ h.fresh
  ext : ∀ ps h lo M, J ps h → J ps (ext h lo M)
  at_ : ∀ ps h, J ps h → Closed h ∧ h.low ≤ h.fresh ∧ (∃ z s ro, h.get b1 = some (.cells [.slice q l.length c] z s ro)) ∧ (∃ z s ro, h.get b2 = some (.cells [.string k] z s ro)) ∧ SlAt h 4 bk q l ∧ ∃ x, h.get B = some x
  yield : ∀ ps p rest h, begP l k = ps ++ p :: rest → J ps h → RoundT Tryz.prog B [I p.1, I p.2] h (fun v h' => (∀ b y, F0 ≤ b → b % 2 = 0 → h.get b = some y → h'.get b = some y) ∧ ((v = .bool true ∧ J (ps ++ [p]) h') ∨ (v = .bool false ∧ S h')))
set_option maxHeartbeats 8000000 in
theorem begins1_c {H : AHeap} {B b1 b2 : Nat} {q : Option Addr} {c : Nat} {l : List Bk} {k : ByteArray} (hn : l.length < 1000000) {J : List (Int × Int) → AHeap → Prop} {S : AHeap → Prop} (hJ : Beg B b1 b2 q c l k H.fresh J S) (h0 : J [] H) :
    CallT Tryz.prog 92 [yieldV B, .pointer (some ⟨b1, 0, none⟩), .pointer (some ⟨b2, 0, none⟩)] H (fun _ h => (J (begP l k) h ∨ S h) ∧ h.low ≤ H.low) := by
  obtain ⟨_, _, ⟨z1, s1, r1, g1⟩, ⟨z2, s2, r2, g2⟩, hs, _⟩ := hJ.at_ _ _ h0
  refine fn_start Tryz.func92 rfl rfl rfl fun hc => ?_
  apply ct_seq
  apply ct_region
  apply seq_plain; exact do_assign rfl; exact rfl
  apply seq_nil
  iterate 2 (apply ct_seq)
  apply ct_region
  apply seq_plain; exact do_load rfl (by exact ext_get_old (by assumption) (by assumption)) rfl (by exact rfl); exact rfl
  apply seq_plain; exact do_lenS rfl rfl rfl; exact rfl
  apply seq_plain; exact do_move rfl; exact rfl
  apply seq_nil
  apply ct_block
  apply ct_loop
  refine lt_meas (α := Nat × Value × List (Option ABlk)) (fun a => [(0, yieldV B), (1, .pointer (some ⟨b1, 0, none⟩)), (2, .pointer (some ⟨b2, 0, none⟩)), (4, a.2.1), (9, .slice q l.length c), (10, I l.length), (11, I a.1)]) (fun a => ext H H.fresh a.2.2) (fun a => a.1 ≤ l.length ∧ Lst H a.2.2 1 i1 0 a.2.1 (froms (l.take a.1) k)) (fun a => l.length - a.1) (fun a ha ih => ?_) (0, .slice none 0 0, []) ⟨by simp, .nil⟩ (by repeat (first | exact sub_nil | apply sub_cons rfl)) (.refl _)
  obtain ⟨i, v, L⟩ := a
  obtain ⟨hi, hv⟩ := ha
  simp only at hi hv ih ⊢
  have ih' := fun i' v' L' a1 a2 a3 => ih (i', v', L') a1 ⟨a2, a3⟩
  simp only at ih'
  clear ih
  apply ct_seq
  apply ct_region
  apply seq_plain; exact do_binInt rfl rfl rfl trivial; exact rfl
  apply seq_nil
  apply ct_seq
  refine ct_cond rfl (fun h1 => ?_) (fun h1 => ?_)
  · simp only [decide_eq_true_eq, Int.ofNat_lt] at h1
    obtain ⟨b, o, cs, z, s, ro, rfl, hg, hw⟩ := hs.out (by intro e; rw [e] at h1; simp at h1)
    have se := froms_snoc (k := k) h1
    have hl := froms_len (l.take i) k
    rw [List.length_take] at hl
    apply ct_skip
    apply ct_seq
    apply ct_block
    apply ct_seq
    apply ct_region
    apply seq_plain; exact do_indexAddrS rfl rfl rfl (by exact idx_nat (by omega)); exact rfl
    apply seq_plain; exact do_load rfl (by exact ext_get_old (by assumption) (by assumption)) rfl (by exact pt_sl (by assumption) (by omega)); exact rfl
    apply seq_newP; exact do_alloc rfl rfl; exact rfl
    apply seq_putC (hc := by assumption); rotate_left; exact do_store rfl rfl (by exact ext_get_new List.getElem?_concat_length) rfl rfl (nb_own _); rotate_left; exact (by simp)
    apply ct_seq
    apply ct_region
    apply seq_plain; exact do_fieldAddr rfl rfl; exact rfl
    apply seq_plain; exact do_load rfl (by exact ext_get_new getSetLast) rfl (by exact rfl); exact rfl
    apply seq_plain; exact do_load rfl (by exact ext_get_old (by assumption) (by assumption)) rfl (by exact rfl); exact rfl
    apply seq_plain; exact do_binStr rfl rfl rfl; exact rfl
    apply seq_nil
    rw [set_mid rfl]
    refine ct_JXE (α := Value × List (Option ABlk)) (ds := []) (fun a => [(0, yieldV B), (1, .pointer (some ⟨b1, 0, none⟩)), (2, .pointer (some ⟨b2, 0, none⟩)), (4, a.1), (9, .slice (some ⟨b, o, none⟩) l.length c), (10, I l.length), (11, I i)]) (fun a => ext H H.fresh a.2) (fun a => Lst H a.2 1 i1 0 a.1 (froms (l.take (i + 1)) k)) ?_ ?_
    · refine ct_cond rfl (fun h2 => ?_) (fun h2 => ?_)
      · have h2 : byteL l[i].kind.data.toList k.data.toList = true := h2
        rw [bytes_eq] at h2
        have h2 := of_decide_eq_true h2
        rw [if_pos h2] at se
        apply ct_region
        apply seq_plain; exact do_move rfl; exact rfl
        apply seq_plain; exact do_fieldAddr rfl rfl; exact rfl
        apply seq_plain; exact do_load rfl (by exact ext_get_new List.getElem?_concat_length) rfl (by exact rfl); exact rfl
        apply seq_newS; exact do_buildSlice rfl rfl rfl rfl rfl rfl rfl; exact rfl
        refine seq_grow (xs := [l[i].frm]) hc ((hv.app _).app _) (Nat.zero_le _) (fun _ => rfl) (fun _ => rfl) rfl rfl rfl rfl rfl rfl (ext_get_new List.getElem?_concat_length) rfl (by simp) ?_ (Nat.ne_of_beq_eq_false rfl) (Nat.ne_of_beq_eq_false rfl) rfl (fun v' L3 hv' hst3 hlen3 => ?_)
        · exact Nat.le_trans (Nat.mul_le_mul_right _ (by simp only [List.length_cons, List.length_nil]; omega : _ ≤ 3000000000)) (Nat.le_of_ble_eq_true rfl)
        apply seq_plain; exact do_assign rfl; exact rfl
        apply seq_nil
        exact jx_of (v', L3) (by show Lst H L3 1 i1 0 v' _; rw [se]; exact hv') (by repeat (first | exact sub_nil | apply sub_cons rfl)) rfl
      · have h2 : byteL l[i].kind.data.toList k.data.toList = false := h2
        rw [bytes_eq] at h2
        have h2 := of_decide_eq_false h2
        rw [if_neg h2, List.append_nil] at se
        apply ct_skip
        exact jx_of (v, _) (by show Lst H _ 1 i1 0 v _; rw [se]; exact hv.app _) (by repeat (first | exact sub_nil | apply sub_cons rfl)) rfl
    rintro ⟨v', L'⟩ hv'
    simp only at hv' ⊢
    apply ct_region
    apply seq_plain; exact do_succ rfl (by omega); exact rfl
    apply seq_plain; exact do_move rfl; exact rfl
    apply seq_nil
    exact lt_to (by repeat (first | exact sub_nil | apply sub_cons rfl)) (.refl _) (ih' (i + 1) v' L' (by omega) (by omega) hv')
  have h1 : i = l.length := by simp at h1; omega
  subst h1
  rw [List.take_length] at hv
  clear ih'
  have hfl := froms_len l k
  have hcl := compact_len (srtI (froms l k))
  rw [srtI_len] at hcl
  have hb0 : begP l k = (begL l k).map fun q => (q, (cntD l k q : Int)) := rfl
  rcases hv.out with ⟨hne, rfl⟩ | ⟨hne, K, _, rfl, hL⟩
  · have hbn : begP l k = [] := by
      have h0 : (Lib.compact (srtI (froms l k))).length ≤ 0 := by
        have := compact_len (srtI (froms l k))
        rw [srtI_len] at this
        have h2 : (froms l k).length = 0 := by rw [hne]; rfl
        omega
      have h0 : begL l k = [] := List.length_eq_zero_iff.1 (by unfold begL; omega)
      rw [hb0, h0]; rfl
    rw [hbn]
    apply ct_exit
    apply exit_eq; exact rfl
    apply ct_seq
    apply ct_region
    apply seq_plain; exact do_move rfl; exact rfl
    apply seq_call (ht := rfl); exact sort0_c; exact rfl
    apply seq_nil
    apply ct_seq
    apply ct_region
    apply seq_plain; exact do_move rfl; exact rfl
    apply seq_call (ht := rfl); exact compact0_c; exact rfl
    apply seq_plain; exact do_lenS rfl rfl rfl; exact rfl
    apply seq_plain; exact do_move rfl; exact rfl
    apply seq_nil
    apply ct_block
    apply ct_loop
    refine lt_up (fun i => [(29, I ((0 : Nat) : Int)), (30, I ((0 : Nat) : Int))]) (fun _ => True) 0 (fun i hi _ ih => ?_) 0 (by omega) trivial (by repeat (first | exact sub_nil | apply sub_cons rfl))
    apply ct_seq
    apply ct_region
    apply seq_plain; exact do_binInt rfl rfl rfl trivial; exact rfl
    apply seq_nil
    apply ct_seq
    refine ct_cond_f rfl rfl ?_
    apply ct_exit
    apply exit_eq; exact rfl
    refine fin_id rfl ⟨.inl (hJ.st _ (ext H H.fresh L) _ ⟨fun _ => rfl, rfl⟩ ?_ (hJ.ext _ _ _ _ h0)), Nat.min_le_right _ _⟩
    have : (ext H H.fresh L).low ≤ (ext H H.fresh L).fresh := low_ext
    show min (ext H H.fresh L).low H.low ≤ (ext H H.fresh L).fresh
    omega
  rw [flat_i1_map] at hL
  have hlt : K < L.length := (List.getElem?_eq_some_iff.1 hL).1
  obtain ⟨T, hT⟩ : ∃ T, T = srtI (froms l k) := ⟨_, rfl⟩
  have hTl : T.length = (froms l k).length := by rw [hT, srtI_len]
  have cS : Ret Tryz.prog 55 [.slice (some ⟨nb H K, 0, none⟩) (froms l k).length (froms l k).length] (ext H H.fresh L) (packA []) ((ext H H.fresh L).put (nb H K) (.cells (T.map I) 1 true false)) := by
    rw [hT]; exact sort_c (nb_own _) (ext_get_new hL) (by omega)
  obtain ⟨D, hD⟩ : ∃ D, D = begL l k := ⟨_, rfl⟩
  have hDT : D = Lib.compact T := by rw [hD, hT]; rfl
  have hDl : D.length ≤ T.length := by rw [hDT]; exact compact_len _
  obtain ⟨Z, hZ⟩ : ∃ Z, Z = D ++ List.replicate (T.length - D.length) 0 := ⟨_, rfl⟩
  have hZl : Z.length = T.length := by rw [hZ]; simp; omega
  have cC : ∀ L' : List (Option ABlk), L'[K]? = some (some (.cells (T.map I) 1 true false)) → Ret Tryz.prog 56 [.slice (some ⟨nb H K, 0, none⟩) (froms l k).length (froms l k).length] (ext H H.fresh L') (.slice (some ⟨nb H K, 0, none⟩) D.length (froms l k).length) ((ext H H.fresh L').put (nb H K) (.cells (Z.map I) 1 true false)) := fun L' hL' => by
    rw [← hTl, hZ, hDT]
    exact compact_c (nb_own _) (ext_get_new hL') (by omega) (Nat.le_refl _) (compact_len _)
  apply ct_exit
  apply exit_eq; exact rfl
  apply ct_seq
  apply ct_region
  apply seq_plain; exact do_move rfl; exact rfl
  refine seq_callPC (k := K) hc hlt rfl cS rfl ?_
  have hL1 : (L.set K (some (.cells (T.map I) 1 true false)))[K]? = some (some (.cells (T.map I) 1 true false)) := List.getElem?_set_self hlt
  apply ct_seq
  apply ct_region
  apply seq_plain; exact do_move rfl; exact rfl
  refine seq_callP (k := K) hc (by rw [List.length_set]; exact hlt) rfl (cC _ hL1) rfl ?_
  obtain ⟨M, hM⟩ : ∃ M, M = (L.set K (some (ABlk.cells (T.map I) 1 true false))).set K (some (ABlk.cells (Z.map I) 1 true false)) := ⟨_, rfl⟩
  have hMK : M[K]? = some (some (.cells (Z.map I) 1 true false)) := by rw [hM]; exact List.getElem?_set_self (by rw [List.length_set]; exact hlt)
  rw [← hM]
  clear hM hL1 cC cS hL hv
  apply seq_plain; exact do_lenS rfl rfl rfl; exact rfl
  apply seq_plain; exact do_move rfl; exact rfl
  apply seq_nil
  apply ct_block
  apply ct_loop
  have hP : begP l k = D.map fun q => (q, (cntD l k q : Int)) := by rw [hD]; rfl
  have hPl : (begP l k).length = D.length := by rw [hP, List.length_map]
  refine lt_meas (α := Nat × AHeap) (fun a => [(0, yieldV B), (1, .pointer (some ⟨b1, 0, none⟩)), (2, .pointer (some ⟨b2, 0, none⟩)), (28, .slice (some ⟨nb H K, 0, none⟩) D.length (froms l k).length), (29, I D.length), (30, I a.1)]) (fun a => ext a.2 a.2.low []) (fun a => a.1 ≤ D.length ∧ J ((begP l k).take a.1) a.2 ∧ a.2.get (nb H K) = some (.cells (Z.map I) 1 true false)) (fun a => D.length - a.1) (fun a ha ih => ?_) (0, ext H H.fresh M) ⟨by simp, by simpa using hJ.ext _ _ _ _ h0, ext_get_new hMK⟩ (by repeat (first | exact sub_nil | apply sub_cons rfl)) (hq_base low_ext)
  obtain ⟨i, h⟩ := a
  obtain ⟨hi, hj, hK⟩ := ha
  simp only at hi hj hK ih ⊢
  have ih' := fun k' h' a1 a2 a3 a4 => ih (k', h') a1 ⟨a2, a3, a4⟩
  simp only at ih'
  clear ih g1 g2 hs
  obtain ⟨hcl, hlow, ⟨z3, s3, r3, g1⟩, ⟨z4, s4, r4, g2⟩, hs, xB, gB⟩ := hJ.at_ _ _ hj
  apply ct_seq
  apply ct_region
  apply seq_plain; exact do_binInt rfl rfl rfl trivial; exact rfl
  apply seq_nil
  apply ct_seq
  refine ct_cond rfl (fun h1 => ?_) (fun h1 => ?_)
  · have h1 : i < D.length := by simp at h1; omega
    have hiZ : i < Z.length := by omega
    have hZi : Z[i] = D[i] := by simp only [hZ]; exact List.getElem_append_left h1
    have hPi : (begP l k)[i]'(by omega) = (D[i], (cntD l k D[i] : Int)) := by simp only [hP, List.getElem_map]
    have hsp : begP l k = (begP l k).take i ++ (D[i], (cntD l k D[i] : Int)) :: (begP l k).drop (i + 1) := by
      rw [← hPi, ← List.drop_eq_getElem_cons, List.take_append_drop]
    have htk : (begP l k).take (i + 1) = (begP l k).take i ++ [(D[i], (cntD l k D[i] : Int))] := by rw [take_snoc (by omega), hPi]
    apply ct_skip
    apply ct_seq
    apply ct_block
    apply ct_seq
    apply ct_region
    apply seq_plain; exact do_indexAddrS rfl rfl rfl (by exact idx_nat (by omega)); exact rfl
    apply seq_plain; exact do_load rfl (by exact ext_get_old (by assumption) (by assumption)) rfl (by exact pt_map (by omega)); exact rfl
    apply seq_plain; exact do_assign rfl; exact rfl
    apply seq_nil
    apply ct_seq
    apply ct_region
    iterate 2 (apply seq_plain; exact do_move rfl; exact rfl)
    iterate 2 (apply seq_plain; exact do_load rfl (by exact ext_get_old (by assumption) (by assumption)) rfl (by exact rfl); exact rfl)
    apply seq_plain; exact do_move rfl; exact rfl
    rw [hZi]
    skip
    apply seq_call (ht := rfl); exact depth_c (hs.ext (ext_Ext hcl)) (by omega); exact rfl
    refine seq_yieldQ rfl (ext_get_old hcl gB) (hJ.yield _ _ _ _ hsp (hJ.ext _ _ _ _ hj)) rfl (fun v h' hv => ?_)
    obtain ⟨hkp, hv⟩ := hv
    rcases hv with ⟨rfl, hj'⟩ | ⟨rfl, hS⟩
    · obtain ⟨_, hlow', _⟩ := hJ.at_ _ _ hj'
      apply seq_plain; exact do_unOp rfl rfl; exact rfl
      apply seq_nil
      refine ct_cond_f rfl rfl ?_
      apply ct_skip
      apply ct_region
      apply seq_plain; exact do_succ rfl (by omega); exact rfl
      apply seq_plain; exact do_move rfl; exact rfl
      apply seq_nil
      exact lt_to (by repeat (first | exact sub_nil | apply sub_cons rfl)) (hq_base hlow') (ih' (i + 1) h' (by omega) (by omega) (by rw [htk]; exact hj') (hkp _ _ (nb_ge K) (own_iff.1 (nb_own K)) (ext_get_old hcl hK)))
    · have hlS := hJ.lowS _ hS
      apply seq_plain; exact do_unOp rfl rfl; exact rfl
      apply seq_nil
      refine ct_cond_t rfl rfl ?_
      apply ct_ret
      refine fin_id rfl ⟨.inr (hJ.stS h' _ ⟨fun _ => rfl, rfl⟩ ?_ hS), Nat.min_le_right _ _⟩
      show min h'.low H.low ≤ h'.fresh
      omega
  · have h1 : i = D.length := by simp at h1; omega
    subst h1
    rw [List.take_of_length_le (by omega)] at hj
    apply ct_exit
    apply exit_eq; exact rfl
    refine fin_id rfl ⟨.inl (hJ.st _ h _ ⟨fun _ => rfl, rfl⟩ ?_ hj), Nat.min_le_right _ _⟩
    have : (ext h h.low []).low = min h.low h.fresh := rfl
    show min (ext h h.low []).low H.low ≤ h.fresh
    omega
end Go.Proofs.YtflbffhahoblfaaGreatDoor
