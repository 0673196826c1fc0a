/- Contracts: the first kind with too many bookings. -/
import Derived.Test.YtflbffhahoblfaaGreatDoorBgC
noncomputable section
namespace Go.Den
theorem load_cell {P : Program} [PC P] {h : AHeap} {b t n z : Nat} {ag s ro : Bool} {cs : List Value} {v : Value} (hb : h.get b = some (.cells cs z s ro)) (ht : szOf P t = some (n, ag)) (hp : pt ag n cs 0 = some v) : loadA (ctxOf P) h t (.pointer (some ⟨b, 0, none⟩)) = some v := by
  obtain ⟨i, h1, h2, h3⟩ := szOf_spec ht
  simp only [loadA, hb, h1]
  have := partA_pt h2 h3 cs 0
  unfold partA at this
  rw [this, hp]
theorem fin_cell2 {P : Program} [PC P] {H : AHeap} {Q : Value → AHeap → Prop} {rs : Array ResultVar} {l : EL} {L : List (Option ABlk)} {lo a t a' t' j k n n' : Nat} {ag ag' : Bool} {x y : Value} {ks : List Nat} (hc : Closed H) (hr : rs.toList = [.cell a t, .cell a' t'])
    (ha : lk l a = some (.pointer (some ⟨nb H j, 0, none⟩))) (ha' : lk l a' = some (.pointer (some ⟨nb H k, 0, none⟩))) (ht : szOf P t = some (n, ag)) (ht' : szOf P t' = some (n', ag')) (hj : L[j]? = some (some (.cells [x] 0 false false))) (hk : L[k]? = some (some (.cells [y] 0 false false)))
    (hp : pt ag n [x] 0 = some x) (hp' : pt ag' n' [y] 0 = some y) (hd : ∀ k ∈ ks, L[k]? = some (some .defd)) (hnd : ks.Nodup) (hv : flatD 8 (packA [x, y]) = true) (hq : Q (packA [x, y]) H) : Fin P rs H Q ⟨ofA l, ks.map (nb H), ext H lo L⟩ := by
  obtain ⟨h3, e1, e2⟩ := takeDefs_ext (lo := lo) hc hd hnd
  have gj : h3.get (nb H j) = some (.cells [x] 0 false false) := by
    rw [e2.get]; refine ext_get_new ?_
    rw [kills_get fun hm => by have := hd j hm; rw [hj] at this; cases this]; exact hj
  have gk : h3.get (nb H k) = some (.cells [y] 0 false false) := by
    rw [e2.get]; refine ext_get_new ?_
    rw [kills_get fun hm => by have := hd k hm; rw [hk] at this; cases this]; exact hk
  refine ⟨⟨h3, [x, y], packA [x, y], H, e1, ?_, (tidy_flat hc (fun _ _ h => ext_get_old hc h) hv).to e2, hq⟩⟩
  simp only [hr, resultsA, evalA, ofA_get, ha, ha', load_cell gj ht hp, load_cell gk ht' hp']
end Go.Den
namespace Go.Proofs.YtflbffhahoblfaaGreatDoor
open Go Go.Den Go.Sort
set_option maxRecDepth 100000
def kdL (t : List Tb) : List (List UInt8) := t.map fun x => x.kind.data.toList
def kdD (t : List Tb) : List (List UInt8) := Lib.compact (srtS (kdL t))
theorem kdL_snoc {t : List Tb} {i : Nat} (h : i < t.length) : kdL (t.take (i + 1)) = kdL (t.take i) ++ [t[i].kind.data.toList] := by
  unfold kdL; rw [take_snoc h, List.map_append]; rfl
theorem kdD_len (t : List Tb) : (kdD t).length ≤ t.length := by
  refine Nat.le_trans (compact_len _) ?_
  rw [srtS_len]; simp [kdL]
abbrev e1S (s : List UInt8) : List Value := [encStr s]
theorem e1S_flat : ∀ l : List (List UInt8), l.flatMap e1S = l.map encStr
  | [] => rfl
  | a :: l => by rw [List.flatMap_cons, e1S_flat l]; rfl
theorem has_cons {N : List (Option ABlk)} {k : Nat} {y : ABlk} {F : List (Nat × ABlk)} (h : N[k]? = some (some y)) (hF : Has N F) : Has N ((k, y) :: F) := fun p hp => by
  rcases List.mem_cons.1 hp with rfl | hp
  · exact h
  · exact hF p hp
theorem has_defs {N : List (Option ABlk)} {ks : List Nat} (h : ∀ k ∈ ks, N[k]? = some (some .defd)) : Has N (ks.map fun k => (k, .defd)) := fun p hp => by
  obtain ⟨k, hk, rfl⟩ := List.mem_map.1 hp
  exact h k hk
theorem has_eq {N N2 : List (Option ABlk)} {F : List (Nat × ABlk)} (h : Has N F) (e : ∀ p ∈ F, N2[p.1]? = N[p.1]?) : Has N2 F := fun p hp => by rw [e p hp]; exact h p hp
structure Jo (H : AHeap) (F : List (Nat × ABlk)) (K : Nat) (R : ALoop) (C : Prop) (h : AHeap) : Prop where
  low : h.low ≤ h.fresh
  closed : Closed h
  out : ∃ N, LQ h (ext H 0 N) ∧ Has N F ∧ N[K]? = some (some (.loop R)) ∧ C
section
variable {H : AHeap} {F : List (Nat × ABlk)} {K : Nat} {R : ALoop} {C : Prop} {h h' : AHeap}
theorem Jo.st (q : LQ h h') (hl : h'.low ≤ h'.fresh) (hj : Jo H F K R C h) : Jo H F K R C h' := by
  obtain ⟨N, a, b⟩ := hj.out
  exact ⟨hl, q.closed hj.closed, N, q.symm.trans a, b⟩
theorem Jo.ext (hc : Closed H) {lo : Nat} {M : List (Option ABlk)} (hj : Jo H F K R C h) : Jo H F K R C (Go.Den.ext h lo M) := by
  obtain ⟨N, a, b, c, d⟩ := hj.out
  exact ⟨low_ext, ext_closed hj.closed, N ++ M, (a.ext hj.closed).trans (ext_ext (lo' := 0) hc), b.app M, getApp c, d⟩
theorem Jo.get (hj : Jo H F K R C h) {k : Nat} {y : ABlk} (hm : (k, y) ∈ F) : h.get (nb H k) = some y := by
  obtain ⟨N, a, b, _⟩ := hj.out
  rw [a.get, ext_get_new (b.at hm)]
theorem Jo.loop (hj : Jo H F K R C h) : h.get (nb H K) = some (.loop R) := by
  obtain ⟨N, a, b, c, _⟩ := hj.out
  rw [a.get, ext_get_new c]
theorem Jo.Ext (hc : Closed H) (hj : Jo H F K R C h) : Ext H h := fun b y hb => by
  obtain ⟨N, a, _⟩ := hj.out
  rw [a.get]; exact ext_get_old hc hb
end
def ovK (t : List Tb) (l : List Bk) (k : ByteArray) : Option Int := ((begP l k).find? fun p => decide (p.2 > (cntK t k : Int))).map (·.1)
def ovL (t : List Tb) (l : List Bk) : List (List UInt8) → ByteArray × Int
  | [] => (strB [], 0)
  | k :: r => match ovK t l (strB k) with
    | some q => (strB k, q)
    | none => ovL t l r
def ovV (t : List Tb) (l : List Bk) : ByteArray × Int := ovL t l (kdD t)
theorem seq_one {P : Program} {rd : Option Nat} {nt : Nat} {ops : Array Oper} {r : List Oper} {i : Nat} {ds : List Nat} {e : Env} {H : AHeap} {lo : Nat} {L M : List (Option ABlk)} {K : St → Prop} {j : Nat} {x : ABlk} (h0 : L[j]? = some (some x)) (hl : L.length = j + 1) (hs : ∀ k, k < j → L[k]? = M[k]?)
    (hk : ∀ L' : List (Option ABlk), L'.length = j + 1 → (∀ k, k < j → L'[k]? = M[k]?) → L'[j]? = some (some x) → SeqL P rd nt ops r i ⟨e, ds, ext H lo L'⟩ K) : SeqL P rd nt ops r i ⟨e, ds, ext H lo L⟩ K := hk L hl hs h0
set_option maxHeartbeats 8000000 in
theorem overbooked_c {H : AHeap} {q r : Option Addr} {c d : Nat} {t : List Tb} {l : List Bk} (hs : SlAt H 2 tb q t) (hn : t.length < 1000000) (hr : SlAt H 4 bk r l) (hq : OldS H r) (hm : l.length < 1000000) :
    Ret Tryz.prog 51 [.slice q t.length c, .slice r l.length d] H (.tuple ⟨[.string (ovV t l).1, I (ovV t l).2]⟩) H := by
  refine fn_start Tryz.func51 rfl rfl rfl fun hc => ?_
  have hsE : ∀ lo L, SlAt (ext H lo L) 2 tb q t := fun lo L => hs.ext (ext_Ext hc)
  apply ct_seq
  apply ct_region
  apply seq_newP; exact do_box rfl rfl rfl; exact rfl
  iterate 2 (apply seq_newP; exact do_alloc rfl rfl; exact rfl)
  apply seq_nil
  apply ct_seq
  apply ct_region
  apply seq_plain; exact do_assign rfl; exact rfl
  apply seq_nil
  iterate 2 (apply ct_seq)
  apply ct_region
  apply seq_plain; exact do_load rfl (by exact ext_get_new rfl) rfl (by exact rfl); exact rfl
  apply seq_plain; exact do_lenS rfl rfl rfl; exact rfl
  apply seq_plain; exact do_move rfl; exact rfl
  apply seq_nil
  apply ct_block
  apply ct_loop
  refine lt_meas (α := Nat × Value × List (Option ABlk)) (fun a => [(1, .slice r l.length d), (2, .pointer (some ⟨nb H 0, 0, none⟩)), (4, .pointer (some ⟨nb H 1, 0, none⟩)), (5, .pointer (some ⟨nb H 2, 0, none⟩)), (6, a.2.1), (13, .slice q t.length c), (14, I t.length), (15, I a.1)]) (fun a => ext H H.fresh a.2.2) (fun a => a.1 ≤ t.length ∧ Lst H a.2.2 1 e1S 3 a.2.1 (kdL (t.take a.1)) ∧ a.2.2[0]? = some (some (bx [.slice q t.length c])) ∧ a.2.2[1]? = some (some (bx [.string (strB [])])) ∧ a.2.2[2]? = some (some (bx [I 0]))) (fun a => t.length - a.1) (fun a ha ih => ?_) (0, .slice none 0 0, _) ⟨by simp, .nil, rfl, rfl, rfl⟩ (by repeat (first | exact sub_nil | apply sub_cons rfl)) (.refl _)
  obtain ⟨i, v, L⟩ := a
  obtain ⟨hi, hv, f0, f1, f2⟩ := ha
  simp only at hi hv f0 f1 f2 ih ⊢
  have ih' := fun i' v' L' a1 a2 a3 a4 a5 a6 => ih (i', v', L') a1 ⟨a2, a3, a4, a5, a6⟩
  simp only at ih'
  clear ih
  apply ct_seq
  apply ct_region
  apply seq_plain; exact do_binInt rfl rfl rfl trivial; exact rfl
  apply seq_nil
  apply ct_seq
  refine ct_cond rfl (fun h1 => ?_) (fun h1 => ?_)
  · simp only [decide_eq_true_eq, Int.ofNat_lt] at h1
    obtain ⟨b, o, cs, z, s, ro, rfl, hg, hw⟩ := hs.out (by intro e; rw [e] at h1; simp at h1)
    have se := kdL_snoc h1
    have hl : (kdL (t.take i)).length ≤ i := by simp [kdL]; omega
    apply ct_skip
    apply ct_seq
    apply ct_block
    apply ct_seq
    apply ct_region
    apply seq_plain; exact do_indexAddrS rfl rfl rfl (by exact idx_nat (by omega)); exact rfl
    apply seq_plain; exact do_load rfl (by exact ext_get_old (by assumption) (by assumption)) rfl (by exact pt_sl (by assumption) (by omega)); exact rfl
    apply seq_newP; exact do_alloc rfl rfl; exact rfl
    apply seq_putC (hc := by assumption); rotate_left; exact do_store rfl rfl (by exact ext_get_new List.getElem?_concat_length) rfl rfl (nb_own _); rotate_left; exact (by simp)
    apply ct_region
    apply seq_plain; exact do_move rfl; exact rfl
    apply seq_plain; exact do_fieldAddr rfl rfl; exact rfl
    apply seq_plain; exact do_load rfl (by exact ext_get_new getSetLast) rfl (by exact rfl); exact rfl
    apply seq_newS; exact do_buildSlice rfl rfl rfl rfl rfl rfl rfl; exact rfl
    rw [set_mid rfl]
    refine seq_grow (xs := [t[i].kind.data.toList]) hc ((hv.app _).app _) (by simp only [List.length_append, List.length_cons, List.length_nil]; have := (List.getElem?_eq_some_iff.1 f2).1; omega) (fun _ => rfl) (fun _ => rfl) rfl rfl rfl rfl rfl rfl (ext_get_new List.getElem?_concat_length) rfl (by simp) ?_ (Nat.ne_of_beq_eq_false rfl) (Nat.ne_of_beq_eq_false rfl) rfl (fun v' L3 hv' hst3 hlen3 => ?_)
    · exact Nat.le_trans (Nat.mul_le_mul_right _ (by simp only [List.length_cons, List.length_nil]; omega : _ ≤ 3000000000)) (Nat.le_of_ble_eq_true rfl)
    rw [← se] at hv'
    have g0 := hst3 0 _ (by omega) (getApp (getApp f0))
    have g1 := hst3 1 _ (by omega) (getApp (getApp f1))
    have g2 := hst3 2 _ (by omega) (getApp (getApp f2))
    apply seq_plain; exact do_assign rfl; exact rfl
    apply seq_nil
    apply ct_region
    apply seq_plain; exact do_succ rfl (by omega); exact rfl
    apply seq_plain; exact do_move rfl; exact rfl
    apply seq_nil
    exact lt_to (by repeat (first | exact sub_nil | apply sub_cons rfl)) (.refl _) (ih' (i + 1) v' L3 (by omega) (by omega) hv' g0 g1 g2)
  have h1 : i = t.length := by simp at h1; omega
  subst h1
  rw [List.take_length] at hv
  clear ih'
  rcases hv.out with ⟨hne, rfl⟩ | ⟨hne, K, hK, rfl, hL⟩
  · have hbn : kdD t = [] := by
      have h0 := kdD_len t
      have h2 : (kdL t).length = 0 := by rw [hne]; rfl
      rw [show (kdL t).length = t.length by simp [kdL]] at h2
      exact List.length_eq_zero_iff.1 (by omega)
    have hov : ovV t l = (strB [], 0) := by unfold ovV; rw [hbn]; rfl
    rw [hov]
    apply ct_exit
    apply exit_eq; exact rfl
    apply ct_seq
    apply ct_region
    apply seq_plain; exact do_move rfl; exact rfl
    apply seq_call (ht := rfl); exact sortS0_c; exact rfl
    apply seq_nil
    iterate 2 (apply ct_seq)
    apply ct_region
    apply seq_plain; exact do_move rfl; exact rfl
    apply seq_call (ht := rfl); exact compactS0_c; exact rfl
    apply seq_plain; exact do_lenS rfl rfl rfl; exact rfl
    apply seq_plain; exact do_move rfl; exact rfl
    apply seq_nil
    apply ct_block
    apply ct_loop
    refine lt_up (fun i => [(4, .pointer (some ⟨nb H 1, 0, none⟩)), (5, .pointer (some ⟨nb H 2, 0, none⟩)), (29, I ((0 : Nat) : Int)), (30, I ((0 : Nat) : Int))]) (fun _ => True) 0 (fun i hi _ ih => ?_) 0 (by omega) trivial (by repeat (first | exact sub_nil | apply sub_cons rfl))
    apply ct_seq
    apply ct_region
    apply seq_plain; exact do_binInt rfl rfl rfl trivial; exact rfl
    apply seq_nil
    apply ct_seq
    refine ct_cond_f rfl rfl ?_
    apply ct_exit
    apply exit_eq; exact rfl
    apply ct_seq
    apply ct_region
    have l2 := (List.getElem?_eq_some_iff.1 f2).1
    refine seq_putQ (k := 1) hc (by omega) (do_store rfl rfl (ext_get_new f1) rfl rfl (nb_own _)) (fun N3 m3 o3 k3 => ?_)
    refine seq_putQC (k := 2) hc (by omega) (do_store rfl rfl (ext_get_new ((o3 2 (by omega)).trans f2)) rfl rfl (nb_own _)) (fun N4 m4 o4 k4 => ?_)
    apply ct_ret
    refine fin_cell2 (ks := []) (x := .string (strB [])) (y := I 0) (n := 1) (n' := 1) (ag := false) (ag' := false) (j := 1) (k := 2) hc rfl rfl rfl rfl rfl ?_ ?_ ?_ ?_ ?_ ?_ ?_ ?_
    · rw [o4 _ (by omega)]; exact k3
    · exact k4
    · rfl
    · rfl
    · simp
    · simp
    · rfl
    · exact ⟨rfl, rfl⟩
  have hlt : K < L.length := (List.getElem?_eq_some_iff.1 hL).1
  obtain ⟨T, hT⟩ : ∃ T, T = srtS (kdL t) := ⟨_, rfl⟩
  have hTl : T.length = (kdL t).length := by rw [hT, srtS_len]
  have hkl : (kdL t).length = t.length := by simp [kdL]
  have hL : L[K]? = some (some (.cells ((kdL t).map encStr) 1 true false)) := by rw [hL, e1S_flat]
  have cS : Ret Tryz.prog 93 [.slice (some ⟨nb H K, 0, none⟩) (kdL t).length (kdL t).length] (ext H H.fresh L) (packA []) ((ext H H.fresh L).put (nb H K) (.cells (T.map encStr) 1 true false)) := by
    rw [hT]; exact sortS_c (nb_own _) (ext_get_new hL) (by omega)
  obtain ⟨D, hD⟩ : ∃ D, D = kdD t := ⟨_, rfl⟩
  have hDT : D = Lib.compact T := by rw [hD, hT]; rfl
  have hDl : D.length ≤ T.length := by rw [hDT]; exact compact_len _
  obtain ⟨Z, hZ⟩ : ∃ Z, Z = D ++ List.replicate (T.length - D.length) [] := ⟨_, rfl⟩
  have hZl : Z.length = T.length := by rw [hZ]; simp; omega
  have cC : ∀ L' : List (Option ABlk), L'[K]? = some (some (.cells (T.map encStr) 1 true false)) → Ret Tryz.prog 94 [.slice (some ⟨nb H K, 0, none⟩) (kdL t).length (kdL t).length] (ext H H.fresh L') (.slice (some ⟨nb H K, 0, none⟩) D.length (kdL t).length) ((ext H H.fresh L').put (nb H K) (.cells (Z.map encStr) 1 true false)) := fun L' hL' => by
    rw [← hTl, hZ, hDT]
    exact compactS_c (nb_own _) (ext_get_new hL') (by omega) (Nat.le_refl _) (compact_len _)
  apply ct_exit
  apply exit_eq; exact rfl
  apply ct_seq
  apply ct_region
  apply seq_plain; exact do_move rfl; exact rfl
  refine seq_callPC (k := K) hc hlt rfl cS rfl ?_
  have hL1 : (L.set K (some (.cells (T.map encStr) 1 true false)))[K]? = some (some (.cells (T.map encStr) 1 true false)) := List.getElem?_set_self hlt
  iterate 2 (apply ct_seq)
  apply ct_region
  apply seq_plain; exact do_move rfl; exact rfl
  refine seq_callP (k := K) hc (by rw [List.length_set]; exact hlt) rfl (cC _ hL1) rfl ?_
  obtain ⟨M, hM⟩ : ∃ M, M = (L.set K (some (ABlk.cells (T.map encStr) 1 true false))).set K (some (ABlk.cells (Z.map encStr) 1 true false)) := ⟨_, rfl⟩
  have hMK : M[K]? = some (some (.cells (Z.map encStr) 1 true false)) := by rw [hM]; exact List.getElem?_set_self (by rw [List.length_set]; exact hlt)
  have m0 : M[0]? = some (some (bx [.slice q t.length c])) := by rw [hM, List.getElem?_set_ne (by omega), List.getElem?_set_ne (by omega)]; exact f0
  have m1 : M[1]? = some (some (bx [.string (strB [])])) := by rw [hM, List.getElem?_set_ne (by omega), List.getElem?_set_ne (by omega)]; exact f1
  have m2 : M[2]? = some (some (bx [I 0])) := by rw [hM, List.getElem?_set_ne (by omega), List.getElem?_set_ne (by omega)]; exact f2
  rw [← hM]
  clear hM hL1 cC cS hL hv f0 f1 f2 hlt
  apply seq_plain; exact do_lenS rfl rfl rfl; exact rfl
  apply seq_plain; exact do_move rfl; exact rfl
  apply seq_nil
  apply ct_block
  apply ct_loop
  refine lt_measD (α := Nat × List Nat × Nat × List (Option ABlk)) (fun a => [(1, .slice r l.length d), (2, .pointer (some ⟨nb H 0, 0, none⟩)), (4, .pointer (some ⟨nb H 1, 0, none⟩)), (5, .pointer (some ⟨nb H 2, 0, none⟩)), (28, .slice (some ⟨nb H K, 0, none⟩) D.length (kdL t).length), (29, I D.length), (30, I a.1)]) (fun a => a.2.1.map (nb H)) (fun a => ext H a.2.2.1 a.2.2.2) (fun a => a.1 ≤ D.length ∧ (a.2.2.2[0]? = some (some (bx [.slice q t.length c])) ∧ a.2.2.2[1]? = some (some (bx [.string (strB [])])) ∧ a.2.2.2[2]? = some (some (bx [I 0])) ∧ a.2.2.2[K]? = some (some (.cells (Z.map encStr) 1 true false))) ∧ (∀ k ∈ a.2.1, a.2.2.2[k]? = some (some .defd)) ∧ a.2.1.Nodup ∧ ovV t l = ovL t l (D.drop a.1)) (fun a => D.length - a.1) (fun a ha ih => ?_) (0, [], H.fresh, M) ⟨by simp, ⟨m0, m1, m2, hMK⟩, by simp, by simp, by rw [hD]; rfl⟩ rfl (by repeat (first | exact sub_nil | apply sub_cons rfl)) (.refl _)
  obtain ⟨i, ks, lo, L⟩ := a
  obtain ⟨hi, ⟨f0, f1, f2, fK⟩, hks, hnd, hov⟩ := ha
  simp only at hi f0 f1 f2 fK hks hnd hov ih ⊢
  have ih' := fun i' ks' lo' L' a1 a2 a3 a4 a5 a6 a7 a8 => ih (i', ks', lo', L') a1 ⟨a2, ⟨a3, a4, a5, a6⟩, a7, a8⟩
  simp only at ih'
  clear ih m0 m1 m2 hMK
  apply ct_seq
  apply ct_region
  apply seq_plain; exact do_binInt rfl rfl rfl trivial; exact rfl
  apply seq_nil
  apply ct_seq
  refine ct_cond rfl (fun h1 => ?_) (fun h1 => ?_)
  · have h1 : i < D.length := by simp at h1; omega
    have hZi : Z[i]'(by omega) = D[i] := by simp only [hZ]; exact List.getElem_append_left h1
    apply ct_skip
    apply ct_seq
    apply ct_block
    apply ct_seq
    apply ct_region
    apply seq_plain; exact do_indexAddrS rfl rfl rfl (by exact idx_nat (by omega)); exact rfl
    apply seq_plain; exact do_load rfl (by exact ext_get_new (by assumption)) rfl (by exact pt_map (by omega)); exact rfl
    apply seq_newP; exact do_alloc rfl rfl; exact rfl
    apply seq_putC (hc := by assumption); rotate_left; exact do_store rfl rfl (by exact ext_get_new List.getElem?_concat_length) rfl rfl (nb_own _); rotate_left; exact (by simp)
    apply ct_seq
    apply ct_region
    apply seq_plain; exact do_move rfl; exact rfl
    apply seq_plain; exact do_load rfl (by exact ext_get_new getSetLast) rfl (by exact rfl); exact rfl
    rw [hZi]
    refine seqL_to (l' := [(1, .slice r l.length d), (2, .pointer (some ⟨nb H 0, 0, none⟩)), (4, .pointer (some ⟨nb H 1, 0, none⟩)), (5, .pointer (some ⟨nb H 2, 0, none⟩)), (28, .slice (some ⟨nb H K, 0, none⟩) D.length (kdL t).length), (29, I D.length), (30, I i), (10, .pointer (some ⟨nb H L.length, 0, none⟩)), (34, .slice r l.length d), (35, .string (strB D[i]))]) (by repeat (first | exact sub_nil | apply sub_cons rfl)) (.refl _) (by simp) ?_
    rw [set_mid rfl]
    refine seq_one (j := L.length) (x := bx [.string (strB D[i])]) (M := L) List.getElem?_concat_length (by simp) (fun k hk => List.getElem?_append_left hk) fun L1 lL1 sL1 fD => ?_
    have c1 := begins_c (H := ext H lo L1) (n := l.length) (c := d) (k := strB D[i]) hq.ext
    rw [ext_add, ext_add, ext_fresh, nb_two] at c1
    apply seq_call (ht := rfl); exact c1; exact rfl
    obtain ⟨M2, hM2e⟩ : ∃ M2, M2 = L1 ++ [some (bx [.slice r l.length d])] ++ [some (bx [.string (strB D[i])])] := ⟨_, rfl⟩
    rw [← hM2e]
    have lM2 : M2.length = L1.length + 2 := by rw [hM2e]; simp
    have sM : ∀ (j : Nat) y, L1[j]? = some (some y) → M2[j]? = some (some y) := fun j y h => by rw [hM2e]; exact getApp (getApp h)
    have rn : M2[L1.length]? = some (some (bx [.slice r l.length d])) := by rw [hM2e]; exact getApp List.getElem?_concat_length
    have rr : M2[L1.length + 1]? = some (some (bx [.string (strB D[i])])) := by
      rw [hM2e]
      have : L1.length + 1 = (L1 ++ [some (bx [.slice r l.length d])]).length := by simp
      rw [this]; exact List.getElem?_concat_length
    have sL : ∀ (j : Nat) y, L[j]? = some (some y) → L1[j]? = some (some y) := fun j y h => (sL1 j (List.getElem?_eq_some_iff.1 h).1).trans h
    have gs : ∀ (j : Nat) y, L[j]? = some (some y) → M2[j]? = some (some y) := fun j y h => sM _ _ (sL _ _ h)
    have gD := sM _ _ fD
    have lt : ∀ (j : Nat) y, L[j]? = some (some y) → j < L.length := fun j y h => (List.getElem?_eq_some_iff.1 h).1
    have l2 := lt _ _ f2
    clear hM2e c1
    obtain ⟨F, hF⟩ : ∃ F : List (Nat × ABlk), F = (0, bx [.slice q t.length c]) :: (K, .cells (Z.map encStr) 1 true false) :: (L.length, bx [.string (strB D[i])]) :: (L1.length, bx [.slice r l.length d]) :: (L1.length + 1, bx [.string (strB D[i])]) :: (M2.length, .defd) :: ks.map (fun k => (k, .defd)) := ⟨_, rfl⟩
    have Flt : ∀ p ∈ F, p.1 ≠ 1 ∧ p.1 ≠ 2 ∧ p.1 < M2.length + 1 := by
      intro p hp
      rw [hF] at hp
      simp only [List.mem_cons] at hp
      have := lt _ _ fK
      rcases hp with rfl | rfl | rfl | rfl | rfl | rfl | hp
      · simp only; omega
      · simp only; omega
      · simp only; omega
      · simp only; omega
      · simp only; omega
      · simp only; omega
      · obtain ⟨k, hk, rfl⟩ := List.mem_map.1 hp
        have := hks k hk
        refine ⟨fun e => ?_, fun e => ?_, ?_⟩
        · simp only at e; rw [e, f1] at this; cases this
        · simp only at e; rw [e, f2] at this; cases this
        · have := lt _ _ this; simp only; omega
    apply seq_nil
    apply ct_block
    have hkP : ∀ p : Int × Int, decide (p.2 > (cntK t (strB D[i]) : Int)) = true ↔ p.2 > (cntK t (strB D[i]) : Int) := fun p => decide_eq_true_iff
    obtain ⟨Pq, hPq⟩ : ∃ Pq : Int × Int → Prop, Pq = fun p => p.2 > (cntK t (strB D[i]) : Int) := ⟨_, rfl⟩
    obtain ⟨JJ, hJJ⟩ : ∃ JJ : ALoop → List (Int × Int) → AHeap → Prop, JJ = fun R ps h => Jo H ((1, bx [.string (strB [])]) :: (2, bx [I 0]) :: F) (M2.length + 1) R (∀ p ∈ ps, ¬ Pq p) h := ⟨_, rfl⟩
    obtain ⟨SS, hSS⟩ : ∃ SS : ALoop → AHeap → Prop, SS = fun R h => ∃ p : Int × Int, Jo H ((1, bx [.string (strB D[i])]) :: (2, bx [I p.1]) :: F) (M2.length + 1) { R with state := .done, pending := some .ret } (ovK t l (strB D[i]) = some p.1) h := ⟨_, rfl⟩
    refine ct_rangeFuncR hc rfl (fun R _ h => (JJ R (begP l (strB D[i])) h ∨ SS R h) ∧ h.low ≤ (ext H lo (M2 ++ [some .defd, some (.loop R)])).low) (fun R hR => ?_) (fun R hR w h3 hw => ?_) (fun e d h h' q p => ⟨CodeT.to (fun _ _ h => h) q p.out⟩)
    · have eL : M2 ++ [some .defd, some (.loop R)] = M2 ++ [some .defd] ++ [some (.loop R)] := by simp
      have gF0 : Has (M2 ++ [some .defd, some (.loop R)]) F := by
        rw [hF]
        exact has_cons (getApp (gs _ _ f0)) (has_cons (getApp (gs _ _ fK)) (has_cons (getApp gD) (has_cons (getApp rn) (has_cons (getApp rr) (has_cons (by rw [eL]; exact getApp List.getElem?_concat_length) (has_defs fun k hk => getApp (gs _ _ (hks k hk))))))))
      have hj0 : JJ R [] (ext H lo (M2 ++ [some .defd, some (.loop R)])) := by
        rw [hJJ]
        refine ⟨low_ext, ext_closed hc, M2 ++ [some .defd, some (.loop R)], ⟨fun b => by rw [ext_get hc, ext_get hc], rfl⟩, has_cons (getApp (gs _ _ f1)) (has_cons (getApp (gs _ _ f2)) gF0), ?_, by simp⟩
        rw [eL]
        have : M2.length + 1 = (M2 ++ [some ABlk.defd]).length := by simp
        rw [this]; exact List.getElem?_concat_length
      have hfr : (ext H lo (M2 ++ [some .defd, some (.loop R)])).fresh = nb H (M2.length + 1 + 1) := by rw [ext_fresh, List.length_append]; rfl
      refine begins1_c (B := nb H (M2.length + 1)) (b1 := nb H L1.length) (b2 := nb H (L1.length + 1)) (q := r) (c := d) hm (J := JJ R) (S := SS R) ⟨fun ps h h' q1 q2 hj => ?_, fun h h' q1 q2 hj => ?_, fun h hj => ?_, fun ps h lo M hj => ?_, fun ps h hj => ?_, fun ps p rest h hsp hj => ?_⟩ hj0
      · rw [hJJ] at hj ⊢; exact Jo.st q1 q2 hj
      · rw [hSS] at hj ⊢; obtain ⟨p, hj⟩ := hj; exact ⟨p, Jo.st q1 q2 hj⟩
      · rw [hSS] at hj; obtain ⟨p, hj⟩ := hj; exact hj.low
      · rw [hJJ] at hj ⊢; exact Jo.ext hc hj
      · rw [hJJ] at hj
        exact ⟨hj.closed, hj.low, ⟨0, false, false, hj.get (by rw [hF]; simp)⟩, ⟨0, false, false, hj.get (by rw [hF]; simp)⟩, hr.ext (hj.Ext hc), .loop R, hj.loop⟩
      rw [hfr]
      rw [hJJ] at hj
      obtain ⟨N, a, b, e, hnp⟩ := hj.out
      have lK : M2.length + 1 < N.length := (List.getElem?_eq_some_iff.1 e).1
      refine RoundT.low (h' := ext H (min h.low H.fresh) N) ⟨fun b => by rw [a.get, ext_get hc, ext_get hc], a.next⟩ (by show min (min h.low H.fresh) H.fresh ≤ h.low; omega) ?_
      obtain ⟨Q, hQ⟩ : ∃ Q : Value → AHeap → Prop, Q = fun v h' => (∀ b y, nb H (M2.length + 1 + 1) ≤ b → b % 2 = 0 → h.get b = some y → h'.get b = some y) ∧ ((v = .bool true ∧ JJ R (ps ++ [p]) h') ∨ (v = .bool false ∧ SS R h')) := ⟨_, rfl⟩
      rw [← hQ]
      refine roundT_ct (e := (38, I p.2) :: (37, I p.1) :: _) hc e (by rw [hR]; rfl) ?_
      have eR : R.state = .ready ∧ R.pending = none := by rw [hR]; exact ⟨rfl, rfl⟩
      obtain ⟨Rb, hRb⟩ : ∃ Rb : ALoop, Rb = { R with state := .busy } := ⟨_, rfl⟩
      have eRb : ({ Rb with state := .ready, pending := none } : ALoop) = R := by
        rw [hRb]
        obtain ⟨r1, r2⟩ := eR
        cases R; simp only at r1 r2; subst r1; subst r2; rfl
      have eRs : ({ Rb with state := .done, pending := some .ret } : ALoop) = { R with state := .done, pending := some .ret } := by rw [hRb]
      simp only [hR, loopR]
      apply ct_seq
      apply ct_region
      apply seq_plain; exact do_assign rfl; exact rfl
      apply seq_nil
      apply ct_region
      apply seq_plain; exact do_assign rfl; exact rfl
      apply seq_nil
      refine ⟨⟨_, _, _, N, R, rfl, rfl, .refl _, e, eR.1, ?_⟩⟩
      rw [← hRb]
      obtain ⟨N1, hN1⟩ : ∃ N1, N1 = N.set (M2.length + 1) (some (.loop Rb)) := ⟨_, rfl⟩
      rw [← hN1]
      have l1 : N1.length = N.length := by rw [hN1]; simp
      have nK : N1[M2.length + 1]? = some (some (.loop Rb)) := by rw [hN1, List.getElem?_set_self lK]
      have no : ∀ j, j ≠ M2.length + 1 → N1[j]? = N[j]? := fun j hj => by rw [hN1, List.getElem?_set_ne (fun e => hj e.symm)]
      have n1 : N1[1]? = some (some (bx [.string (strB [])])) := by rw [no _ (by omega)]; exact b.at (by simp)
      have n2 : N1[2]? = some (some (bx [I 0])) := by rw [no _ (by omega)]; exact b.at (by simp)
      have n0 : N1[0]? = some (some (bx [.slice q t.length c])) := by rw [no _ (by omega)]; exact b.at (by rw [hF]; simp)
      have nD : N1[L.length]? = some (some (bx [.string (strB D[i])])) := by rw [no _ (by omega)]; exact b.at (by rw [hF]; simp)
      have bF : Has N F := fun p hp => b p (List.mem_cons_of_mem _ (List.mem_cons_of_mem _ hp))
      -- what a round leaves, whichever way it went
      have fin : ∀ (N2 : List (Option ABlk)) (X : ALoop) (C : Prop) (x1 x2 : ABlk), N2[M2.length + 1]? = some (some (.loop Rb)) → N2.length = N.length → (∀ j, j ≠ 1 → j ≠ 2 → j ≠ M2.length + 1 → N2[j]? = N[j]?) → N2[1]? = some (some x1) → N2[2]? = some (some x2) → C →
          ∀ h', HQ h' (ext H (min h.low H.fresh) (N2.set (M2.length + 1) (some (.loop X)))) → (∀ b y, nb H (M2.length + 1 + 1) ≤ b → b % 2 = 0 → h.get b = some y → h'.get b = some y) ∧ Jo H ((1, x1) :: (2, x2) :: F) (M2.length + 1) X C h' := fun N2 X C x1 x2 h2K hl h2o h21 h22 hC h' q' => by
        have hlow' : h'.low ≤ h'.fresh := by rw [q'.low, q'.fresh]; exact low_ext
        refine ⟨fun b y hb he hy => ?_, hlow', q'.symm.lq.closed (ext_closed hc), N2.set (M2.length + 1) (some (.loop X)), ?_, ?_, ?_, hC⟩
        · rw [q'.get, ext_high hc (lo := 0) (N := N) hb he (fun m hm => by rw [List.getElem?_set_ne (by omega)]; exact h2o m (by omega) (by omega) (by omega)), ← a.get]
          exact hy
        · exact ⟨fun b => by rw [q'.get, ext_get hc, ext_get hc], q'.next⟩
        · refine has_cons (by rw [List.getElem?_set_ne (by omega)]; exact h21) (has_cons (by rw [List.getElem?_set_ne (by omega)]; exact h22) (has_eq bF fun z hz => ?_))
          obtain ⟨z1, z2, z3⟩ := Flt z hz
          rw [List.getElem?_set_ne (by omega), h2o _ z1 z2 (by omega)]
        · rw [List.getElem?_set_self (by omega)]
      clear hN1 hR hj b e bF
      apply ct_block
      apply ct_seq
      apply ct_region
      apply seq_plain; exact do_move rfl; exact rfl
      iterate 2 (apply seq_plain; exact do_load rfl (by exact ext_get_new (by assumption)) rfl (by exact rfl); exact rfl)
      apply seq_call (ht := rfl); exact count_c (hsE _ _) (by omega); exact rfl
      apply seq_plain; exact do_binInt rfl rfl rfl trivial; exact rfl
      apply seq_nil
      refine ct_cond rfl (fun u => ?_) (fun u => ?_)
      · have u : p.2 > (cntK t (strB D[i]) : Int) := of_decide_eq_true u
        have ovp : ovK t l (strB D[i]) = some p.1 := by
          have h0 : (ps.find? fun p => decide (p.2 > (cntK t (strB D[i]) : Int))) = none := by
            rw [List.find?_eq_none]
            intro x hx
            have := hnp x hx
            rw [hPq] at this
            simpa using this
          unfold ovK
          rw [hsp, List.find?_append, h0, List.find?_cons_of_pos (by simpa using u)]; rfl
        apply ct_seq
        apply ct_region
        apply seq_plain; exact do_load rfl (by exact ext_get_new nD) rfl (by exact rfl); exact rfl
        apply seq_plain; exact do_move rfl; exact rfl
        refine seq_putQ (k := 1) hc (by omega) (do_store rfl rfl (ext_get_new n1) rfl rfl (nb_own _)) (fun N3 m3 o3 k3 => ?_)
        refine seq_putQC (k := 2) hc (by omega) (do_store rfl rfl (ext_get_new ((o3 2 (by omega)).trans n2)) rfl rfl (nb_own _)) (fun N4 m4 o4 k4 => ?_)
        apply ct_ret
        have nK4 : N4[M2.length + 1]? = some (some (.loop Rb)) := by rw [o4 _ (by omega), o3 _ (by omega)]; exact nK
        refine ⟨⟨_, N4, Rb, .refl _, nK4, fun h' q' => ?_⟩⟩
        have q'' : HQ h' (ext H (min h.low H.fresh) (N4.set (M2.length + 1) (some (.loop { R with state := .done, pending := some .ret })))) := by rw [← eRs]; exact q'
        obtain ⟨w1, w2⟩ := fin N4 _ (ovK t l (strB D[i]) = some p.1) (bx [.string (strB D[i])]) (bx [I p.1]) nK4 (by omega) (fun j h1 h2 h3 => by rw [o4 _ h2, o3 _ h1, no _ h3]) (by rw [o4 _ (by omega)]; exact k3) k4 ovp h' q''
        rw [hQ]
        exact ⟨w1, .inr ⟨rfl, by rw [hSS]; exact ⟨p, w2⟩⟩⟩
      · have u : ¬ p.2 > (cntK t (strB D[i]) : Int) := of_decide_eq_false u
        have hnp' : ∀ x ∈ ps ++ [p], ¬ Pq x := by
          intro x hx
          rcases List.mem_append.1 hx with hx | hx
          · exact hnp x hx
          · obtain rfl := List.mem_singleton.1 hx
            rw [hPq]; exact u
        apply ct_skip
        refine ⟨⟨_, N1, Rb, .refl _, nK, fun h' q' => ?_⟩⟩
        have q'' : HQ h' (ext H (min h.low H.fresh) (N1.set (M2.length + 1) (some (.loop R)))) := by rw [← eRb]; exact q'
        obtain ⟨w1, w2⟩ := fin N1 _ (∀ x ∈ ps ++ [p], ¬ Pq x) _ _ nK l1 (fun j h1 h2 h3 => no _ h3) n1 n2 hnp' h' q''
        rw [hQ]
        exact ⟨w1, .inl ⟨rfl, by rw [hJJ]; exact w2⟩⟩
    · obtain ⟨hj, hlo⟩ := hw
      have hl3 : h3.low ≤ H.fresh := Nat.le_trans hlo (Nat.min_le_right _ _)
      have hdc := List.drop_eq_getElem_cons h1
      rw [hdc] at hov
      rcases hj with hj | hj
      · rw [hJJ] at hj
        obtain ⟨N, a, b, e, hnp⟩ := hj.out
        have lK : M2.length + 1 < N.length := (List.getElem?_eq_some_iff.1 e).1
        have hp : R.pending = none := by rw [hR]; rfl
        have hq3 : HQ h3 (ext H h3.low N) := ⟨fun b => by rw [a.get, ext_get hc, ext_get hc], a.next, by show h3.low = min h3.low H.fresh; omega⟩
        refine ⟨R, h3.low, N, hq3, e, by rw [hR]; simp [loopR], ?_⟩
        obtain ⟨X, hX⟩ : ∃ X : ALoop, X = { R with state := .exhausted } := ⟨_, rfl⟩
        rw [← hX, hp]
        simp only
        obtain ⟨N1, hN1⟩ : ∃ N1, N1 = N.set (M2.length + 1) (some (.loop X)) := ⟨_, rfl⟩
        rw [← hN1]
        have no : ∀ j, j ≠ M2.length + 1 → N1[j]? = N[j]? := fun j hj => by rw [hN1, List.getElem?_set_ne (fun e => hj e.symm)]
        have bN : ∀ p ∈ F, N1[p.1]? = some (some p.2) := fun p hp => by rw [no _ (by have := Flt p hp; omega)]; exact b p (List.mem_cons_of_mem _ (List.mem_cons_of_mem _ hp))
        have n1 : N1[1]? = some (some (bx [.string (strB [])])) := by rw [no _ (by omega)]; exact b.at (by simp)
        have n2 : N1[2]? = some (some (bx [I 0])) := by rw [no _ (by omega)]; exact b.at (by simp)
        have n0 := bN (0, bx [.slice q t.length c]) (by rw [hF]; simp)
        have nK := bN (K, .cells (Z.map encStr) 1 true false) (by rw [hF]; simp)
        have nd := bN (M2.length, .defd) (by rw [hF]; simp)
        have nds : ∀ k ∈ M2.length :: ks, N1[k]? = some (some .defd) := fun k hk => by
          rcases List.mem_cons.1 hk with rfl | hk
          · exact nd
          · exact bN (k, .defd) (by rw [hF]; simp only [List.mem_cons]; exact .inr (.inr (.inr (.inr (.inr (.inr (List.mem_map.2 ⟨k, hk, rfl⟩)))))))
        have nnd : (M2.length :: ks).Nodup := List.nodup_cons.2 ⟨fun hm => by have := lt _ _ (hks _ hm); omega, hnd⟩
        have ov0 : ovK t l (strB D[i]) = none := by
          unfold ovK
          rw [Option.map_eq_none_iff, List.find?_eq_none]
          intro x hx
          have := hnp x hx
          rw [hPq] at this
          simpa using this
        have ov1 : ovV t l = ovL t l (D.drop (i + 1)) := by rw [hov]; simp only [ovL, ov0]
        clear hN1 hX
        apply ct_region
        apply seq_plain; exact do_succ rfl (by omega); exact rfl
        apply seq_plain; exact do_move rfl; exact rfl
        apply seq_nil
        exact lt_to (by repeat (first | exact sub_nil | apply sub_cons rfl)) (.refl _) (ih' (i + 1) (M2.length :: ks) h3.low N1 (by omega) (by omega) n0 n1 n2 nK nds ⟨nnd, ov1⟩)
      · rw [hSS] at hj
        obtain ⟨p, hj⟩ := hj
        obtain ⟨N, a, b, e, hov2⟩ := hj.out
        have lK : M2.length + 1 < N.length := (List.getElem?_eq_some_iff.1 e).1
        have hq3 : HQ h3 (ext H h3.low N) := ⟨fun b => by rw [a.get, ext_get hc, ext_get hc], a.next, by show h3.low = min h3.low H.fresh; omega⟩
        refine ⟨_, h3.low, N, hq3, e, by simp, ?_⟩
        simp only
        obtain ⟨N1, hN1⟩ : ∃ N1, N1 = N.set (M2.length + 1) (some (.loop { R with state := .exhausted, pending := some .ret })) := ⟨_, rfl⟩
        rw [← hN1]
        have no : ∀ j, j ≠ M2.length + 1 → N1[j]? = N[j]? := fun j hj => by rw [hN1, List.getElem?_set_ne (fun e => hj e.symm)]
        have bN : ∀ p ∈ F, N1[p.1]? = some (some p.2) := fun p hp => by rw [no _ (by have := Flt p hp; omega)]; exact b p (List.mem_cons_of_mem _ (List.mem_cons_of_mem _ hp))
        have n1 : N1[1]? = some (some (bx [.string (strB D[i])])) := by rw [no _ (by omega)]; exact b.at (by simp)
        have n2 : N1[2]? = some (some (bx [I p.1])) := by rw [no _ (by omega)]; exact b.at (by simp)
        have nd := bN (M2.length, .defd) (by rw [hF]; simp)
        have nds : ∀ k ∈ M2.length :: ks, N1[k]? = some (some .defd) := fun k hk => by
          rcases List.mem_cons.1 hk with rfl | hk
          · exact nd
          · exact bN (k, .defd) (by rw [hF]; simp only [List.mem_cons]; exact .inr (.inr (.inr (.inr (.inr (.inr (List.mem_map.2 ⟨k, hk, rfl⟩)))))))
        have nnd : (M2.length :: ks).Nodup := List.nodup_cons.2 ⟨fun hm => by have := lt _ _ (hks _ hm); omega, hnd⟩
        have ov1 : ovV t l = (strB D[i], p.1) := by rw [hov]; simp only [ovL, hov2]
        rw [ov1]
        apply ct_ret
        refine fin_cell2 (ks := M2.length :: ks) (x := .string (strB D[i])) (y := I p.1) (n := 1) (n' := 1) (ag := false) (ag' := false) (j := 1) (k := 2) hc rfl rfl rfl rfl rfl n1 n2 ?_ ?_ nds nnd ?_ ?_
        · rfl
        · rfl
        · rfl
        · exact ⟨rfl, rfl⟩
  · have h1 : i = D.length := by simp at h1; omega
    subst h1
    have e : ovV t l = (strB [], 0) := by rw [hov, List.drop_length]; rfl
    rw [e]
    apply ct_exit
    apply exit_eq; exact rfl
    apply ct_seq
    apply ct_region
    have l2 := (List.getElem?_eq_some_iff.1 f2).1
    refine seq_putQ (k := 1) hc (by omega) (do_store rfl rfl (ext_get_new f1) rfl rfl (nb_own _)) (fun N3 m3 o3 k3 => ?_)
    refine seq_putQC (k := 2) hc (by omega) (do_store rfl rfl (ext_get_new ((o3 2 (by omega)).trans f2)) rfl rfl (nb_own _)) (fun N4 m4 o4 k4 => ?_)
    apply ct_ret
    refine fin_cell2 (x := .string (strB [])) (y := I 0) (n := 1) (n' := 1) (ag := false) (ag' := false) (j := 1) (k := 2) hc rfl rfl rfl rfl rfl ?_ ?_ ?_ ?_ ?_ ?_ ?_ ?_
    · rw [o4 _ (by omega)]; exact k3
    · exact k4
    · rfl
    · rfl
    · intro k hk
      have := hks k hk
      have h1 : k ≠ 1 := fun e => by rw [e, f1] at this; cases this
      have h2 : k ≠ 2 := fun e => by rw [e, f2] at this; cases this
      rw [o4 _ h2, o3 _ h1]; exact this
    · exact hnd
    · rfl
    · exact ⟨rfl, rfl⟩
end Go.Proofs.YtflbffhahoblfaaGreatDoor
