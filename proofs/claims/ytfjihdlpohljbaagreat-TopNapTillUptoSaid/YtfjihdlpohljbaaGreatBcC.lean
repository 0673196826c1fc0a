/- Contracts: the keys of a map, sorted. -/
import Derived.Test.YtfjihdlpohljbaaGreatBcB
import Derived.Test.YtfjihdlpohljbaaGreatDeL
import Derived.Test.YtfjihdlpohljbaaGreatPrA
noncomputable section
namespace Go.Proofs.YtfjihdlpohljbaaGreat
open Go Go.Den
set_option maxRecDepth 100000

theorem lq_put {H : AHeap} (hc : Closed H) {h : AHeap} {lo k : Nat} {L : List (Option ABlk)} (q : LQ h (ext H lo L)) (hk : k < L.length) (x : ABlk) : LQ (h.put (nb H k) x) (ext H lo (L.set k (some x))) := by
  have p := ext_put (lo := lo) hc hk x
  refine ⟨fun b => ?_, ?_⟩
  · rw [← p.get, AHeap.get_put _ _ _ _ (nb_own _), AHeap.get_put _ _ _ _ (nb_own _), q.get]
  · rw [← p.next]; exact q.next
theorem ext_nb {H : AHeap} (hc : Closed H) {lo k : Nat} {L : List (Option ABlk)} {x : ABlk} (h : (ext H lo L).get (nb H k) = some x) : L[k]? = some (some x) := by
  rw [ext_get hc, if_pos ⟨own_iff.1 (nb_own k), nb_ge k⟩] at h
  have e : nb H k / 2 - H.next = k := by simp only [nb]; omega
  rw [e] at h
  split at h
  · rename_i y hy
    cases h; exact hy
  · cases h
theorem nb_ext {H : AHeap} {lo k : Nat} {L : List (Option ABlk)} : nb (ext H lo L) k = nb H (L.length + k) := by
  have e : (ext H lo L).next = H.next + L.length := rfl
  simp only [nb, e]
  omega
/-- a call's heap, told from the caller's start -/
theorem grown {H : AHeap} (hc : Closed H) {lo : Nat} {L M : List (Option ABlk)} {h : AHeap} (q : LQ h (ext (ext H lo L) 0 M)) (hl : h.low ≤ (ext H lo L).low) : HQ h (ext H h.low (L ++ M)) := by
  refine (q.trans (ext_ext (lo2 := h.low) hc)).hq ?_
  have : (ext H lo L).low = min lo H.fresh := rfl
  show h.low = min h.low H.fresh
  omega

/-- the keys of the map in a box, as a function that yields them -/
abbrev keysV (b1 : Nat) : Value := .func (.func 83) #[] #[.pointer (some ⟨b1, 0, none⟩)]
theorem keys_c {H : AHeap} {m : Nat} : CallT Tryz.prog 48 [.map (some m)] H (fun v h => LQ h (ext H 0 [some (bx [.map (some m)])]) ∧ h.low ≤ H.low ∧ v = keysV (nb H 0)) := by
  refine fn_start Tryz.func48 rfl rfl rfl fun hc => ?_
  apply ct_seq
  apply ct_region
  apply seq_newP; exact do_box rfl rfl rfl; exact rfl
  apply seq_plain; exact do_assign rfl; exact rfl
  apply seq_nil
  apply ct_seq
  apply ct_region
  apply seq_plain; exact do_makeFunc rfl rfl; exact rfl
  apply seq_plain; exact do_assign rfl; exact rfl
  apply seq_nil
  apply ct_ret
  refine fin_id rfl ⟨⟨fun b => ?_, rfl⟩, Nat.min_le_right _ _, rfl⟩
  rw [ext_get hc, ← ext_get hc (lo := H.fresh)]; rfl

/-- what lies there between the rounds -/
structure Kd (H : AHeap) (R : ALoop) (ps : List ByteArray) (h : AHeap) : Prop where
  low : h.low ≤ h.fresh
  closed : Closed h
  out : ∃ N v, LQ h (ext H 0 N) ∧ N[0]? = some (some (bx [v])) ∧ N[1]? = some (some .defd) ∧ N[2]? = some (some (.loop R)) ∧ Lst H N 1 s1 1 v ps
theorem kd_st {H : AHeap} {R : ALoop} {ps : List ByteArray} {h h' : AHeap} (q : LQ h h') (hl : h'.low ≤ h'.fresh) (hj : Kd H R ps h) : Kd H R ps h' := by
  obtain ⟨N, v, a, b⟩ := hj.out
  exact ⟨hl, q.closed hj.closed, N, v, q.symm.trans a, b⟩
theorem kd_ext {H : AHeap} (hc : Closed H) {R : ALoop} {ps : List ByteArray} {h : AHeap} {lo : Nat} {M : List (Option ABlk)} (hj : Kd H R ps h) : Kd H R ps (ext h lo M) := by
  obtain ⟨N, v, a, b, c, d, e⟩ := hj.out
  exact ⟨low_ext, ext_closed hj.closed, N ++ M, v, (a.ext hj.closed).trans (ext_ext (lo' := 0) hc), getApp b, getApp c, getApp d, e.app M⟩
theorem kd_old {H : AHeap} (hc : Closed H) {R : ALoop} {ps : List ByteArray} {h : AHeap} (hj : Kd H R ps h) {b : Nat} {x : ABlk} (hg : H.get b = some x) : h.get b = some x := by
  obtain ⟨N, v, a, _⟩ := hj.out
  rw [a.get, ext_get_old hc hg]
theorem kd_put {H : AHeap} (hc : Closed H) {R : ALoop} {ps : List ByteArray} {h : AHeap} {m' : Option Nat} {c d : Nat} {s s' : List Nat} (hg : h.get (nb H 3) = some (.miter m' c s d)) (hj : Kd H R ps h) : Kd H R ps (h.put (nb H 3) (.miter m' c s' d)) := by
  obtain ⟨N, v, a, b, c1, d1, e⟩ := hj.out
  have hN : N[3]? = some (some (.miter m' c s d)) := by rw [a.get] at hg; exact ext_nb hc hg
  have hlt := (List.getElem?_eq_some_iff.1 hN).1
  have q := lq_put hc a hlt (.miter m' c s' d)
  have hl : (h.put (nb H 3) (.miter m' c s' d)).low ≤ (h.put (nb H 3) (.miter m' c s' d)).fresh := by
    have := hj.low
    show min h.low (nb H 3) ≤ h.fresh
    omega
  refine ⟨hl, q.symm.closed (ext_closed hc), _, v, q, ?_, ?_, ?_, Lst.setL e hN (by intro cs h; cases h)⟩
  all_goals rw [List.getElem?_set_ne (by omega)]; assumption

set_option maxHeartbeats 4000000 in
theorem appendSeq_c {H : AHeap} {b1 m : Nat} {ks : List (ByteArray × Int)} (hn : ks.length ≤ 1000) (g1 : ∃ z s ro, H.get b1 = some (.cells [.map (some m)] z s ro)) (g2 : H.get m = some (balB ks)) :
    CallT Tryz.prog 109 [.slice none 0 0, keysV b1] H (fun v h => ∃ ps, ps.Perm (ks.map (·.1)) ∧ v = lstV H.fresh ps ∧ h = lstH H 1 s1 ps) := by
  refine fn_start Tryz.func109 rfl rfl rfl fun hc => ?_
  apply ct_seq
  apply ct_region
  apply seq_newP; exact do_box rfl rfl rfl; exact rfl
  apply seq_plain; exact do_assign rfl; exact rfl
  apply seq_nil
  apply ct_seq
  apply ct_seq
  apply ct_region
  apply seq_plain; exact do_move rfl; exact rfl
  apply seq_nil
  apply ct_block
  simp only [List.length_nil, List.nil_append]
  refine ct_rangeFuncR hc rfl (fun R _ h => (∃ ps, ps.Perm (ks.map (·.1)) ∧ Kd H R ps h) ∧ h.low ≤ (ext H H.fresh ([some (bx [.slice none 0 0])] ++ [some .defd, some (.loop R)])).low) (fun R hR => ?_) (fun R hR w h3 hw => ?_) (fun e d h h' q p => ⟨CodeT.to (fun _ _ h => h) q p.out⟩)
  · have hj0 : Kd H R [] (ext H H.fresh ([some (bx [.slice none 0 0])] ++ [some .defd, some (.loop R)])) :=
      ⟨low_ext, ext_closed hc, _, _, ⟨fun b => by rw [ext_get hc, ext_get hc], rfl⟩, rfl, rfl, rfl, .nil⟩
    have e3 : ∀ x, nb (ext H H.fresh ([some x] ++ [some .defd, some (.loop R)])) 0 = nb H 3 := fun x => by rw [nb_ext]; rfl
    refine keys1_c (B := nb H 2) (b1 := b1) (m := m) (ks := ks) (J := Kd H R) ⟨fun ps h h' => kd_st, fun ps h lo M => kd_ext hc, ?_, ?_, ?_⟩ hj0
    · rw [e3]
      exact fun ps h m' c s d s' hg hj => kd_put hc hg hj
    · intro ps h hj
      obtain ⟨z, s, ro, g1⟩ := g1
      obtain ⟨N, v, a, b, c, d, e⟩ := hj.out
      exact ⟨hj.closed, hj.low, ⟨z, s, ro, kd_old hc hj g1⟩, kd_old hc hj g2, .loop R, by rw [a.get]; exact ext_get_new d⟩
    · rw [e3]
      intro ps p h hlen hj
      obtain ⟨N, v, a, n0, n1, n2, e⟩ := hj.out
      have lK : 2 < N.length := (List.getElem?_eq_some_iff.1 n2).1
      refine RoundT.low (h' := ext H (min h.low H.fresh) N) ⟨fun b => by rw [a.get, ext_get hc, ext_get hc], a.next⟩ (by show min (min h.low H.fresh) H.fresh ≤ h.low; omega) ?_
      have hit : ∀ m' c s d, h.get (nb H 3) = some (.miter m' c s d) → N[3]? = some (some (.miter m' c s d)) := fun m' c s d hg => by rw [a.get] at hg; exact ext_nb hc hg
      obtain ⟨Q, hQ⟩ : ∃ Q : Value → AHeap → Prop, Q = fun v h' => v = .bool true ∧ Kd H R (ps ++ [p]) h' ∧ ∀ m' c s d, h.get (nb H 3) = some (.miter m' c s d) → h'.get (nb H 3) = some (.miter m' c s d) := ⟨_, rfl⟩
      rw [← hQ]
      refine roundT_ct (e := (7, .string p) :: _) hc n2 (by rw [hR]; rfl) ?_
      have eR : R.state = .ready ∧ R.pending = none := by rw [hR]; exact ⟨rfl, rfl⟩
      obtain ⟨Rb, hRb⟩ : ∃ Rb : ALoop, Rb = { R with state := .busy } := ⟨_, rfl⟩
      have eRb : ({ Rb with state := .ready, pending := none } : ALoop) = R := by
        rw [hRb]
        obtain ⟨r1, r2⟩ := eR
        cases R; simp only at r1 r2; subst r1; subst r2; rfl
      simp only [hR, loopR]
      apply ct_region
      apply seq_plain; exact do_assign rfl; exact rfl
      apply seq_nil
      refine ⟨⟨_, _, _, N, R, rfl, rfl, .refl _, n2, eR.1, ?_⟩⟩
      rw [← hRb]
      obtain ⟨N1, hN1⟩ : ∃ N1, N1 = N.set 2 (some (.loop Rb)) := ⟨_, rfl⟩
      rw [← hN1]
      have l1 : N1.length = N.length := by rw [hN1]; simp
      have k2 : N1[2]? = some (some (.loop Rb)) := by rw [hN1, List.getElem?_set_self lK]
      have k0 : N1[0]? = some (some (bx [v])) := by rw [hN1, List.getElem?_set_ne (by omega)]; exact n0
      have k1 : N1[1]? = some (some .defd) := by rw [hN1, List.getElem?_set_ne (by omega)]; exact n1
      have hit : ∀ m' c s d, h.get (nb H 3) = some (.miter m' c s d) → N1[3]? = some (some (.miter m' c s d)) := fun m' c s d hg => by rw [hN1, List.getElem?_set_ne (by omega)]; exact hit m' c s d hg
      have kL : Lst H N1 1 s1 1 v ps := by rw [hN1]; exact Lst.setL e n2 (by intro cs h; cases h)
      clear hN1 n0 n1 n2 e hR hj a
      apply ct_block
      apply ct_region
      apply seq_plain; exact do_load rfl (by exact ext_get_new (by assumption)) rfl (by exact rfl); exact rfl
      apply seq_plain; exact do_move rfl; exact rfl
      apply seq_newS; exact do_buildSlice rfl rfl rfl rfl rfl rfl rfl; exact rfl
      refine seq_growK (xs := [p]) hc (kL.app _) (by simp) (fun _ => rfl) (fun _ => rfl) rfl rfl rfl rfl rfl rfl (ext_get_new List.getElem?_concat_length) rfl (by simp) ?_ (Nat.ne_of_beq_eq_false rfl) (Nat.ne_of_beq_eq_false rfl) rfl (fun v2 L3 hv' hst3 hlen3 => ?_)
      · exact Nat.le_trans (Nat.mul_le_mul_right _ (by simp only [List.length_cons, List.length_nil]; omega : _ ≤ 30000)) (Nat.le_of_ble_eq_true rfl)
      obtain ⟨pv, rfl, _, _⟩ := hv'.slice (lo := 0) (fun _ => rfl)
      have st : ∀ (j : Nat) y, N1[j]? = some (some y) → (∀ cs, y ≠ .cells cs 1 true false) → L3[j]? = some (some y) := fun j y h hy => hst3 j y (getApp h) fun _ => hy _
      have t0 : L3[0]? = some (some (bx [v])) := st _ _ k0 (by simp)
      have l3 : 2 < L3.length := by rw [hlen3]; simp; omega
      refine seq_plain0 (do_store rfl rfl (ext_get_new t0) rfl rfl (nb_own _)) (seq_nil ⟨⟨_, _, Rb, ext_put hc (by omega) _, ?_, fun h' q' => ?_⟩⟩)
      · rw [List.getElem?_set_ne (by omega)]; exact st _ _ k2 (by intro cs; simp)
      rw [hQ]
      have er : ({ Rb with state := if (jumpOf Ex.normal).isNone then .ready else .done, pending := jumpOf Ex.normal } : ALoop) = R := eRb
      rw [er] at q'
      have hlow' : h'.low ≤ h'.fresh := by rw [q'.low, q'.fresh]; exact low_ext
      refine ⟨rfl, ⟨hlow', q'.symm.lq.closed (ext_closed hc), (L3.set 0 (some (bx [.slice pv (ps ++ [p]).length (ps ++ [p]).length]))).set 2 (some (.loop R)), .slice pv (ps ++ [p]).length (ps ++ [p]).length, ⟨fun b => by rw [q'.get, ext_get hc, ext_get hc], q'.next⟩, ?_, ?_, ?_, ?_⟩, fun m' c s d hg => ?_⟩
      · rw [List.getElem?_set_ne (by omega), List.getElem?_set_self (by omega)]
      · rw [List.getElem?_set_ne (by omega), List.getElem?_set_ne (by omega)]; exact st _ _ k1 (by simp)
      · rw [List.getElem?_set_self (by simp; omega)]
      · refine Lst.setL (Lst.setL hv' t0 (by intro cs h; cases h)) (y := .loop Rb) ?_ (by intro cs h; cases h)
        rw [List.getElem?_set_ne (by omega)]; exact st _ _ k2 (by intro cs; simp)
      · rw [q'.get]
        refine ext_get_new ?_
        rw [List.getElem?_set_ne (by omega), List.getElem?_set_ne (by omega)]
        exact st _ _ (hit _ _ _ _ hg) (by simp)
  · obtain ⟨⟨ps, hp, hj⟩, hlo⟩ := hw
    obtain ⟨N, v, a, n0, n1, n2, e⟩ := hj.out
    have lK : 2 < N.length := (List.getElem?_eq_some_iff.1 n2).1
    have hl3 : h3.low ≤ H.fresh := Nat.le_trans hlo (Nat.min_le_right _ _)
    have hpd : R.pending = none := by rw [hR]; rfl
    have hq : HQ h3 (ext H h3.low N) := ⟨fun b => by rw [a.get, ext_get hc, ext_get hc], a.next, by show h3.low = min h3.low H.fresh; omega⟩
    refine ⟨R, h3.low, N, hq, n2, by rw [hR]; simp [loopR], ?_⟩
    obtain ⟨X, hX⟩ : ∃ X : ALoop, X = { R with state := .exhausted } := ⟨_, rfl⟩
    rw [← hX, hpd]
    simp only
    obtain ⟨N1, hN1⟩ : ∃ N1, N1 = N.set 2 (some (.loop X)) := ⟨_, rfl⟩
    have k0 : N1[0]? = some (some (bx [v])) := by rw [hN1, List.getElem?_set_ne (by omega)]; exact n0
    have k1 : N1[1]? = some (some .defd) := by rw [hN1, List.getElem?_set_ne (by omega)]; exact n1
    have kL : Lst H N1 1 s1 1 v ps := by rw [hN1]; exact Lst.setL e n2 (by intro cs h; cases h)
    refine ct_to (l' := _) sub_refl (h' := ext H h3.low N1) (by rw [hN1]; exact .refl _) ?_
    clear hN1 n0 n1 n2 e hR hj a hq
    apply ct_seq
    apply ct_region
    apply seq_plain; exact do_load rfl (by exact ext_get_new (by assumption)) rfl (by exact rfl); exact rfl
    apply seq_plain; exact do_assign rfl; exact rfl
    apply seq_nil
    apply ct_ret
    exact fin_lstD (ks := [1]) hc kL rfl (fun _ => rfl) (fun k hk => by rw [List.mem_singleton] at hk; subst hk; exact k1) (by simp) ⟨ps, hp, rfl, rfl⟩

theorem collect_c {H : AHeap} {b1 m : Nat} {ks : List (ByteArray × Int)} (hn : ks.length ≤ 1000) (g1 : ∃ z s ro, H.get b1 = some (.cells [.map (some m)] z s ro)) (g2 : H.get m = some (balB ks)) :
    CallT Tryz.prog 81 [keysV b1] H (fun v h => ∃ ps, ps.Perm (ks.map (·.1)) ∧ v = lstV H.fresh ps ∧ h = lstH H 1 s1 ps) := by
  refine fn_start Tryz.func81 rfl rfl rfl fun hc => ?_
  obtain ⟨z, s, ro, g1⟩ := g1
  apply ct_seq
  apply ct_region
  apply seq_plain; exact do_assign rfl; exact rfl
  apply seq_nil
  apply ct_seq
  apply ct_region
  apply seq_plain; exact do_move rfl; exact rfl
  refine seq_callQ rfl (appendSeq_c (H := ext H H.fresh []) (b1 := b1) (m := m) hn ⟨z, s, ro, ext_get_old hc g1⟩ (ext_get_old hc g2)) rfl (fun v h hv => ?_)
  obtain ⟨ps, hp, rfl, rfl⟩ := hv
  rw [lstH_ext, ext_fresh]
  have hv : Lst H ([] ++ lstL 1 s1 ps) 1 s1 0 (lstV (nb H ([] : List (Option ABlk)).length) ps) ps := lst_ofL (Nat.zero_le _)
  apply seq_plain; exact do_assign rfl; exact rfl
  apply seq_nil
  apply ct_ret
  exact fin_lst hc hv rfl (fun _ => rfl) ⟨ps, hp, rfl, rfl⟩
end Go.Proofs.YtfjihdlpohljbaaGreat
