/- Contracts: the greatest depth. -/
import Derived.Test.YtfjihdlpohljbaaGreatBgB
import Derived.Test.YtfjihdlpohljbaaGreatHkC
noncomputable section
namespace Go.Proofs.YtfjihdlpohljbaaGreat
open Go Go.Den
set_option maxRecDepth 100000
def depS (a p : Int × Int) : Int × Int := if p.2 > a.1 then (p.2, p.1) else a
def depA (ps : List (Int × Int)) : Int × Int := ps.foldl depS (0, 0)
theorem depA_snoc (ps : List (Int × Int)) (p : Int × Int) : depA (ps ++ [p]) = depS (depA ps) p := by simp [depA]
structure Jq (H : AHeap) (F : List (Nat × ABlk)) (K k8 k9 : Nat) (R : ALoop) (ps : List (Int × Int)) (h : AHeap) : Prop where
  low : h.low ≤ h.fresh
  closed : Closed h
  out : ∃ N, LQ h (ext H 0 N) ∧ Has N F ∧ N[K]? = some (some (.loop R)) ∧ N[k8]? = some (some (bx [I (depA ps).1])) ∧ N[k9]? = some (some (bx [I (depA ps).2]))
theorem jq_st {H : AHeap} {F : List (Nat × ABlk)} {K k8 k9 : Nat} {R : ALoop} {ps : List (Int × Int)} {h h' : AHeap} (q : LQ h h') (hl : h'.low ≤ h'.fresh) (hj : Jq H F K k8 k9 R ps h) : Jq H F K k8 k9 R ps h' := by
  obtain ⟨N, a, b⟩ := hj.out
  exact ⟨hl, q.closed hj.closed, N, q.symm.trans a, b⟩
theorem jq_ext {H : AHeap} (hc : Closed H) {F : List (Nat × ABlk)} {K k8 k9 : Nat} {R : ALoop} {ps : List (Int × Int)} {h : AHeap} {lo : Nat} {M : List (Option ABlk)} (hj : Jq H F K k8 k9 R ps h) : Jq H F K k8 k9 R ps (ext h lo M) := by
  obtain ⟨N, a, b, c, d, e⟩ := hj.out
  exact ⟨low_ext, ext_closed hj.closed, N ++ M, (a.ext hj.closed).trans (ext_ext (lo' := 0) hc), b.app M, getApp c, getApp d, getApp e⟩
theorem jq_get {H : AHeap} {F : List (Nat × ABlk)} {K k8 k9 : Nat} {R : ALoop} {ps : List (Int × Int)} {h : AHeap} (hj : Jq H F K k8 k9 R ps h) {k : Nat} {y : ABlk} (hm : (k, y) ∈ F) : h.get (nb H k) = some y := by
  obtain ⟨N, a, b, _⟩ := hj.out
  rw [a.get, ext_get_new (b.at hm)]
theorem jq_loop {H : AHeap} {F : List (Nat × ABlk)} {K k8 k9 : Nat} {R : ALoop} {ps : List (Int × Int)} {h : AHeap} (hj : Jq H F K k8 k9 R ps h) : h.get (nb H K) = some (.loop R) := by
  obtain ⟨N, a, b, c, _⟩ := hj.out
  rw [a.get, ext_get_new c]
theorem jq_Ext {H : AHeap} (hc : Closed H) {F : List (Nat × ABlk)} {K k8 k9 : Nat} {R : ALoop} {ps : List (Int × Int)} {h : AHeap} (hj : Jq H F K k8 k9 R ps h) : Ext H h := fun b y hb => by
  obtain ⟨N, a, _⟩ := hj.out
  rw [a.get]; exact ext_get_old hc hb
theorem ext_high {H : AHeap} (hc : Closed H) {lo lo2 K b : Nat} {N N2 : List (Option ABlk)} (hb : nb H (K + 1) ≤ b) (he : b % 2 = 0) (h : ∀ m, K < m → N2[m]? = N[m]?) : (ext H lo2 N2).get b = (ext H lo N).get b := by
  rw [ext_get hc, ext_get hc]
  have h1 : H.fresh ≤ b := Nat.le_trans (nb_ge _) hb
  rw [if_pos ⟨he, h1⟩, if_pos ⟨he, h1⟩]
  have h2 : K < b / 2 - H.next := by simp only [nb, AHeap.fresh] at hb h1; omega
  rw [h _ h2]
theorem seq_box {P : Program} {rd : Option Nat} {nt : Nat} {ops : Array Oper} {r : List Oper} {i : Nat} {ds : List Nat} {e : Env} {H : AHeap} {lo : Nat} {L : List (Option ABlk)} {K : St → Prop} {j k : Nat} {x y : ABlk} (h0 : L[j]? = some (some x)) (h1 : L[k]? = some (some y))
    (hk : ∀ L' : List (Option ABlk), L'[j]? = some (some x) → L'[k]? = some (some y) → SeqL P rd nt ops r i ⟨e, ds, ext H lo L'⟩ K) : SeqL P rd nt ops r i ⟨e, ds, ext H lo L⟩ K := hk L h0 h1
def depE (l : List Bk) (k : ByteArray) : Int := firstL [booksE l, nameE [k]]
def depV (l : List Bk) (k : ByteArray) : Int × Int := if depE l k ≠ 0 then (0, 0) else depA (begP l k)
theorem depV_zero {l : List Bk} {k : ByteArray} (h : depE l k = 0) : depV l k = depA (begP l k) := if_neg (by rw [h]; simp)
set_option maxHeartbeats 8000000 in
theorem Depth_c {H : AHeap} {q : Option Addr} {c : Nat} {l : List Bk} {k : ByteArray} (hs : SlAt H 4 bk q l) (hlow : LowS q c l.length) (hq : OldS H q) (hn : l.length < 1000000) :
    Ret Tryz.prog 25 [.slice q l.length c, .string k] H (.tuple ⟨[I (depV l k).1, I (depV l k).2, I (depE l k)]⟩) H := by
  refine fn_start Tryz.func25 rfl rfl rfl fun hc => ?_
  apply ct_seq
  apply ct_region
  iterate 3 (apply seq_plain; exact do_assign rfl; exact rfl)
  apply seq_nil
  iterate 2 (apply ct_seq)
  apply ct_region
  apply seq_plain; exact do_move rfl; exact rfl
  apply seq_call (ht := rfl); exact checkBookings_c (hs.ext (ext_Ext hc)) hlow (by omega); exact rfl
  apply seq_plain; exact do_move rfl; exact rfl
  apply seq_newS; exact do_buildSlice rfl rfl rfl rfl rfl rfl rfl; exact rfl
  apply seq_call (ht := rfl); exact named_c (l := [k]) (slAt_map (ext_get_new rfl)) (by simp); exact rfl
  apply seq_newS; exact do_buildSlice rfl rfl rfl rfl rfl rfl rfl; exact rfl
  apply seq_call (ht := rfl); exact first84 (l := [_, _]) (slAt_map (ext_get_new rfl)) (by simp); exact rfl
  apply seq_plain; exact do_assign rfl; exact rfl
  apply seq_nil
  apply ct_seq
  apply ct_region
  apply seq_plain; exact do_move rfl; exact rfl
  apply seq_plain; exact do_binInt rfl rfl rfl trivial; exact rfl
  apply seq_nil
  refine ct_cond rfl (fun h1 => ?_) (fun h1 => ?_)
  · have h1 : depE l k ≠ 0 := by unfold depE; simpa using h1
    have hV : depV l k = (0, 0) := if_pos h1
    rw [hV]
    apply ct_seq
    apply ct_region
    apply seq_plain; exact do_move rfl; exact rfl
    iterate 3 (apply seq_plain; exact do_assign rfl; exact rfl)
    apply seq_nil
    apply ct_ret
    exact fin_flat hc rfl rfl ⟨rfl, rfl⟩
  have h1 : depE l k = 0 := by unfold depE; simpa using h1
  rw [depV_zero h1, h1]
  apply ct_skip
  apply ct_seq
  apply ct_region
  iterate 2 (apply seq_newP; exact do_alloc rfl rfl; exact rfl)
  apply seq_put (hc := by assumption); rotate_left; exact do_store rfl rfl (by exact ext_get_new rfl) rfl rfl (nb_own _); rotate_left; exact Nat.le_of_ble_eq_true rfl
  apply seq_putC (hc := by assumption); rotate_left; exact do_store rfl rfl (by exact ext_get_new rfl) rfl rfl (nb_own _); rotate_left; exact Nat.le_of_ble_eq_true rfl
  iterate 2 (apply ct_seq)
  apply ct_region
  iterate 2 (apply seq_plain; exact do_move rfl; exact rfl)
  refine seqL_to (l' := [(8, .pointer (some ⟨nb H 2, 0, none⟩)), (9, .pointer (some ⟨nb H 3, 0, none⟩)), (22, .slice q l.length c), (23, .string k)]) (by repeat (first | exact sub_nil | apply sub_cons rfl)) (.refl _) (by simp) ?_
  refine seq_box (j := 2) (k := 3) (x := bx [I 0]) (y := bx [I 0]) rfl rfl fun L f8 f9 => ?_
  have l9 : 3 < L.length := (List.getElem?_eq_some_iff.1 f9).1
  have c1 := begins_c (H := ext H H.fresh L) (n := l.length) (c := c) (k := k) hq.ext
  rw [ext_add, ext_add, ext_fresh, nb_two] at c1
  apply seq_call (ht := rfl); exact c1; exact rfl
  obtain ⟨M2, hM2e⟩ : ∃ M2, M2 = L ++ [some (bx [.slice q l.length c])] ++ [some (bx [.string k])] := ⟨_, rfl⟩
  rw [← hM2e]
  have lM2 : M2.length = L.length + 2 := by rw [hM2e]; simp
  have sM : ∀ (j : Nat) y, L[j]? = some (some y) → M2[j]? = some (some y) := fun j y h => by rw [hM2e]; exact getApp (getApp h)
  have rn : M2[L.length]? = some (some (bx [.slice q l.length c])) := by rw [hM2e]; exact getApp List.getElem?_concat_length
  have rr : M2[L.length + 1]? = some (some (bx [.string k])) := by
    rw [hM2e]
    have : L.length + 1 = (L ++ [some (bx [.slice q l.length c])]).length := by simp
    rw [this]; exact List.getElem?_concat_length
  have g8 := sM _ _ f8
  have g9 := sM _ _ f9
  clear hM2e c1
  obtain ⟨F, hF⟩ : ∃ F : List (Nat × ABlk), F = [(L.length, bx [.slice q l.length c]), (L.length + 1, bx [.string k]), (M2.length, .defd)] := ⟨_, rfl⟩
  have Flt : ∀ p ∈ F, 4 ≤ p.1 ∧ p.1 < M2.length + 1 := by
    intro p hp
    rw [hF] at hp
    simp only [List.mem_cons, List.not_mem_nil, or_false] at hp
    rcases hp with rfl | rfl | rfl
    · simp only; omega
    · simp only; omega
    · simp only; omega
  apply seq_nil
  apply ct_block
  refine ct_rangeFuncR hc rfl (fun R _ h => (Jq H F (M2.length + 1) 2 3 R (begP l k) h ∨ False) ∧ h.low ≤ (ext H H.fresh (M2 ++ [some .defd, some (.loop R)])).low) (fun R hR => ?_) (fun R hR w h3 hw => ?_) (fun e d h h' q p => ⟨CodeT.to (fun _ _ h => h) q p.out⟩)
  · have eL : M2 ++ [some .defd, some (.loop R)] = M2 ++ [some .defd] ++ [some (.loop R)] := by simp
    have hj0 : Jq H F (M2.length + 1) 2 3 R [] (ext H H.fresh (M2 ++ [some .defd, some (.loop R)])) := by
      refine ⟨low_ext, ext_closed hc, M2 ++ [some .defd, some (.loop R)], ⟨fun b => by rw [ext_get hc, ext_get hc], rfl⟩, ?_, ?_, getApp g8, getApp g9⟩
      · intro p hp
        rw [hF] at hp
        simp only [List.mem_cons, List.not_mem_nil, or_false] at hp
        rcases hp with rfl | rfl | rfl
        · exact getApp rn
        · exact getApp rr
        · rw [eL]; exact getApp List.getElem?_concat_length
      · rw [eL]
        have : M2.length + 1 = (M2 ++ [some ABlk.defd]).length := by simp
        rw [this]; exact List.getElem?_concat_length
    have hfr : (ext H H.fresh (M2 ++ [some .defd, some (.loop R)])).fresh = nb H (M2.length + 1 + 1) := by rw [ext_fresh, List.length_append]; rfl
    refine begins1_c (B := nb H (M2.length + 1)) (b1 := nb H L.length) (b2 := nb H (L.length + 1)) (q := q) (c := c) hn (J := Jq H F (M2.length + 1) 2 3 R) (S := fun _ => False) ⟨fun ps h h' => jq_st, fun _ _ _ _ h => h, fun _ h => h.elim, fun ps h lo M => jq_ext hc, fun ps h hj => ⟨hj.closed, hj.low, ⟨0, false, false, jq_get hj (by rw [hF]; simp)⟩, ⟨0, false, false, jq_get hj (by rw [hF]; simp)⟩, hs.ext (jq_Ext hc hj), .loop R, jq_loop hj⟩, fun ps p rest h hsp hj => ?_⟩ hj0
    rw [hfr]
    obtain ⟨N, a, b, d, e, f⟩ := hj.out
    have lK : M2.length + 1 < N.length := (List.getElem?_eq_some_iff.1 d).1
    refine RoundT.low (h' := ext H (min h.low H.fresh) N) ⟨fun b => by rw [a.get, ext_get hc, ext_get hc], a.next⟩ (by show min (min h.low H.fresh) H.fresh ≤ h.low; omega) ?_
    obtain ⟨Q, hQ⟩ : ∃ Q : Value → AHeap → Prop, Q = fun v h' => (∀ b y, nb H (M2.length + 1 + 1) ≤ b → b % 2 = 0 → h.get b = some y → h'.get b = some y) ∧ ((v = .bool true ∧ Jq H F (M2.length + 1) 2 3 R (ps ++ [p]) h') ∨ (v = .bool false ∧ False)) := ⟨_, rfl⟩
    rw [← hQ]
    refine roundT_ct (e := (26, I p.2) :: (25, I p.1) :: _) hc d (by rw [hR]; rfl) ?_
    have eR : R.state = .ready ∧ R.pending = none := by rw [hR]; exact ⟨rfl, rfl⟩
    obtain ⟨Rb, hRb⟩ : ∃ Rb : ALoop, Rb = { R with state := .busy } := ⟨_, rfl⟩
    have eRb : ({ Rb with state := .ready, pending := none } : ALoop) = R := by
      rw [hRb]
      obtain ⟨r1, r2⟩ := eR
      cases R; simp only at r1 r2; subst r1; subst r2; rfl
    simp only [hR, loopR]
    apply ct_seq
    apply ct_region
    apply seq_plain; exact do_assign rfl; exact rfl
    apply seq_nil
    apply ct_region
    apply seq_plain; exact do_assign rfl; exact rfl
    apply seq_nil
    refine ⟨⟨_, _, _, N, R, rfl, rfl, .refl _, d, eR.1, ?_⟩⟩
    rw [← hRb]
    obtain ⟨N1, hN1⟩ : ∃ N1, N1 = N.set (M2.length + 1) (some (.loop Rb)) := ⟨_, rfl⟩
    rw [← hN1]
    have l1 : N1.length = N.length := by rw [hN1]; simp
    have n8 : N1[2]? = some (some (bx [I (depA ps).1])) := by rw [hN1, List.getElem?_set_ne (by omega)]; exact e
    have n9 : N1[3]? = some (some (bx [I (depA ps).2])) := by rw [hN1, List.getElem?_set_ne (by omega)]; exact f
    have nK : N1[M2.length + 1]? = some (some (.loop Rb)) := by rw [hN1, List.getElem?_set_self lK]
    have no : ∀ j, j ≠ M2.length + 1 → N1[j]? = N[j]? := fun j hj => by rw [hN1, List.getElem?_set_ne (fun e => hj e.symm)]
    -- what a round leaves, whichever way it went
    have fin : ∀ N2 : List (Option ABlk), N2.length = N.length → N2[M2.length + 1]? = some (some (.loop Rb)) → (∀ j, 4 ≤ j → j ≠ M2.length + 1 → N2[j]? = N[j]?) → N2[2]? = some (some (bx [I (depA (ps ++ [p])).1])) → N2[3]? = some (some (bx [I (depA (ps ++ [p])).2])) →
        ∀ h', HQ h' (ext H (min h.low H.fresh) (N2.set (M2.length + 1) (some (.loop { Rb with state := if (jumpOf Ex.normal).isNone then .ready else .done, pending := jumpOf Ex.normal })))) → Q (.bool (jumpOf Ex.normal).isNone) h' := fun N2 hl h2K h2o h28 h29 h' q' => by
      rw [hQ]
      have er : ({ Rb with state := if (jumpOf Ex.normal).isNone then .ready else .done, pending := jumpOf Ex.normal } : ALoop) = R := eRb
      rw [er] at q'
      have hlow' : h'.low ≤ h'.fresh := by rw [q'.low, q'.fresh]; exact low_ext
      refine ⟨fun b y hb he hy => ?_, .inl ⟨rfl, hlow', q'.symm.lq.closed (ext_closed hc), N2.set (M2.length + 1) (some (.loop R)), ?_, ?_, ?_, ?_, ?_⟩⟩
      · rw [q'.get, ext_high hc (lo := 0) (N := N) hb he (fun m hm => by rw [List.getElem?_set_ne (by omega)]; exact h2o m (by omega) (by omega)), ← a.get]
        exact hy
      · exact ⟨fun b => by rw [q'.get, ext_get hc, ext_get hc], q'.next⟩
      · intro z hz
        obtain ⟨z1, z2⟩ := Flt z hz
        rw [List.getElem?_set_ne (by omega), h2o _ z1 (by omega)]
        exact b z hz
      · rw [List.getElem?_set_self (by omega)]
      · rw [List.getElem?_set_ne (by omega)]; exact h28
      · rw [List.getElem?_set_ne (by omega)]; exact h29
    have ed := depA_snoc ps p
    clear hN1 hR hj b d e f
    apply ct_block
    apply ct_seq
    apply ct_region
    apply seq_plain; exact do_move rfl; exact rfl
    apply seq_plain; exact do_load rfl (by exact ext_get_new (by assumption)) rfl (by exact rfl); exact rfl
    apply seq_plain; exact do_binInt rfl rfl rfl trivial; exact rfl
    apply seq_nil
    refine ct_cond rfl (fun u => ?_) (fun u => ?_)
    · have u : p.2 > (depA ps).1 := by simpa using u
      have ed : depA (ps ++ [p]) = (p.2, p.1) := by rw [ed]; exact if_pos u
      rw [ed] at fin
      apply ct_region
      iterate 2 (apply seq_plain; exact do_move rfl; exact rfl)
      refine seq_putQ (k := 2) hc (by omega) (do_store rfl rfl (ext_get_new n8) rfl rfl (nb_own _)) (fun N3 m3 o3 k3 => ?_)
      have n9' := (o3 3 (by omega)).trans n9
      refine seq_plain0 (do_store rfl rfl (ext_get_new n9') rfl rfl (nb_own _)) (seq_nil ⟨⟨_, N3.set 3 (some (bx [I p.1])), Rb, ext_put hc (by omega) _, ?_, ?_⟩⟩)
      · rw [List.getElem?_set_ne (by omega), o3 _ (by omega)]; exact nK
      · refine fin _ (by rw [List.length_set]; omega) ?_ (fun j h1 h2 => ?_) ?_ ?_
        · rw [List.getElem?_set_ne (by omega), o3 _ (by omega)]; exact nK
        · rw [List.getElem?_set_ne (by omega), o3 _ (by omega)]; exact no j h2
        · rw [List.getElem?_set_ne (by omega)]; exact k3
        · rw [List.getElem?_set_self (by omega)]
    · have u : ¬ p.2 > (depA ps).1 := by simpa using u
      have ed : depA (ps ++ [p]) = depA ps := by rw [ed]; exact if_neg u
      rw [ed] at fin
      apply ct_skip
      exact ⟨⟨_, N1, Rb, .refl _, nK, fin N1 l1 nK (fun j h1 h2 => no j h2) n8 n9⟩⟩
  · obtain ⟨hj, hlo⟩ := hw
    rcases hj with hj | hj
    · obtain ⟨N, a, b, d, e, f⟩ := hj.out
      have lK : M2.length + 1 < N.length := (List.getElem?_eq_some_iff.1 d).1
      have hl3 : h3.low ≤ H.fresh := Nat.le_trans hlo (Nat.min_le_right _ _)
      have hp : R.pending = none := by rw [hR]; rfl
      have hq3 : HQ h3 (ext H h3.low N) := ⟨fun b => by rw [a.get, ext_get hc, ext_get hc], a.next, by show h3.low = min h3.low H.fresh; omega⟩
      refine ⟨R, h3.low, N, hq3, d, by rw [hR]; simp [loopR], ?_⟩
      obtain ⟨X, hX⟩ : ∃ X : ALoop, X = { R with state := .exhausted } := ⟨_, rfl⟩
      rw [← hX, hp]
      simp only
      obtain ⟨N1, hN1⟩ : ∃ N1, N1 = N.set (M2.length + 1) (some (.loop X)) := ⟨_, rfl⟩
      rw [← hN1]
      have n8 : N1[2]? = some (some (bx [I (depA (begP l k)).1])) := by rw [hN1, List.getElem?_set_ne (by omega)]; exact e
      have n9 : N1[3]? = some (some (bx [I (depA (begP l k)).2])) := by rw [hN1, List.getElem?_set_ne (by omega)]; exact f
      have nd : N1[M2.length]? = some (some .defd) := by
        rw [hN1, List.getElem?_set_ne (by omega)]
        exact b (M2.length, .defd) (by rw [hF]; simp)
      clear hN1
      apply ct_seq
      apply ct_draw (by assumption); decide +kernel
      iterate 2 (apply sd_look (hfree := rfl); exact do_load rfl (by exact ext_get_new (getApp (by assumption))) rfl (by exact rfl); exact rfl)
      iterate 3 (apply sd_plain (hfree := rfl); intro _; exact do_assign rfl; exact rfl)
      apply sd_nil
      apply ct_ret
      try simp only [List.map_nil, List.append_nil]
      exact fin_flatD (ks := [M2.length]) hc rfl (fun k hk => by simp only [List.mem_singleton] at hk; subst hk; first | exact nd | (simp only [List.map_nil, List.append_nil]; exact nd)) (by simp) rfl ⟨rfl, rfl⟩
    · exact hj.elim
end Go.Proofs.YtfjihdlpohljbaaGreat
/- Contracts: the greatest depth and the first kind with too many bookings, as the reference has them. -/
noncomputable section
namespace Go.Proofs.YtfjihdlpohljbaaGreat
open Go Go.Den
set_option maxRecDepth 100000
def rdB (l : List Bk) (k : ByteArray) (a : Int × Int) (x : Bk) : Bool := decide ((cntD l k x.frm : Int) > a.1) || ((decide ((cntD l k x.frm : Int) = a.1) && decide ((cntD l k x.frm : Int) > 0)) && decide (x.frm < a.2))
def rdS (l : List Bk) (k : ByteArray) (a : Int × Int) (x : Bk) : Int × Int := if rdB l k a x = true then ((cntD l k x.frm : Int), x.frm) else a
def rdA (l : List Bk) (k : ByteArray) (i : Nat) : Int × Int := (l.take i).foldl (rdS l k) (0, 0)
theorem rdA_succ {l : List Bk} {k : ByteArray} {i : Nat} (h : i < l.length) : rdA l k (i + 1) = rdS l k (rdA l k i) l[i] := by
  unfold rdA
  rw [take_snoc h, List.foldl_append]; rfl
end Go.Proofs.YtfjihdlpohljbaaGreat
/- Contracts: the first kind with too many bookings, as the reference has it. -/
noncomputable section
namespace Go.Proofs.YtfjihdlpohljbaaGreat
open Go Go.Den
set_option maxRecDepth 100000
abbrev Ovb := ByteArray × Int × Bool
def roB (a : Ovb) (x : Bk) : Bool := (!a.2.2 || Op.bytesLess x.kind.data.toList a.1.data.toList) || (decide (x.kind = a.1) && decide (x.frm < a.2.1))
def roS (t : List Tb) (l : List Bk) (a : Ovb) (x : Bk) : Ovb := if (cntD l x.kind x.frm : Int) ≤ cntK t x.kind then a else if roB a x = true then (x.kind, x.frm, true) else a
def roA (t : List Tb) (l : List Bk) (i : Nat) : Ovb := (l.take i).foldl (roS t l) (strB [], 0, false)
theorem roA_succ {t : List Tb} {l : List Bk} {i : Nat} (h : i < l.length) : roA t l (i + 1) = roS t l (roA t l i) l[i] := by
  unfold roA
  rw [take_snoc h, List.foldl_append]; rfl
end Go.Proofs.YtfjihdlpohljbaaGreat
