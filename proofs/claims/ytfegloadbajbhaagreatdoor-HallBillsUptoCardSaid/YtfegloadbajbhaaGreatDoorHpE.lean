/- HallBills: the law's own walk. -/
import Derived.Test.YtfegloadbajbhaaGreatDoorHpD
import Derived.Test.YtfegloadbajbhaaGreatDoorSxT
import Derived.Test.YtfegloadbajbhaaGreatDoorAwake
noncomputable section
namespace Go.Den
section
variable {P : Program} {rd : Option Nat} {nt : Nat} {ops : Array Oper} {l : EL} {ds : List Nat} {K : St → Prop} {i : Nat} {r : List Oper} {ty : TypeId} {pos : String} {af : Array Edge} {H : AHeap} {lo : Nat} {L0 : List (Option ABlk)} {ow : List Nat} {N : List ABlk}
/-- a call under a condition that makes a block -/
theorem sd_gcallN {d : Nat} {c : Call} {v : Nat → Value} {x : ABlk} {f : FuncId} {args : List Value} {j t : Nat} {w : Bool} (hg : gdst ops j = some t) (hl : lk l t = some (.bool w)) (ht : tgtE l c = some (f, args)) (hw : ow.length = N.length) (hm : ow.all (fun j => Nat.testBit (befS ops i) j) = true)
    (hc : Ret P f args (ext H lo (L0 ++ N.map some)) (v (ext H lo (L0 ++ N.map some)).fresh) ((ext H lo (L0 ++ N.map some)).add x)) (hd : Nat.blt d nt = true)
    (hk : SeqD P rd nt ops r (i + 1) ds ((d, v (nb H (L0.length + N.length))) :: l) H lo L0 (ow ++ [i]) (N ++ [x]) K) : SeqD P rd nt ops (⟨some d, .call c, ty, pos, af, some (j, w)⟩ :: r) i ds l H lo L0 ow N K := by
  have e : (ext H lo (L0 ++ N.map some)).fresh = nb H (L0.length + N.length) := by rw [ext_fresh]; simp
  rw [e, ext_add] at hc
  exact sd_ho fun ho => sd_some rfl (mask_allA hw hm) (fun _ ha => opT_ofGC ho rfl hg hl ht hc hd ha) hk
/-- a call under a condition that looks at the region's blocks -/
theorem sd_gcallM {d : Nat} {c : Call} {v : Value} {f : FuncId} {args : List Value} {j t : Nat} {w : Bool} (hg : gdst ops j = some t) (hl : lk l t = some (.bool w)) (ht : tgtE l c = some (f, args)) (hw : ow.length = N.length) (hm : ow.all (fun j => Nat.testBit (befS ops i) j) = true)
    (hc : Ret P f args (ext H lo (L0 ++ N.map some)) v (ext H lo (L0 ++ N.map some))) (hd : Nat.blt d nt = true)
    (hk : SeqD P rd nt ops r (i + 1) ds ((d, v) :: l) H lo L0 ow N K) : SeqD P rd nt ops (⟨some d, .call c, ty, pos, af, some (j, w)⟩ :: r) i ds l H lo L0 ow N K :=
  sd_ho fun ho => sd_none rfl (mask_allA hw hm) (fun _ ha => opT_ofGC ho rfl hg hl ht hc hd ha) hk
end
end Go.Den
namespace Go.Proofs.YtfegloadbajbhaaGreatDoor
open Go Go.Den
set_option maxRecDepth 100000

theorem books_one (b : Bk) : booksE [b] = bookE b := by
  unfold booksE
  rw [if_neg (by simp)]
  by_cases h : bookE b = 0
  · rw [h]; exact restG_none fun j hj => by
      obtain rfl : j = 0 := by simpa using hj
      rw [errG_at (by simp)]; exact h
  · rw [restG_at (i := 0) (by simp) (fun j hj => by omega) (by rw [errG_at (by simp)]; exact h), errG_at (by simp)]; rfl
theorem canc_bill (l : List Ra) (dep note : Int) (b : Bk) (quarter : Int) : firstL [billE l dep note b, whenL (outL quarter 0 99999) 3, whenL (decide (quarter > b.frm)) 11] = cancE l dep note b quarter := by
  unfold billE cancE
  by_cases h : chargeE l dep note = 0
  · by_cases h2 : bookE b = 0 <;> simp [firstL, h, h2]
  · simp [firstL, h]
/-- where the own charge and booking lie -/
structure OwnB (H : AHeap) (q : Option Addr) (c : Nat) (l : List Ra) (dep note : Int) (b : Bk) (k7 k8 : Nat) (p : Option Addr) (L : List (Option ABlk)) : Prop where
  b0 : L[0]? = some (some (.cells [.slice q l.length c, I dep, I note] 0 false false))
  b1 : L[1]? = some (some (.cells (bk b) 0 false false))
  b7 : L[k7]? = some (some (.cells [.slice p l.length l.length, I dep, I note] 0 false false))
  b8 : L[k8]? = some (some (.cells (bk b) 0 false false))
  sl : ∀ L' lo, Keeps L L' → SlAt (ext H lo L') 3 ra p l
set_option maxHeartbeats 16000000 in
theorem bills_w {H : AHeap} {q : Option Addr} {c : Nat} {l : List Ra} {dep note quarter : Int} {b : Bk} (haw : ∀ h, Ext H h → Ret Tryz.prog 17 [] h (.bool true) h) (hs : SlAt H 3 ra q l) (hlow : LowS q c l.length) (hn : l.length ≤ 1048576) :
    Ret Tryz.prog 8 [chV q l.length c dep note, .agg ⟨bk b⟩, I quarter] H (.bool true) H := by
  refine fn_start Tryz.func8 rfl rfl rfl fun hc => ?_
  have cO := fun L => ownCharge_c (c := c) (dep := dep) (note := note) (hs.ext (ext_Ext hc (lo := H.fresh) (L := L))) (by omega)
  apply ct_seq
  apply ct_region
  apply seq_newP; exact do_box rfl rfl rfl; exact rfl
  apply seq_newP; exact do_box rfl rfl rfl; exact rfl
  apply seq_plain; exact do_assign rfl; exact rfl
  apply seq_nil
  apply ct_seq
  apply ct_draw (by assumption); decide +kernel
  apply sd_look (hfree := rfl); exact do_load rfl (by exact ext_get_new rfl) rfl (by exact rfl); exact rfl
  refine sd_JX (α := Nat × Nat × Option Addr × List (Option ABlk)) (fun a => [(2, I quarter), (3, .pointer (some ⟨nb H 0, 0, none⟩)), (4, .pointer (some ⟨nb H 1, 0, none⟩)), (7, .pointer (some ⟨nb H a.1, 0, none⟩)), (8, .pointer (some ⟨nb H a.2.1, 0, none⟩))]) (fun a => ext H H.fresh a.2.2.2) (fun a => OwnB H q c l dep note b a.1 a.2.1 a.2.2.1 a.2.2.2) ?_ ?_
  · cases l with
    | nil =>
      refine sd_call rfl (cO _) rfl ?_
      apply sd_look (hfree := rfl); exact do_load rfl (by exact ext_get_new rfl) rfl (by exact rfl); exact rfl
      apply sd_newP (hfree := rfl); exact do_alloc rfl rfl; exact rfl
      apply sd_newP (hfree := rfl); exact do_alloc rfl rfl; exact rfl
      refine sd_turn (k := 0) (j := 3) hc rfl rfl rfl (by decide +kernel) (by decide +kernel) (do_store rfl rfl (by exact ext_get_new rfl) rfl rfl (nb_own _)) ?_
      refine sd_turn (k := 1) (j := 4) hc rfl rfl rfl (by decide +kernel) (by decide +kernel) (do_store rfl rfl (by exact ext_get_new rfl) rfl rfl (nb_own _)) ?_
      apply sd_nil
      exact jx_of (2, 3, none, _) ⟨rfl, rfl, rfl, rfl, fun _ _ _ => .nil⟩ (by repeat (first | exact sub_nil | apply sub_cons rfl)) rfl
    | cons x r =>
      refine sd_callN (v := fun b => .agg ⟨[.slice (some ⟨b, 0, none⟩) (x :: r).length (x :: r).length, I dep, I note]⟩) (x := .cells ((x :: r).flatMap ra) 3 true false) rfl rfl rfl (cO _) rfl ?_
      apply sd_look (hfree := rfl); exact do_load rfl (by exact ext_get_new rfl) rfl (by exact rfl); exact rfl
      apply sd_newP (hfree := rfl); exact do_alloc rfl rfl; exact rfl
      apply sd_newP (hfree := rfl); exact do_alloc rfl rfl; exact rfl
      refine sd_turn (k := 1) (j := 3) hc rfl rfl rfl (by decide +kernel) (by decide +kernel) (do_store rfl rfl (by exact ext_get_new rfl) rfl rfl (nb_own _)) ?_
      refine sd_turn (k := 2) (j := 4) hc rfl rfl rfl (by decide +kernel) (by decide +kernel) (do_store rfl rfl (by exact ext_get_new rfl) rfl rfl (nb_own _)) ?_
      apply sd_nil
      exact jx_of (3, 4, some ⟨nb H 2, 0, none⟩, _) ⟨rfl, rfl, rfl, rfl, fun L' lo hk => slAt_flat ra_len (ext_get_new (hk 2 _ rfl))⟩ (by repeat (first | exact sub_nil | apply sub_cons rfl)) rfl
  clear cO
  rintro ⟨k7, k8, p, L⟩ hO
  simp only at hO ⊢
  have f0 := hO.b0
  have f1 := hO.b1
  have f7 := hO.b7
  have f8 := hO.b8
  obtain ⟨T, hT⟩ : ∃ T : Bool, T = (decide ((l.length : Int) > 100) || (decide ((b.name.size : Int) > 40) || decide ((b.kind.size : Int) > 40))) := ⟨_, rfl⟩
  apply ct_seq
  apply ct_seq
  apply ct_region
  apply seq_call (ht := rfl); exact haw _ (ext_Ext hc); exact rfl
  apply seq_plain; exact do_unOp rfl rfl; exact rfl
  apply seq_plain; exact do_move rfl; exact rfl
  apply seq_guard (hd := rfl) (hl := rfl); exact do_fieldAddr rfl rfl; exact rfl
  apply seq_guard (hd := rfl) (hl := rfl); exact do_load rfl (by exact ext_get_new (by assumption)) rfl (by exact rfl); exact rfl
  apply seq_guard (hd := rfl) (hl := rfl); exact do_lenS rfl rfl rfl; exact rfl
  apply seq_guard (hd := rfl) (hl := rfl); exact do_binInt rfl rfl rfl trivial; exact rfl
  apply seq_plain; exact do_pick_f rfl rfl; exact rfl
  apply seq_plain; exact do_move rfl; exact rfl
  refine seq_J [(2, I quarter), (3, .pointer (some ⟨nb H 0, 0, none⟩)), (4, .pointer (some ⟨nb H 1, 0, none⟩)), (7, .pointer (some ⟨nb H k7, 0, none⟩)), (8, .pointer (some ⟨nb H k8, 0, none⟩)), (38, .bool T)] (ds := []) (h := ext H H.fresh L) ?_ ?_
  · refine seq_gsplit rfl rfl (fun u0 => ?_) (fun u0 => ?_)
    · have u0 : decide ((l.length : Int) > 100) = true := u0
      have e : T = true := by rw [hT, u0]; rfl
      rw [e]
      apply seq_passed (hd := rfl) (hl := rfl) (hb := rfl); exact rfl
      apply seq_passed (hd := rfl) (hl := rfl) (hb := rfl); exact rfl
      apply seq_passed (hd := rfl) (hl := rfl) (hb := rfl); exact rfl
      apply seq_passed (hd := rfl) (hl := rfl) (hb := rfl); exact rfl
      apply seq_plain; exact do_pick_t rfl rfl; exact rfl
      apply seq_plain; exact do_move rfl; exact rfl
      apply seq_passed (hd := rfl) (hl := rfl) (hb := rfl); exact rfl
      apply seq_passed (hd := rfl) (hl := rfl) (hb := rfl); exact rfl
      apply seq_passed (hd := rfl) (hl := rfl) (hb := rfl); exact rfl
      apply seq_passed (hd := rfl) (hl := rfl) (hb := rfl); exact rfl
      apply seq_plain; exact do_pick_t rfl rfl; exact rfl
      apply seq_nil
      exact jp_of (by repeat (first | exact sub_nil | apply sub_cons rfl))
    · have u0 : decide ((l.length : Int) > 100) = false := u0
      apply seq_guard (hd := rfl) (hl := rfl); exact do_fieldAddr rfl rfl; exact rfl
      apply seq_guard (hd := rfl) (hl := rfl); exact do_load rfl (by exact ext_get_new (by assumption)) rfl (by exact rfl); exact rfl
      apply seq_guard (hd := rfl) (hl := rfl); exact do_lenStr rfl rfl rfl; exact rfl
      apply seq_guard (hd := rfl) (hl := rfl); exact do_binInt rfl rfl rfl trivial; exact rfl
      apply seq_plain; exact do_pick_f rfl rfl; exact rfl
      apply seq_plain; exact do_move rfl; exact rfl
      refine seq_gsplit rfl rfl (fun u1 => ?_) (fun u1 => ?_)
      · have u1 : decide ((b.name.size : Int) > 40) = true := u1
        have e : T = true := by rw [hT, u0, u1]; rfl
        rw [e]
        apply seq_passed (hd := rfl) (hl := rfl) (hb := rfl); exact rfl
        apply seq_passed (hd := rfl) (hl := rfl) (hb := rfl); exact rfl
        apply seq_passed (hd := rfl) (hl := rfl) (hb := rfl); exact rfl
        apply seq_passed (hd := rfl) (hl := rfl) (hb := rfl); exact rfl
        apply seq_plain; exact do_pick_t rfl rfl; exact rfl
        apply seq_nil
        exact jp_of (by repeat (first | exact sub_nil | apply sub_cons rfl))
      · have u1 : decide ((b.name.size : Int) > 40) = false := u1
        have e : T = decide ((b.kind.size : Int) > 40) := by rw [hT, u0, u1]; rfl
        rw [e]
        apply seq_guard (hd := rfl) (hl := rfl); exact do_fieldAddr rfl rfl; exact rfl
        apply seq_guard (hd := rfl) (hl := rfl); exact do_load rfl (by exact ext_get_new (by assumption)) rfl (by exact rfl); exact rfl
        apply seq_guard (hd := rfl) (hl := rfl); exact do_lenStr rfl rfl rfl; exact rfl
        apply seq_guard (hd := rfl) (hl := rfl); exact do_binInt rfl rfl rfl trivial; exact rfl
        apply seq_plain; exact do_pick_f rfl rfl; exact rfl
        apply seq_nil
        exact jp_of (by repeat (first | exact sub_nil | apply sub_cons rfl))
  refine ct_cond rfl (fun h1 => ?_) (fun h1 => ?_)
  · apply ct_seq
    apply ct_region
    apply seq_call (ht := rfl); exact haw _ (ext_Ext hc); exact rfl
    apply seq_plain; exact do_assign rfl; exact rfl
    apply seq_nil
    apply ct_ret
    exact fin_flat hc rfl rfl ⟨rfl, rfl⟩
  have h1 : l.length ≤ 100 := by
    rw [h1] at hT
    have hT := hT.symm
    simp only [Bool.or_eq_false_iff, decide_eq_false_iff_not] at hT
    omega
  have cR := fun L' hK => refCharge_c (c := l.length) (dep := dep) (note := note) (hO.sl L' H.fresh hK) (by omega)
  have cC := fun L' => charge_c (dep := dep) (note := note) (hs.ext (ext_Ext hc (lo := H.fresh) (L := L'))) hlow (by omega)
  have cB : ∀ L', Ret Tryz.prog 61 [chV q l.length c dep note, .agg ⟨bk b⟩] (ext H H.fresh L') (.tuple ⟨[lstV (nb H L'.length) (billB l dep note b), I (billX l dep note b)]⟩) (ext H H.fresh (L' ++ lstL 3 po (billB l dep note b))) := fun L' => by
    have := bill_c (dep := dep) (note := note) (b := b) (hs.ext (ext_Ext hc (lo := H.fresh) (L := L'))) hlow (by omega)
    rwa [lstH_ext, ext_fresh] at this
  have cQ : ∀ L', Ret Tryz.prog 62 [chV q l.length c dep note, .agg ⟨bk b⟩, I quarter] (ext H H.fresh L') (.tuple ⟨[lstV (nb H L'.length) (cancB l dep note b quarter), I (cancE l dep note b quarter)]⟩) (ext H H.fresh (L' ++ lstL 3 po (cancB l dep note b quarter))) := fun L' => by
    have := cancel_c (dep := dep) (note := note) (b := b) (quarter := quarter) (hs.ext (ext_Ext hc (lo := H.fresh) (L := L'))) hlow (by omega)
    rwa [lstH_ext, ext_fresh] at this
  have e1 : (chargeE l dep note != chargeE l dep note) = false := by simp
  apply ct_skip
  apply ct_seq
  apply ct_region
  apply seq_plain; exact do_load rfl (by exact ext_get_new (by assumption)) rfl (by exact rfl); exact rfl
  apply seq_call (ht := rfl); exact cR _ (.refl _); exact rfl
  apply seq_plain; exact do_assign rfl; exact rfl
  apply seq_nil
  apply ct_seq
  apply ct_seq
  apply ct_region
  apply seq_plain; exact do_load rfl (by exact ext_get_new (by assumption)) rfl (by exact rfl); exact rfl
  apply seq_call (ht := rfl); exact cC _; exact rfl
  apply seq_plain; exact do_move rfl; exact rfl
  apply seq_plain; exact do_binInt rfl rfl rfl trivial; exact rfl
  apply seq_nil
  rw [e1]
  refine ct_cond_f rfl rfl ?_
  apply ct_skip
  apply ct_seq
  apply ct_region
  apply seq_plain; exact do_load rfl (by exact ext_get_new (by assumption)) rfl (by exact rfl); exact rfl
  apply seq_plain; exact do_load rfl (by exact ext_get_new (by assumption)) rfl (by exact rfl); exact rfl
  apply seq_call (ht := rfl); exact cB _; exact rfl
  have hv1 : Lst H (L ++ lstL 3 po (billB l dep note b)) 3 po 0 (lstV (nb H L.length) (billB l dep note b)) (billB l dep note b) := lst_ofL (Nat.zero_le _)
  obtain ⟨p1, e2, s1⟩ := hv1.slAll po_len
  rw [e2]
  obtain ⟨L1, hL1⟩ : ∃ L1, L1 = L ++ lstL 3 po (billB l dep note b) := ⟨_, rfl⟩
  have hK1 : Keeps L L1 := by rw [hL1]; exact .app _
  rw [← hL1] at s1 ⊢
  clear hv1 e2 hL1 cB
  have f0 := hK1 _ _ f0
  have f1 := hK1 _ _ f1
  have f7 := hK1 _ _ f7
  have f8 := hK1 _ _ f8
  apply seq_plain; exact do_move rfl; exact rfl
  apply seq_plain; exact do_extract rfl rfl; exact rfl
  apply seq_plain; exact do_extract rfl rfl; exact rfl
  apply seq_plain; exact do_assign rfl; exact rfl
  apply seq_plain; exact do_assign rfl; exact rfl
  apply seq_nil
  apply ct_seq
  apply ct_region
  apply seq_plain; exact do_load rfl (by exact ext_get_new (by assumption)) rfl (by exact rfl); exact rfl
  apply seq_plain; exact do_load rfl (by exact ext_get_new (by assumption)) rfl (by exact rfl); exact rfl
  apply seq_plain; exact do_move rfl; exact rfl
  apply seq_call (ht := rfl); exact cQ _; exact rfl
  have hv2 : Lst H (L1 ++ lstL 3 po (cancB l dep note b quarter)) 3 po 0 (lstV (nb H L1.length) (cancB l dep note b quarter)) (cancB l dep note b quarter) := lst_ofL (Nat.zero_le _)
  obtain ⟨p2, e3, s2⟩ := hv2.slAll po_len
  rw [e3]
  obtain ⟨L2, hL2⟩ : ∃ L2, L2 = L1 ++ lstL 3 po (cancB l dep note b quarter) := ⟨_, rfl⟩
  have hK2 : Keeps L1 L2 := by rw [hL2]; exact .app _
  rw [← hL2] at s2 ⊢
  clear hv2 e3 hL2 cQ
  have f0 := hK2 _ _ f0
  have f1 := hK2 _ _ f1
  have f7 := hK2 _ _ f7
  have f8 := hK2 _ _ f8
  apply seq_plain; exact do_move rfl; exact rfl
  apply seq_plain; exact do_extract rfl rfl; exact rfl
  apply seq_plain; exact do_extract rfl rfl; exact rfl
  apply seq_plain; exact do_assign rfl; exact rfl
  apply seq_plain; exact do_assign rfl; exact rfl
  apply seq_nil
  apply ct_seq
  apply ct_region
  apply seq_plain; exact do_move rfl; exact rfl
  apply seq_plain; exact do_load rfl (by exact ext_get_new (by assumption)) rfl (by exact rfl); exact rfl
  apply seq_newS; exact do_buildSlice rfl rfl rfl rfl rfl rfl rfl; exact rfl
  apply seq_call (ht := rfl); exact refBookings_c (l := [b]) (slAt_flat bk_len (ext_get_new (List.getElem?_concat_length (l := L2) (a := some (.cells ([b].flatMap bk) 4 false false))))) (by simp); exact rfl
  rw [books_one]
  apply seq_newS; exact do_buildSlice rfl rfl rfl rfl rfl rfl rfl; exact rfl
  apply seq_call (ht := rfl); exact lawFirst_c (l := [_, _]) (slAt_map (ext_get_new List.getElem?_concat_length)) (by simp); exact rfl
  rw [show firstL [chargeE l dep note, bookE b] = billE l dep note b from rfl]
  apply seq_plain; exact do_assign rfl; exact rfl
  apply seq_nil
  apply ct_seq
  apply ct_draw (by assumption); decide +kernel
  apply sd_plain (hfree := rfl); intro _; exact do_move rfl; exact rfl
  apply sd_plain (hfree := rfl); intro _; exact do_move rfl; exact rfl
  apply sd_call (ht := rfl); exact outside24; exact rfl
  apply sd_call (ht := rfl); exact when23; exact rfl
  apply sd_plain (hfree := rfl); intro _; exact do_move rfl; exact rfl
  apply sd_plain (hfree := rfl); intro _; exact do_fieldAddr rfl rfl; exact rfl
  apply sd_look (hfree := rfl); exact do_load rfl (by exact ext_get_new (getApp (getApp (getApp (by assumption))))) rfl (by exact rfl); exact rfl
  apply sd_plain (hfree := rfl); intro _; exact do_binInt rfl rfl rfl trivial; exact rfl
  apply sd_call (ht := rfl); exact when23; exact rfl
  apply sd_newS (hfree := rfl); exact do_buildSlice rfl rfl rfl rfl rfl rfl rfl; exact rfl
  apply sd_callM (ht := rfl) (hw := rfl); decide +kernel; exact lawFirst_c (l := [_, _, _]) (slAt_map (ext_get_new List.getElem?_concat_length)) (by simp); exact rfl
  rw [canc_bill]
  apply sd_plain (hfree := rfl); intro _; exact do_assign rfl; exact rfl
  apply sd_nil
  apply ct_seq
  apply ct_seq
  apply ct_region
  apply seq_plain; exact do_move rfl; exact rfl
  apply seq_plain; exact do_binInt rfl rfl rfl trivial; exact rfl
  apply seq_nil
  refine ct_JX (α := List (Option ABlk)) (ds := []) (fun _ => [(2, I quarter), (7, .pointer (some ⟨nb H k7, 0, none⟩)), (8, .pointer (some ⟨nb H k8, 0, none⟩)), (10, .slice p1 (billB l dep note b).length (billB l dep note b).length), (11, I (billX l dep note b)), (12, .slice p2 (cancB l dep note b quarter).length (cancB l dep note b quarter).length), (13, I (cancE l dep note b quarter)), (14, I (billX l dep note b)), (15, I (cancE l dep note b quarter))]) (fun L' => ext H H.fresh L') (fun L' => Keeps L2 L') ?_ ?_
  · refine ct_cond rfl (fun g1 => ?_) (fun g1 => ?_)
    · have g1 : billE l dep note b = 0 := by simpa using g1
      obtain ⟨hE1, hE2⟩ := billE_ok g1
      obtain ⟨hr, d1, d2, d3, d4⟩ := charge_ok hE1
      obtain ⟨hnm, b1, b2, b3⟩ := book_ok hE2
      have cP : ∀ L', Keeps L2 L' → Ret Tryz.prog 56 [.slice p l.length l.length, I b.frm, I b.to] (ext H H.fresh L') (I (priceP l b.frm.toNat b.to.toNat)) (ext H H.fresh L') := fun L' hK => by
        have := refPrice_c (c := l.length) (a := b.frm.toNat) (b := b.to.toNat) (hO.sl L' H.fresh (hK1.trans (hK2.trans hK))) hr (by omega) (by omega)
        rwa [Int.toNat_of_nonneg b1, Int.toNat_of_nonneg (by omega)] at this
      have pe : whenL (decide (priceP l b.frm.toNat b.to.toNat > 999999999)) 4 = billX l dep note b := by
        unfold billX
        rw [if_neg (by rw [g1]; simp)]
        simp only [whenL, decide_eq_true_eq]
      apply ct_region
      apply seq_plain; exact do_fieldAddr rfl rfl; exact rfl
      apply seq_plain; exact do_load rfl (by exact ext_get_new (getApp (getApp (getApp (by assumption))))) rfl (by exact rfl); exact rfl
      apply seq_plain; exact do_fieldAddr rfl rfl; exact rfl
      apply seq_plain; exact do_load rfl (by exact ext_get_new (getApp (getApp (getApp (by assumption))))) rfl (by exact rfl); exact rfl
      apply seq_plain; exact do_fieldAddr rfl rfl; exact rfl
      apply seq_plain; exact do_load rfl (by exact ext_get_new (getApp (getApp (getApp (by assumption))))) rfl (by exact rfl); exact rfl
      apply seq_call (ht := rfl); exact cP _ (((Keeps.app _).trans (.app _)).trans (.app _)); exact rfl
      apply seq_plain; exact do_binInt rfl rfl rfl trivial; exact rfl
      apply seq_call (ht := rfl); exact when23; exact rfl
      apply seq_plain; exact do_assign rfl; exact rfl
      apply seq_nil
      rw [pe]
      skip
      exact jx_of _ (((Keeps.app _).trans (.app _)).trans (.app _)) (by repeat (first | exact sub_nil | apply sub_cons rfl)) rfl
    · have g1 : billE l dep note b ≠ 0 := by simpa using g1
      have pe : billE l dep note b = billX l dep note b := by unfold billX; rw [if_pos g1]
      rw [pe]
      apply ct_skip
      exact jx_of _ (((Keeps.app _).trans (.app _)).trans (.app _)) (by repeat (first | exact sub_nil | apply sub_cons rfl)) rfl
  intro L3 hK3
  have f7 := hK3 _ _ f7
  have f8 := hK3 _ _ f8
  have hKO : Keeps L L3 := hK1.trans (hK2.trans hK3)
  obtain ⟨B, hB⟩ : ∃ B, B = billB l dep note b := ⟨_, rfl⟩
  obtain ⟨C, hC⟩ : ∃ C, C = cancB l dep note b quarter := ⟨_, rfl⟩
  obtain ⟨X, hX⟩ : ∃ X, X = billX l dep note b := ⟨_, rfl⟩
  obtain ⟨Y, hY⟩ : ∃ Y, Y = cancE l dep note b quarter := ⟨_, rfl⟩
  have hB0 : X ≠ 0 → B = [] := fun h => by rw [hB]; unfold billB; rw [if_pos (by rw [← hX]; exact h)]
  have hC0 : Y ≠ 0 → C = [] := fun h => by rw [hC]; unfold cancB; rw [if_pos (by rw [← hY]; exact h)]
  have hBl : B.length ≤ 4 := by
    rw [hB]; unfold billB
    split
    · simp
    · unfold billL
      have a1 := postL_len [] ⟨acc 0, acc 1, dep⟩
      have a2 := postL_len (postL [] ⟨acc 0, acc 1, dep⟩) ⟨acc 1, acc 2, min dep (priceP l b.frm.toNat b.to.toNat)⟩
      have a3 := postL_len (postL (postL [] ⟨acc 0, acc 1, dep⟩) ⟨acc 1, acc 2, min dep (priceP l b.frm.toNat b.to.toNat)⟩) ⟨acc 0, acc 2, priceP l b.frm.toNat b.to.toNat - dep⟩
      have a4 := postL_len (postL (postL (postL [] ⟨acc 0, acc 1, dep⟩) ⟨acc 1, acc 2, min dep (priceP l b.frm.toNat b.to.toNat)⟩) ⟨acc 0, acc 2, priceP l b.frm.toNat b.to.toNat - dep⟩) ⟨acc 1, acc 0, dep - priceP l b.frm.toNat b.to.toNat⟩
      simp only [List.length_nil] at a1
      omega
  have hCl : C.length ≤ 2 := by
    rw [hC]; unfold cancB
    split
    · simp
    · unfold cancL
      have a1 := postL_len [] ⟨acc 0, acc 1, dep⟩
      have a2 := postL_len (postL [] ⟨acc 0, acc 1, dep⟩) ⟨acc 1, acc (accQ note b quarter), dep⟩
      simp only [List.length_nil] at a1
      omega
  rw [← hB] at s1
  rw [← hC] at s2
  rw [← hB, ← hC, ← hX, ← hY]
  clear e1 cR cC
  apply ct_seq
  apply ct_seq
  apply ct_draw (by assumption); decide +kernel
  apply sd_plain (hfree := rfl); intro _; exact do_move rfl; exact rfl
  apply sd_plain (hfree := rfl); intro _; exact do_binInt rfl rfl rfl trivial; exact rfl
  apply sd_plain (hfree := rfl); intro _; exact do_move rfl; exact rfl
  refine sd_JX (α := List (Option ABlk)) (ds := []) (fun _ => [(2, I quarter), (7, .pointer (some ⟨nb H k7, 0, none⟩)), (8, .pointer (some ⟨nb H k8, 0, none⟩)), (12, .slice p2 C.length C.length), (13, I Y), (15, I Y), (115, .bool false)]) (fun L' => ext H H.fresh L') (fun L' => Keeps L3 L') ?_ ?_
  · by_cases hX0 : X = 0
    · have hz : (X != 0) = false := by simpa using hX0
      have hz2 : (X == 0) = true := by simpa using hX0
      have cO2 := fun L' (hK : Keeps L3 L') => ownPo_c (c := B.length) (s1 L' H.fresh (hK2.trans (hK3.trans hK))) (by omega)
      have cBr : ∀ L', Keeps L3 L' → Ret Tryz.prog 65 [chV p l.length l.length dep note, .agg ⟨bk b⟩] (ext H H.fresh L') (lstV (ext H H.fresh L').fresh B) (lstH (ext H H.fresh L') 3 po B) := fun L' hK => by
        rw [hB]
        exact refBill_c (hO.sl L' H.fresh (hKO.trans hK)) (by rw [← hX]; exact hX0)
      rw [hz]
      apply sd_passed (hg := rfl) (hl := rfl) (hb := rfl); exact rfl
      apply sd_passed (hg := rfl) (hl := rfl) (hb := rfl); exact rfl
      apply sd_passed (hg := rfl) (hl := rfl) (hb := rfl); exact rfl
      apply sd_passed (hg := rfl) (hl := rfl) (hb := rfl); exact rfl
      apply sd_passedU (hg := rfl) (hl := rfl); exact rfl
      apply sd_passedU (hg := rfl) (hl := rfl); exact rfl
      apply sd_passedU (hg := rfl) (hl := rfl); exact rfl
      apply sd_passed (hg := rfl) (hl := rfl) (hb := rfl); exact rfl
      apply sd_plain (hfree := rfl); intro _; exact do_pick_f rfl rfl; exact rfl
      apply sd_plain (hfree := rfl); intro _; exact do_move rfl; exact rfl
      apply sd_guard (hfree := rfl) (hg := rfl) (hl := rfl); intro _; exact do_move rfl; exact rfl
      apply sd_guard (hfree := rfl) (hg := rfl) (hl := rfl); intro _; exact do_binInt rfl rfl rfl trivial; exact rfl
      apply sd_guard (hfree := rfl) (hg := rfl) (hl := rfl); intro _; exact do_move rfl; exact rfl
      rw [hz2]
      apply sd_guard (hfree := rfl) (hg := rfl) (hl := rfl); intro _; exact do_move rfl; exact rfl
      apply sd_guard (hfree := rfl) (hg := rfl) (hl := rfl); intro _; exact do_binInt rfl rfl rfl trivial; exact rfl
      apply sd_guard (hfree := rfl) (hg := rfl) (hl := rfl); intro _; exact do_move rfl; exact rfl
      rw [hz]
      apply sd_guard (hfree := rfl) (hg := rfl) (hl := rfl); intro _; exact do_move rfl; exact rfl
      clear hB hB0
      cases B with
      | nil =>
        refine sd_gcall rfl rfl rfl (cO2 _ (.app _)) rfl ?_
        apply sd_guardL (hfree := rfl) (hg := rfl) (hl := rfl); exact do_load rfl (by exact ext_get_new (getApp (by assumption))) rfl (by exact rfl); exact rfl
        apply sd_guardL (hfree := rfl) (hg := rfl) (hl := rfl); exact do_load rfl (by exact ext_get_new (getApp (by assumption))) rfl (by exact rfl); exact rfl
        refine sd_gcall rfl rfl rfl (cBr _ (.app _)) rfl ?_
        skip
        refine sd_gcall rfl rfl rfl (samePostings_c (l := []) (m := []) .nil .nil (by simp)) rfl ?_
        apply sd_guard (hfree := rfl) (hg := rfl) (hl := rfl); intro _; exact do_unOp rfl rfl; exact rfl
        apply sd_guard (hfree := rfl) (hg := rfl) (hl := rfl); intro _; exact do_pick_f rfl rfl; exact rfl
        apply sd_guard (hfree := rfl) (hg := rfl) (hl := rfl); intro _; exact do_pick_t rfl rfl; exact rfl
        apply sd_plain (hfree := rfl); intro _; exact do_pick_f rfl rfl; exact rfl
        apply sd_nil
        exact jx_of _ (.app _) (by repeat (first | exact sub_nil | apply sub_cons rfl)) rfl
      | cons x r =>
        refine sd_gcallN (v := fun b => .slice (some ⟨b, 0, none⟩) (x :: r).length (x :: r).length) (x := .cells ((x :: r).flatMap po) 3 true false) rfl rfl rfl rfl rfl (cO2 _ (.app _)) rfl ?_
        apply sd_guardL (hfree := rfl) (hg := rfl) (hl := rfl); exact do_load rfl (by exact ext_get_new (getApp (by assumption))) rfl (by exact rfl); exact rfl
        apply sd_guardL (hfree := rfl) (hg := rfl) (hl := rfl); exact do_load rfl (by exact ext_get_new (getApp (by assumption))) rfl (by exact rfl); exact rfl
        refine sd_gcallN (v := fun b => .slice (some ⟨b, 0, none⟩) (x :: r).length (x :: r).length) (x := .cells ((x :: r).flatMap po) 3 true false) rfl rfl rfl rfl (by decide +kernel) (cBr _ (.app _)) rfl ?_
        skip
        refine sd_gcallM rfl rfl rfl rfl (by decide +kernel) (samePostings_c (l := x :: r) (m := x :: r) (slAt_flat (z := 3) (s := true) (ro := false) po_len (ext_get_new (by simp))) (slAt_flat (z := 3) (s := true) (ro := false) po_len (ext_get_new (by simp))) (by omega)) rfl ?_
        rw [decide_eq_true rfl]
        apply sd_guard (hfree := rfl) (hg := rfl) (hl := rfl); intro _; exact do_unOp rfl rfl; exact rfl
        apply sd_guard (hfree := rfl) (hg := rfl) (hl := rfl); intro _; exact do_pick_f rfl rfl; exact rfl
        apply sd_guard (hfree := rfl) (hg := rfl) (hl := rfl); intro _; exact do_pick_t rfl rfl; exact rfl
        apply sd_plain (hfree := rfl); intro _; exact do_pick_f rfl rfl; exact rfl
        apply sd_nil
        exact jx_of _ (.app _) (by repeat (first | exact sub_nil | apply sub_cons rfl)) rfl
    · have hz : (X != 0) = true := by simpa using hX0
      have hz2 : (X == 0) = false := by simpa using hX0
      have hz3 : (X != X) = false := by simp
      have hBn := hB0 hX0
      subst hBn
      rw [hz]
      apply sd_guard (hfree := rfl) (hg := rfl) (hl := rfl); intro _; exact do_move rfl; exact rfl
      apply sd_guardL (hfree := rfl) (hg := rfl) (hl := rfl); exact do_lenS rfl rfl rfl; exact rfl
      apply sd_guard (hfree := rfl) (hg := rfl) (hl := rfl); intro _; exact do_binInt rfl rfl rfl trivial; exact rfl
      apply sd_guard (hfree := rfl) (hg := rfl) (hl := rfl); intro _; exact do_move rfl; exact rfl
      apply sd_guard (hfree := rfl) (hg := rfl) (hl := rfl); intro _; exact do_move rfl; exact rfl
      apply sd_guard (hfree := rfl) (hg := rfl) (hl := rfl); intro _; exact do_move rfl; exact rfl
      apply sd_guard (hfree := rfl) (hg := rfl) (hl := rfl); intro _; exact do_binInt rfl rfl rfl trivial; exact rfl
      apply sd_guard (hfree := rfl) (hg := rfl) (hl := rfl); intro _; exact do_pick_f rfl rfl; exact rfl
      apply sd_plain (hfree := rfl); intro _; exact do_pick_t rfl rfl; exact rfl
      apply sd_plain (hfree := rfl); intro _; exact do_move rfl; exact rfl
      rw [hz3]
      apply sd_guard (hfree := rfl) (hg := rfl) (hl := rfl); intro _; exact do_move rfl; exact rfl
      apply sd_guard (hfree := rfl) (hg := rfl) (hl := rfl); intro _; exact do_binInt rfl rfl rfl trivial; exact rfl
      apply sd_guard (hfree := rfl) (hg := rfl) (hl := rfl); intro _; exact do_move rfl; exact rfl
      rw [hz2]
      apply sd_passed (hg := rfl) (hl := rfl) (hb := rfl); exact rfl
      apply sd_passed (hg := rfl) (hl := rfl) (hb := rfl); exact rfl
      apply sd_passed (hg := rfl) (hl := rfl) (hb := rfl); exact rfl
      apply sd_passedU (hg := rfl) (hl := rfl); exact rfl
      apply sd_passedU (hg := rfl) (hl := rfl); exact rfl
      apply sd_passedU (hg := rfl) (hl := rfl); exact rfl
      apply sd_passedU (hg := rfl) (hl := rfl); exact rfl
      apply sd_passedU (hg := rfl) (hl := rfl); exact rfl
      apply sd_passedU (hg := rfl) (hl := rfl); exact rfl
      apply sd_passedU (hg := rfl) (hl := rfl); exact rfl
      apply sd_passed (hg := rfl) (hl := rfl) (hb := rfl); exact rfl
      apply sd_guard (hfree := rfl) (hg := rfl) (hl := rfl); intro _; exact do_pick_f rfl rfl; exact rfl
      apply sd_plain (hfree := rfl); intro _; exact do_pick_f rfl rfl; exact rfl
      apply sd_nil
      exact jx_of _ (.app _) (by repeat (first | exact sub_nil | apply sub_cons rfl)) rfl
  intro L4 hK4
  have f7 := hK4 _ _ f7
  have f8 := hK4 _ _ f8
  have hKP : Keeps L L4 := hKO.trans hK4
  refine ct_cond_f rfl rfl ?_
  apply ct_skip
  apply ct_seq
  apply ct_seq
  apply ct_region
  apply seq_plain; exact do_move rfl; exact rfl
  apply seq_plain; exact do_binInt rfl rfl rfl trivial; exact rfl
  apply seq_nil
  refine ct_cond rfl (fun g2 => ?_) (fun g2 => ?_)
  · have g2 : Y ≠ 0 := by simpa using g2
    have hCn := hC0 g2
    subst hCn
    apply ct_seq
    apply ct_region
    apply seq_plain; exact do_move rfl; exact rfl
    apply seq_plain; exact do_lenS rfl rfl rfl; exact rfl
    apply seq_plain; exact do_binInt rfl rfl rfl trivial; exact rfl
    apply seq_plain; exact do_move rfl; exact rfl
    apply seq_guard (hd := rfl) (hl := rfl); exact do_move rfl; exact rfl
    apply seq_guard (hd := rfl) (hl := rfl); exact do_move rfl; exact rfl
    apply seq_guard (hd := rfl) (hl := rfl); exact do_binInt rfl rfl rfl trivial; exact rfl
    apply seq_plain; exact do_pick_t rfl rfl; exact rfl
    apply seq_plain; exact do_assign rfl; exact rfl
    apply seq_nil
    apply ct_ret
    refine fin_flat hc rfl rfl ⟨?_, rfl⟩
    simp [packA]
  have g2 : Y = 0 := by simpa using g2
  have hz : (Y == 0) = true := by simpa using g2
  have hE : cancE l dep note b quarter = 0 := by rw [← hY]; exact g2
  obtain ⟨hE1, hE2, q1, q2, q3⟩ := cancE_ok hE
  obtain ⟨hr, d1, d2, d3, d4⟩ := charge_ok hE1
  have hCe : C = cancL dep note b quarter := by rw [hC]; unfold cancB; rw [if_neg (by rw [hE]; simp)]
  have cO2 := fun L' (hK : Keeps L4 L') => ownPo_c (c := C.length) (s2 L' H.fresh (hK3.trans (hK4.trans hK))) (by omega)
  have cCr : ∀ L', Keeps L4 L' → Ret Tryz.prog 66 [chV p l.length l.length dep note, .agg ⟨bk b⟩, I quarter] (ext H H.fresh L') (lstV (ext H H.fresh L').fresh C) (lstH (ext H H.fresh L') 3 po C) := fun L' hK => by
    rw [hCe]
    exact refCancel_c ⟨q1, q2⟩ ⟨d3, d4⟩
  apply ct_skip
  apply ct_seq
  apply ct_draw (by assumption); decide +kernel
  apply sd_plain (hfree := rfl); intro _; exact do_move rfl; exact rfl
  apply sd_plain (hfree := rfl); intro _; exact do_binInt rfl rfl rfl trivial; exact rfl
  apply sd_plain (hfree := rfl); intro _; exact do_move rfl; exact rfl
  rw [hz]
  apply sd_guard (hfree := rfl) (hg := rfl) (hl := rfl); intro _; exact do_move rfl; exact rfl
  clear hC hC0 hCe
  cases C with
  | nil =>
    refine sd_gcall rfl rfl rfl (cO2 _ (.app _)) rfl ?_
    apply sd_guardL (hfree := rfl) (hg := rfl) (hl := rfl); exact do_load rfl (by exact ext_get_new (getApp (by assumption))) rfl (by exact rfl); exact rfl
    apply sd_guardL (hfree := rfl) (hg := rfl) (hl := rfl); exact do_load rfl (by exact ext_get_new (getApp (by assumption))) rfl (by exact rfl); exact rfl
    apply sd_guard (hfree := rfl) (hg := rfl) (hl := rfl); intro _; exact do_move rfl; exact rfl
    refine sd_gcall rfl rfl rfl (cCr _ (.app _)) rfl ?_
    skip
    refine sd_gcall rfl rfl rfl (samePostings_c (l := []) (m := []) .nil .nil (by simp)) rfl ?_
    apply sd_plain (hfree := rfl); intro _; exact do_pick_t rfl rfl; exact rfl
    apply sd_plain (hfree := rfl); intro _; exact do_assign rfl; exact rfl
    apply sd_nil
    apply ct_ret
    refine fin_flat hc rfl rfl ⟨?_, rfl⟩
    simp [packA]
  | cons x r =>
    refine sd_gcallN (v := fun b => .slice (some ⟨b, 0, none⟩) (x :: r).length (x :: r).length) (x := .cells ((x :: r).flatMap po) 3 true false) rfl rfl rfl rfl rfl (cO2 _ (.app _)) rfl ?_
    apply sd_guardL (hfree := rfl) (hg := rfl) (hl := rfl); exact do_load rfl (by exact ext_get_new (getApp (by assumption))) rfl (by exact rfl); exact rfl
    apply sd_guardL (hfree := rfl) (hg := rfl) (hl := rfl); exact do_load rfl (by exact ext_get_new (getApp (by assumption))) rfl (by exact rfl); exact rfl
    apply sd_guard (hfree := rfl) (hg := rfl) (hl := rfl); intro _; exact do_move rfl; exact rfl
    refine sd_gcallN (v := fun b => .slice (some ⟨b, 0, none⟩) (x :: r).length (x :: r).length) (x := .cells ((x :: r).flatMap po) 3 true false) rfl rfl rfl rfl (by decide +kernel) (cCr _ (.app _)) rfl ?_
    skip
    refine sd_gcallM rfl rfl rfl rfl (by decide +kernel) (samePostings_c (l := x :: r) (m := x :: r) (slAt_flat (z := 3) (s := true) (ro := false) po_len (ext_get_new (by simp))) (slAt_flat (z := 3) (s := true) (ro := false) po_len (ext_get_new (by simp))) (by omega)) rfl ?_
    rw [decide_eq_true rfl]
    apply sd_plain (hfree := rfl); intro _; exact do_pick_t rfl rfl; exact rfl
    apply sd_plain (hfree := rfl); intro _; exact do_assign rfl; exact rfl
    apply sd_nil
    apply ct_ret
    exact fin_flat hc rfl rfl ⟨rfl, rfl⟩
end Go.Proofs.YtfegloadbajbhaaGreatDoor
