/- Contracts: the bill of a booking, and what a cancellation posts. -/
import Derived.Test.YtfjihdlpohljbaaGreatHpB
import Derived.Test.YtfjihdlpohljbaaGreatHaF
noncomputable section
namespace Go.Proofs.YtfjihdlpohljbaaGreat
open Go Go.Den
set_option maxRecDepth 100000

theorem Posted.two {f : FuncId} {args : List Value} {H : AHeap} {L L' : List (Option ABlk)} {K K' : Nat} {l l' : List Po} {v' : Value} (p : Posted f args H L K l v' K' L' l') (h2 : 2 ≤ L.length) (hK : l ≠ [] → 2 ≤ K) : l' ≠ [] → 2 ≤ K' := fun h => by
  rcases p.last h with ⟨rfl, rfl⟩ | h3
  · exact hK h
  · omega
theorem Posted.box {f : FuncId} {args : List Value} {H : AHeap} {L L' : List (Option ABlk)} {K K' : Nat} {l l' : List Po} {v' : Value} (p : Posted f args H L K l v' K' L' l') (h2 : 2 ≤ L.length) (hK : l ≠ [] → 2 ≤ K) {j : Nat} (hj : j < 2) : L'[j]? = L[j]? :=
  p.keep j (by omega) fun h => by have := hK h; omega
theorem ct_box2 {P : Program} {rd : Option Nat} {nt : Nat} {ds : List Nat} {e : Env} {H : AHeap} {lo : Nat} {L : List (Option ABlk)} {c : Code} {Qn : St → Prop} {Qe : Nat → St → Prop} {Qr : St → Prop} {x y : ABlk} (h0 : L[0]? = some (some x)) (h1 : L[1]? = some (some y))
    (hk : ∀ L', 2 ≤ L'.length → L'[0]? = some (some x) → L'[1]? = some (some y) → CT P rd nt c ⟨e, ds, ext H lo L'⟩ Qn Qe Qr) : CT P rd nt c ⟨e, ds, ext H lo L⟩ Qn Qe Qr :=
  hk L (List.getElem?_eq_some_iff.1 h1).1 h0 h1
theorem book_ok {b : Bk} (h : bookE b = 0) : nameE [b.name, b.kind] = 0 ∧ 0 ≤ b.frm ∧ b.frm < b.to ∧ b.to ≤ 99999 := by
  have t := firstL_allZ h
  have t1 := t _ (List.mem_cons_self ..)
  have t2 := whenL_z (t _ (List.mem_cons_of_mem _ (List.mem_cons_self ..))) (by decide)
  have t3 := whenL_z (t _ (List.mem_cons_of_mem _ (List.mem_cons_of_mem _ (List.mem_cons_self ..)))) (by decide)
  have t4 := whenL_z (t _ (List.mem_cons_of_mem _ (List.mem_cons_of_mem _ (List.mem_cons_of_mem _ (List.mem_cons_self ..))))) (by decide)
  simp only [outL, decide_eq_false_iff_not] at t2 t3 t4
  exact ⟨t1, by omega, by omega, by omega⟩
theorem charge_ok {l : List Ra} {dep note : Int} (h : chargeE l dep note = 0) : RatesOk l ∧ 0 ≤ dep ∧ dep ≤ 999999999 ∧ 0 ≤ note ∧ note ≤ 99999 := by
  have t := firstL_allZ h
  have t1 := rates_ok (t _ (List.mem_cons_self ..))
  have t2 := whenL_z (t _ (List.mem_cons_of_mem _ (List.mem_cons_self ..))) (by decide)
  have t3 := whenL_z (t _ (List.mem_cons_of_mem _ (List.mem_cons_of_mem _ (List.mem_cons_self ..)))) (by decide)
  simp only [outL, decide_eq_false_iff_not] at t2 t3
  exact ⟨t1, by omega, by omega, by omega, by omega⟩
/-- the bill of a price and a deposit -/
def billL (p dep : Int) : List Po := postL (postL (postL (postL [] ⟨acc 0, acc 1, dep⟩) ⟨acc 1, acc 2, min dep p⟩) ⟨acc 0, acc 2, p - dep⟩) ⟨acc 1, acc 0, dep - p⟩
def billE (l : List Ra) (dep note : Int) (b : Bk) : Int := firstL [chargeE l dep note, bookE b]
def billX (l : List Ra) (dep note : Int) (b : Bk) : Int := if billE l dep note b ≠ 0 then billE l dep note b else if priceP l b.frm.toNat b.to.toNat > 999999999 then 4 else 0
def billB (l : List Ra) (dep note : Int) (b : Bk) : List Po := if billX l dep note b ≠ 0 then [] else billL (priceP l b.frm.toNat b.to.toNat) dep
theorem billE_ok {l : List Ra} {dep note : Int} {b : Bk} (h : billE l dep note b = 0) : chargeE l dep note = 0 ∧ bookE b = 0 := by
  have t := firstL_allZ h
  exact ⟨t _ (List.mem_cons_self ..), t _ (List.mem_cons_of_mem _ (List.mem_cons_self ..))⟩
set_option maxHeartbeats 8000000 in
theorem bill_c {H : AHeap} {q : Option Addr} {c : Nat} {l : List Ra} {dep note : Int} {b : Bk} (hs : SlAt H 3 ra q l) (hlow : LowS q c l.length) (hn : l.length < 1000000000000) :
    Ret Tryz.prog 11 [chV q l.length c dep note, .agg ⟨bk b⟩] H (.tuple ⟨[lstV H.fresh (billB l dep note b), I (billX l dep note b)]⟩) (lstH H 3 po (billB l dep note b)) := by
  refine fn_start Tryz.func11 rfl rfl rfl fun hc => ?_
  have cC := fun L' => charge_c (dep := dep) (note := note) (hs.ext (ext_Ext hc (lo := H.fresh) (L := L'))) hlow hn
  apply ct_seq
  apply ct_region
  apply seq_newP; exact do_box rfl rfl rfl; exact rfl
  apply seq_newP; exact do_box rfl rfl rfl; exact rfl
  apply seq_plain; exact do_assign rfl; exact rfl
  apply seq_plain; exact do_assign rfl; exact rfl
  apply seq_nil
  apply ct_seq
  apply ct_seq
  apply ct_draw (by assumption); decide +kernel
  apply sd_look (hfree := rfl); exact do_load rfl (by exact ext_get_new rfl) rfl (by exact rfl); exact rfl
  apply sd_call (ht := rfl); exact cC _; exact rfl
  apply sd_look (hfree := rfl); exact do_load rfl (by exact ext_get_new rfl) rfl (by exact rfl); exact rfl
  apply sd_call (ht := rfl); exact book_c; exact rfl
  apply sd_newS (hfree := rfl); exact do_buildSlice rfl rfl rfl rfl rfl rfl rfl; exact rfl
  apply sd_callM (ht := rfl) (hw := rfl); decide +kernel; exact first84 (l := [_, _]) (slAt_map (ext_get_new rfl)) (by simp); exact rfl
  apply sd_plain (hfree := rfl); intro _; exact do_assign rfl; exact rfl
  apply sd_nil
  apply ct_seq
  apply ct_region
  apply seq_plain; exact do_move rfl; exact rfl
  apply seq_plain; exact do_binInt rfl rfl rfl trivial; exact rfl
  apply seq_nil
  refine ct_cond rfl (fun h1 => ?_) (fun h1 => ?_)
  · have h1 : billE l dep note b ≠ 0 := by unfold billE; simpa using h1
    have hX : billX l dep note b = billE l dep note b := by unfold billX; rw [if_pos h1]
    have hB : billB l dep note b = [] := by unfold billB; rw [hX, if_pos h1]
    rw [hX, hB]
    apply ct_seq
    apply ct_region
    apply seq_plain; exact do_move rfl; exact rfl
    apply seq_plain; exact do_assign rfl; exact rfl
    apply seq_plain; exact do_assign rfl; exact rfl
    apply seq_nil
    apply ct_ret
    exact fin_flat hc rfl rfl ⟨rfl, rfl⟩
  have h1 : billE l dep note b = 0 := by unfold billE; simpa using h1
  obtain ⟨hE1, hE2⟩ := billE_ok h1
  obtain ⟨hr, d1, d2, d3, d4⟩ := charge_ok hE1
  obtain ⟨hnm, b1, b2, b3⟩ := book_ok hE2
  obtain ⟨nm, kd, fr, to⟩ := b
  simp only at b1 b2 b3 hnm
  obtain ⟨A, rfl⟩ := Int.eq_ofNat_of_zero_le b1
  obtain ⟨B, rfl⟩ := Int.eq_ofNat_of_zero_le (by omega : 0 ≤ to)
  refine ct_box2 (x := .cells [.slice q l.length c, I dep, I note] 0 false false) (y := .cells [.string nm, .string kd, I A, I B] 0 false false) rfl rfl fun L hL2 f0 f1 => ?_
  have cP := fun L' => price_c (c := c) (hs.ext (ext_Ext hc (lo := H.fresh) (L := L'))) hr (show A ≤ 100100 by omega) (show B ≤ 100100 by omega)
  clear cC hE1 hE2
  have pb := (priceP_bd hr (show A ≤ B by omega)).1
  apply ct_skip
  apply ct_seq
  apply ct_region
  apply seq_plain; exact do_fieldAddr rfl rfl; exact rfl
  apply seq_plain; exact do_load rfl (by exact ext_get_new (by assumption)) rfl (by exact rfl); exact rfl
  apply seq_plain; exact do_fieldAddr rfl rfl; exact rfl
  apply seq_plain; exact do_load rfl (by exact ext_get_new (by assumption)) rfl (by exact rfl); exact rfl
  apply seq_plain; exact do_fieldAddr rfl rfl; exact rfl
  apply seq_plain; exact do_load rfl (by exact ext_get_new (by assumption)) rfl (by exact rfl); exact rfl
  by_cases hp : priceP l A B > 999999999
  · have hX : billX l dep note ⟨nm, kd, A, B⟩ = 4 := by unfold billX; rw [if_neg (by rw [h1]; simp)]; exact if_pos hp
    have hB : billB l dep note ⟨nm, kd, A, B⟩ = [] := by unfold billB; rw [hX]; rfl
    rw [hX, hB]
    simp only [if_pos hp] at cP
    apply seq_call (ht := rfl); exact cP _; exact rfl
    apply seq_plain; exact do_move rfl; exact rfl
    apply seq_plain; exact do_extract rfl rfl; exact rfl
    apply seq_plain; exact do_extract rfl rfl; exact rfl
    apply seq_plain; exact do_assign rfl; exact rfl
    apply seq_plain; exact do_assign rfl; exact rfl
    apply seq_nil
    apply ct_seq
    apply ct_seq
    apply ct_region
    apply seq_plain; exact do_move rfl; exact rfl
    apply seq_plain; exact do_binInt rfl rfl rfl trivial; exact rfl
    apply seq_nil
    refine ct_cond_t rfl rfl ?_
    apply ct_seq
    apply ct_region
    apply seq_plain; exact do_move rfl; exact rfl
    apply seq_plain; exact do_assign rfl; exact rfl
    apply seq_plain; exact do_assign rfl; exact rfl
    apply seq_nil
    apply ct_ret
    exact fin_flat hc rfl rfl ⟨rfl, rfl⟩
  have hX : billX l dep note ⟨nm, kd, A, B⟩ = 0 := by unfold billX; rw [if_neg (by rw [h1]; simp)]; exact if_neg hp
  have hB : billB l dep note ⟨nm, kd, A, B⟩ = billL (priceP l A B) dep := by unfold billB; rw [hX]; rfl
  rw [hX, hB]
  simp only [if_neg hp] at cP
  obtain ⟨p, hpe⟩ : ∃ p, p = priceP l A B := ⟨_, rfl⟩
  rw [← hpe] at pb hp cP ⊢
  apply seq_call (ht := rfl); exact cP _; exact rfl
  apply seq_plain; exact do_move rfl; exact rfl
  apply seq_plain; exact do_extract rfl rfl; exact rfl
  apply seq_plain; exact do_extract rfl rfl; exact rfl
  apply seq_plain; exact do_assign rfl; exact rfl
  apply seq_plain; exact do_assign rfl; exact rfl
  apply seq_nil
  apply ct_seq
  apply ct_seq
  apply ct_region
  apply seq_plain; exact do_move rfl; exact rfl
  apply seq_plain; exact do_binInt rfl rfl rfl trivial; exact rfl
  apply seq_nil
  refine ct_cond_f rfl rfl ?_
  apply ct_skip
  apply ct_seq
  apply ct_region
  apply seq_plain; exact do_fieldAddr rfl rfl; exact rfl
  apply seq_plain; exact do_load rfl (by exact ext_get_new (by assumption)) rfl (by exact rfl); exact rfl
  obtain ⟨v1, K1, L1, p1⟩ := post_c hc (L := L) (K := 0) (v := .slice none 0 0) (l := []) (d := 0) (k := 1) (a := dep) .nil (by simp) (by omega) (by omega)
  obtain ⟨g1, r1, q1⟩ := p1.ret
  refine seq_callH rfl r1 q1 rfl ?_
  have k1 := p1.two hL2 (fun h => absurd rfl h)
  have f0 := (p1.box hL2 (fun h => absurd rfl h) (j := 0) (by omega)).trans f0
  have f1 := (p1.box hL2 (fun h => absurd rfl h) (j := 1) (by omega)).trans f1
  have hL2 : 2 ≤ L1.length := Nat.le_trans hL2 p1.len
  have n1 := postL_len [] ⟨acc 0, acc 1, dep⟩
  have l1 := p1.lst
  clear p1 r1 q1
  apply seq_plain; exact do_assign rfl; exact rfl
  apply seq_nil
  apply ct_seq
  apply ct_region
  apply seq_plain; exact do_move rfl; exact rfl
  apply seq_plain; exact do_fieldAddr rfl rfl; exact rfl
  apply seq_plain; exact do_load rfl (by exact ext_get_new (by assumption)) rfl (by exact rfl); exact rfl
  apply seq_plain; exact do_move rfl; exact rfl
  apply seq_plain; exact do_min rfl; exact rfl
  obtain ⟨v2, K2, L2, p2⟩ := post_c hc (d := 1) (k := 2) (a := min dep p) l1 (by simp at n1; omega) (by omega) (by omega)
  obtain ⟨g2, r2, q2⟩ := p2.ret
  refine seq_callH rfl r2 q2 rfl ?_
  have k2 := p2.two hL2 k1
  have f0 := (p2.box hL2 k1 (j := 0) (by omega)).trans f0
  have f1 := (p2.box hL2 k1 (j := 1) (by omega)).trans f1
  have hL2 : 2 ≤ L2.length := Nat.le_trans hL2 p2.len
  have n2 := postL_len (postL [] ⟨acc 0, acc 1, dep⟩) ⟨acc 1, acc 2, min dep p⟩
  have l2 := p2.lst
  clear p2 r2 q2 l1 k1
  apply seq_plain; exact do_assign rfl; exact rfl
  apply seq_nil
  apply ct_seq
  apply ct_region
  apply seq_plain; exact do_move rfl; exact rfl
  apply seq_plain; exact do_move rfl; exact rfl
  apply seq_plain; exact do_fieldAddr rfl rfl; exact rfl
  apply seq_plain; exact do_load rfl (by exact ext_get_new (by assumption)) rfl (by exact rfl); exact rfl
  apply seq_plain; exact do_sub rfl rfl (by omega); exact rfl
  obtain ⟨v3, K3, L3, p3⟩ := post_c hc (d := 0) (k := 2) (a := p - dep) l2 (by simp at n1; omega) (by omega) (by omega)
  obtain ⟨g3, r3, q3⟩ := p3.ret
  refine seq_callH rfl r3 q3 rfl ?_
  have k3 := p3.two hL2 k2
  have f0 := (p3.box hL2 k2 (j := 0) (by omega)).trans f0
  have f1 := (p3.box hL2 k2 (j := 1) (by omega)).trans f1
  have hL2 : 2 ≤ L3.length := Nat.le_trans hL2 p3.len
  have n3 := postL_len (postL (postL [] ⟨acc 0, acc 1, dep⟩) ⟨acc 1, acc 2, min dep p⟩) ⟨acc 0, acc 2, p - dep⟩
  have l3 := p3.lst
  clear p3 r3 q3 l2 k2
  apply seq_plain; exact do_assign rfl; exact rfl
  apply seq_nil
  apply ct_seq
  apply ct_region
  apply seq_plain; exact do_move rfl; exact rfl
  apply seq_plain; exact do_fieldAddr rfl rfl; exact rfl
  apply seq_plain; exact do_load rfl (by exact ext_get_new (by assumption)) rfl (by exact rfl); exact rfl
  apply seq_plain; exact do_move rfl; exact rfl
  apply seq_plain; exact do_sub rfl rfl (by omega); exact rfl
  obtain ⟨v4, K4, L4, p4⟩ := post_c hc (d := 1) (k := 0) (a := dep - p) l3 (by simp at n1; omega) (by omega) (by omega)
  obtain ⟨g4, r4, q4⟩ := p4.ret
  refine seq_callH rfl r4 q4 rfl ?_
  have l4 := p4.lst
  clear p4 r4 q4 l3 k3
  apply seq_plain; exact do_assign rfl; exact rfl
  apply seq_plain; exact do_assign rfl; exact rfl
  apply seq_nil
  apply ct_ret
  exact fin_lst2 hc (l4.lst (Nat.zero_le _)) rfl (fun _ => rfl) ⟨rfl, rfl⟩
end Go.Proofs.YtfjihdlpohljbaaGreat
