/- Contracts: charges; lists of postings are copied and compared. -/
import Derived.Test.YtfegloadbajbhaaGreatDoorHpA
import Derived.Test.YtfegloadbajbhaaGreatDoorFnL
import Derived.Test.YtfegloadbajbhaaGreatDoorSxK
noncomputable section
namespace Go.Proofs.YtfegloadbajbhaaGreatDoor
open Go Go.Den
set_option maxRecDepth 100000

def poB (x y : Po) : Bool := byteL x.debit.data.toList y.debit.data.toList && (byteL x.credit.data.toList y.credit.data.toList && (x.amt == y.amt))
theorem poB_eq {x y : Po} : poB x y = true ↔ x = y := by
  unfold poB
  rw [bytes_eq, bytes_eq]
  cases x; cases y
  simp
instance : DecidableEq Po := fun x y => decidable_of_iff (poB x y = true) poB_eq
theorem ownPo_c {H : AHeap} {q : Option Addr} {c : Nat} {l : List Po} (hs : SlAt H 3 po q l) (hn : l.length < 1000000000) :
    Ret Tryz.prog 64 [.slice q l.length c] H (lstV H.fresh l) (lstH H 3 po l) := by
  refine fn_start Tryz.func64 rfl rfl rfl fun hc => ?_
  apply ct_seq
  apply ct_region
  apply seq_plain; exact do_assign rfl; exact rfl
  apply seq_nil
  apply ct_seq
  apply ct_region
  apply seq_plain; exact do_assign rfl; exact rfl
  apply seq_nil
  apply ct_seq
  apply ct_seq
  apply ct_region
  apply seq_plain; exact do_assign rfl; exact rfl
  apply seq_nil
  apply ct_block
  apply ct_loop
  refine lt_meas (α := Nat × Value × List (Option ABlk)) (fun a => [(0, .slice q l.length c), (3, a.2.1), (4, I a.1)]) (fun a => ext H H.fresh a.2.2) (fun a => a.1 ≤ l.length ∧ Lst H a.2.2 3 po 0 a.2.1 (l.take a.1)) (fun a => l.length - a.1) (fun a ha ih => ?_) (0, .slice none 0 0, []) ⟨by simp, .nil⟩ (by repeat (first | exact sub_nil | apply sub_cons rfl)) (.refl _)
  obtain ⟨i, v, L⟩ := a
  obtain ⟨hi, hv⟩ := ha
  simp only at hi hv ih ⊢
  have ih' := fun i' v' L' a1 a2 a3 => ih (i', v', L') a1 ⟨a2, a3⟩
  simp only at ih'
  clear ih
  apply ct_seq
  apply ct_seq
  apply ct_region
  apply seq_plain; exact do_move rfl; exact rfl
  apply seq_plain; exact do_move rfl; exact rfl
  apply seq_plain; exact do_lenS rfl rfl rfl; exact rfl
  apply seq_plain; exact do_binInt rfl rfl rfl trivial; exact rfl
  apply seq_nil
  refine ct_cond rfl (fun h1 => ?_) (fun h1 => ?_)
  · simp only [decide_eq_true_eq, Int.ofNat_lt] at h1
    obtain ⟨b, o, cs, z, s, ro, rfl, hg, hw⟩ := hs.out (by intro e; rw [e] at h1; simp at h1)
    apply ct_skip
    apply ct_seq
    apply ct_block
    apply ct_region
    apply seq_plain; exact do_move rfl; exact rfl
    apply seq_plain; exact do_move rfl; exact rfl
    apply seq_plain; exact do_move rfl; exact rfl
    apply seq_plain; exact do_indexAddrS rfl rfl rfl (by exact idx_nat (by omega)); exact rfl
    apply seq_plain; exact do_load rfl (by exact ext_get_old (by assumption) (by assumption)) rfl (by exact pt_sl (by assumption) (by omega)); exact rfl
    apply seq_newS; exact do_buildSlice rfl rfl rfl rfl rfl rfl rfl; exact rfl
    refine seq_grow (xs := [l[i]]) hc (hv.app _) (by omega) (fun _ => rfl) (fun _ => rfl) rfl rfl rfl rfl rfl rfl (ext_get_new List.getElem?_concat_length) rfl (by simp) ?_ (Nat.ne_of_beq_eq_false rfl) (Nat.ne_of_beq_eq_false rfl) rfl (fun v' L3 hv' hst3 hlen3 => ?_)
    · exact Nat.le_trans (Nat.mul_le_mul_right _ (by simp only [List.length_cons, List.length_nil, List.length_take]; omega : _ ≤ 3000000000)) (Nat.le_of_ble_eq_true rfl)
    apply seq_plain; exact do_assign rfl; exact rfl
    apply seq_nil
    apply ct_region
    apply seq_plain; exact do_move rfl; exact rfl
    apply seq_plain; exact do_succ rfl (by omega); exact rfl
    apply seq_plain; exact do_assign rfl; exact rfl
    apply seq_nil
    refine lt_sub (by repeat (first | exact sub_nil | apply sub_cons rfl)) (ih' (i + 1) v' L3 (by omega) (by omega) ?_)
    rw [take_snoc h1]; exact hv'
  · have h1 : i = l.length := by simp at h1; omega
    subst h1
    rw [List.take_length] at hv
    apply ct_exit
    apply exit_eq; exact rfl
    apply ct_seq
    apply ct_region
    apply seq_plain; exact do_move rfl; exact rfl
    apply seq_plain; exact do_assign rfl; exact rfl
    apply seq_nil
    apply ct_ret
    exact fin_lst hc hv rfl (fun _ => rfl) ⟨rfl, rfl⟩

abbrev chV (q : Option Addr) (n c : Nat) (dep note : Int) : Value := .agg ⟨[.slice q n c, I dep, I note]⟩
def chargeE (l : List Ra) (dep note : Int) : Int := firstL [ratesE l, whenL (outL dep 0 999999999) 3, whenL (outL note 0 99999) 3]
theorem charge_c {H : AHeap} {q : Option Addr} {c : Nat} {l : List Ra} {dep note : Int} (hs : SlAt H 3 ra q l) (hlow : LowS q c l.length) (hn : l.length < 1000000000000) :
    Ret Tryz.prog 60 [chV q l.length c dep note] H (I (chargeE l dep note)) H := by
  refine fn_start Tryz.func60 rfl rfl rfl fun hc => ?_
  have cC := fun L' => checkRates_c (hs.ext (ext_Ext hc (lo := H.fresh) (L := L'))) hlow hn
  apply ct_seq
  apply ct_region
  apply seq_newP; exact do_box rfl rfl rfl; exact rfl
  apply seq_plain; exact do_assign rfl; exact rfl
  apply seq_nil
  apply ct_seq
  apply ct_draw (by assumption); decide +kernel
  apply sd_plain (hfree := rfl); intro _; exact do_fieldAddr rfl rfl; exact rfl
  apply sd_look (hfree := rfl); exact do_load rfl (by exact ext_get_new rfl) rfl (by exact rfl); exact rfl
  apply sd_call (ht := rfl); exact cC _; exact rfl
  apply sd_plain (hfree := rfl); intro _; exact do_fieldAddr rfl rfl; exact rfl
  apply sd_look (hfree := rfl); exact do_load rfl (by exact ext_get_new rfl) rfl (by exact rfl); exact rfl
  apply sd_call (ht := rfl); exact within89; exact rfl
  apply sd_plain (hfree := rfl); intro _; exact do_fieldAddr rfl rfl; exact rfl
  apply sd_look (hfree := rfl); exact do_load rfl (by exact ext_get_new rfl) rfl (by exact rfl); exact rfl
  apply sd_call (ht := rfl); exact day_c; exact rfl
  apply sd_newS (hfree := rfl); exact do_buildSlice rfl rfl rfl rfl rfl rfl rfl; exact rfl
  apply sd_callM (ht := rfl) (hw := rfl); decide +kernel; exact first84 (l := [_, _, _]) (slAt_map (ext_get_new rfl)) (by simp); exact rfl
  apply sd_plain (hfree := rfl); intro _; exact do_assign rfl; exact rfl
  apply sd_nil
  apply ct_ret
  exact fin_flat hc rfl rfl ⟨rfl, rfl⟩
theorem refCharge_c {H : AHeap} {q : Option Addr} {c : Nat} {l : List Ra} {dep note : Int} (hs : SlAt H 3 ra q l) (hn : l.length < 1000000000) :
    Ret Tryz.prog 59 [chV q l.length c dep note] H (I (chargeE l dep note)) H := by
  refine fn_start Tryz.func59 rfl rfl rfl fun hc => ?_
  have cC := fun L' => refRates_c (c := c) (hs.ext (ext_Ext hc (lo := H.fresh) (L := L'))) hn
  obtain ⟨Z, hZ⟩ : ∃ Z : Bool, Z = (outL dep 0 999999999 || outL note 0 99999) := ⟨_, rfl⟩
  apply ct_seq
  apply ct_region
  apply seq_newP; exact do_box rfl rfl rfl; exact rfl
  apply seq_plain; exact do_assign rfl; exact rfl
  apply seq_nil
  apply ct_seq
  apply ct_seq
  apply ct_region
  apply seq_plain; exact do_fieldAddr rfl rfl; exact rfl
  apply seq_plain; exact do_load rfl (by exact ext_get_new rfl) rfl (by exact rfl); exact rfl
  apply seq_call (ht := rfl); exact cC _; exact rfl
  apply seq_plain; exact do_assign rfl; exact rfl
  apply seq_nil
  apply ct_seq
  apply ct_region
  apply seq_plain; exact do_move rfl; exact rfl
  apply seq_plain; exact do_binInt rfl rfl rfl trivial; exact rfl
  apply seq_nil
  refine ct_cond rfl (fun h0 => ?_) (fun h0 => ?_)
  · have h0 : ratesE l ≠ 0 := by simpa using h0
    apply ct_seq
    apply ct_region
    apply seq_plain; exact do_move rfl; exact rfl
    apply seq_plain; exact do_assign rfl; exact rfl
    apply seq_nil
    apply ct_ret
    refine fin_flat hc rfl rfl ⟨?_, rfl⟩
    unfold chargeE
    simp [firstL, h0, packA]
  have h0 : ratesE l = 0 := by simpa using h0
  apply ct_skip
  apply ct_seq
  apply ct_seq
  apply ct_region
  apply seq_plain; exact do_fieldAddr rfl rfl; exact rfl
  apply seq_plain; exact do_load rfl (by exact ext_get_new rfl) rfl (by exact rfl); exact rfl
  apply seq_call (ht := rfl); exact outside24; exact rfl
  apply seq_plain; exact do_move rfl; exact rfl
  refine seq_JX (α := Unit) (ds := []) (fun _ => [(17, .bool Z)]) (fun _ => ext H H.fresh [some (.cells [.slice q l.length c, I dep, I note] 0 false false)]) (fun _ => True) ?_ ?_
  · refine seq_gsplit rfl rfl (fun u => ?_) (fun u => ?_)
    · have u : outL dep 0 999999999 = true := u
      have e : Z = true := by rw [hZ, u]; rfl
      rw [e]
      apply seq_passed (hd := rfl) (hl := rfl) (hb := rfl); exact rfl
      apply seq_passed (hd := rfl) (hl := rfl) (hb := rfl); exact rfl
      apply seq_passed (hd := rfl) (hl := rfl) (hb := rfl); exact rfl
      apply seq_plain; exact do_pick_t rfl rfl; exact rfl
      apply seq_nil
      exact jx_of () trivial (by repeat (first | exact sub_nil | apply sub_cons rfl)) rfl
    · have u : outL dep 0 999999999 = false := u
      have e : Z = outL note 0 99999 := by rw [hZ, u]; rfl
      rw [e]
      apply seq_guard (hd := rfl) (hl := rfl); exact do_fieldAddr rfl rfl; exact rfl
      apply seq_guard (hd := rfl) (hl := rfl); exact do_load rfl (by exact ext_get_new rfl) rfl (by exact rfl); exact rfl
      apply seq_gcall (hg := rfl) (hl := rfl) (ht := rfl); exact outside24; exact rfl
      apply seq_plain; exact do_pick_f rfl rfl; exact rfl
      apply seq_nil
      exact jx_of () trivial (by repeat (first | exact sub_nil | apply sub_cons rfl)) rfl
  intro _ _
  refine ct_cond rfl (fun h1 => ?_) (fun h1 => ?_)
  · rw [h1] at hZ
    apply ct_seq
    apply ct_region
    apply seq_plain; exact do_assign rfl; exact rfl
    apply seq_nil
    apply ct_ret
    refine fin_flat hc rfl rfl ⟨?_, rfl⟩
    unfold chargeE
    rw [h0]
    cases h2 : outL dep 0 999999999
    · rw [h2] at hZ
      have h3 : outL note 0 99999 = true := by simpa using hZ.symm
      rw [h3]; rfl
    · rfl
  · rw [h1] at hZ
    have hZ := hZ.symm
    rw [Bool.or_eq_false_iff] at hZ
    apply ct_skip
    apply ct_seq
    apply ct_region
    apply seq_plain; exact do_assign rfl; exact rfl
    apply seq_nil
    apply ct_ret
    refine fin_flat hc rfl rfl ⟨?_, rfl⟩
    unfold chargeE
    rw [h0, hZ.1, hZ.2]; rfl
/-- a cell with a list and two numbers is the result -/
theorem fin_cellL {P : Program} [PC P] {H : AHeap} {Q : Value → AHeap → Prop} {rs : Array ResultVar} {l : EL} {L : List (Option ABlk)} {lo : Nat} {α : Type} {m k0 : Nat} {f : α → List Value} {lst : List α} {v : Value} {x y : Int} {a t : Nat} {b off n z : Nat} {ag s ro : Bool} {cs : List Value} (hc : Closed H) (hr : rs.toList = [.cell a t]) (ha : lk l a = some (.pointer (some ⟨b, off, none⟩)))
    (hb : (ext H lo L).get b = some (.cells cs z s ro)) (ht : szOf P t = some (n, ag)) (hp : pt ag n cs off = some (.agg ⟨[v, I x, I y]⟩)) (hv : Lst H L m f k0 v lst) (hf : ∀ x, (f x).all (flatD 8) = true)
    (hq : Q (.agg ⟨[lstV H.fresh lst, I x, I y]⟩) (lstH H m f lst)) : Fin P rs H Q ⟨ofA l, [], ext H lo L⟩ := by
  obtain ⟨i, h1, h2, h3⟩ := szOf_spec ht
  have hl : loadA (ctxOf P) (ext H lo L) t (.pointer (some ⟨b, off, none⟩)) = some (.agg ⟨[v, I x, I y]⟩) := by
    simp only [loadA, hb, h1]
    have := partA_pt h2 h3 cs off
    unfold partA at this
    rw [this, hp]
  rcases hv.out with ⟨rfl, rfl⟩ | ⟨hne, k, hk, rfl, hL⟩
  · refine ⟨⟨_, [.agg ⟨[.slice none 0 0, I x, I y]⟩], .agg ⟨[.slice none 0 0, I x, I y]⟩, H, rfl, ?_, tidy_flat hc (fun _ _ h => ext_get_old hc h) rfl, hq⟩⟩
    simp only [hr, resultsA, evalA, ofA_get, ha, hl]
  · cases lst with
    | nil => exact absurd rfl hne
    | cons w r =>
      refine ⟨⟨_, [.agg ⟨[.slice (some ⟨nb H k, 0, none⟩) (w :: r).length (w :: r).length, I x, I y]⟩], .agg ⟨[lstV H.fresh (w :: r), I x, I y]⟩, _, rfl, ?_, tidy_one hc (fun _ _ h => ext_get_old hc h) ⟨own_iff.1 (nb_own k), nb_ge k⟩ (ext_get_new hL) (flat_all hf _) ?_, hq⟩⟩
      · simp only [hr, resultsA, evalA, ofA_get, ha, hl]
      · simp [packA, renV, renL, lstV, lstP, renOf_one (H := H) ⟨own_iff.1 (nb_own k), nb_ge k⟩]
theorem ownCharge_c {H : AHeap} {q : Option Addr} {c : Nat} {l : List Ra} {dep note : Int} (hs : SlAt H 3 ra q l) (hn : l.length < 1000000000) :
    Ret Tryz.prog 58 [chV q l.length c dep note] H (.agg ⟨[lstV H.fresh l, I dep, I note]⟩) (lstH H 3 ra l) := by
  refine fn_start Tryz.func58 rfl rfl rfl fun hc => ?_
  have cO := fun L => ownRates_c (c := c) (hs.ext (ext_Ext hc (lo := H.fresh) (L := L))) hn
  apply ct_seq
  apply ct_region
  apply seq_newP; exact do_box rfl rfl rfl; exact rfl
  apply seq_newP; exact do_alloc rfl rfl; exact rfl
  apply seq_nil
  apply ct_seq
  apply ct_draw (by assumption); decide +kernel
  apply sd_plain (hfree := rfl); intro _; exact do_fieldAddr rfl rfl; exact rfl
  apply sd_look (hfree := rfl); exact do_load rfl (by exact ext_get_new rfl) rfl (by exact rfl); exact rfl
  cases l with
  | nil =>
    refine sd_call rfl (cO _) rfl ?_
    apply sd_plain (hfree := rfl); intro _; exact do_fieldAddr rfl rfl; exact rfl
    apply sd_look (hfree := rfl); exact do_load rfl (by exact ext_get_new rfl) rfl (by exact rfl); exact rfl
    apply sd_plain (hfree := rfl); intro _; exact do_fieldAddr rfl rfl; exact rfl
    apply sd_look (hfree := rfl); exact do_load rfl (by exact ext_get_new rfl) rfl (by exact rfl); exact rfl
    apply sd_plain (hfree := rfl); intro _; exact do_build rfl rfl rfl rfl; exact rfl
    apply sd_put (hfree := rfl) (hser := by decide +kernel) (hc := by assumption); rotate_left; exact do_store rfl rfl (by exact ext_get_new rfl) rfl rfl (nb_own _); rotate_left; exact Nat.le_of_ble_eq_true rfl
    apply sd_nil
    apply ct_ret
    exact fin_cellL hc rfl rfl (ext_get_new rfl) rfl rfl (Lst.nil (k0 := 0) (f := ra) (m := 3)) (fun _ => rfl) ⟨rfl, rfl⟩
  | cons x r =>
    refine sd_callN (v := fun b => .slice (some ⟨b, 0, none⟩) (x :: r).length (x :: r).length) (x := .cells ((x :: r).flatMap ra) 3 true false) rfl rfl rfl (cO _) rfl ?_
    apply sd_plain (hfree := rfl); intro _; exact do_fieldAddr rfl rfl; exact rfl
    apply sd_look (hfree := rfl); exact do_load rfl (by exact ext_get_new rfl) rfl (by exact rfl); exact rfl
    apply sd_plain (hfree := rfl); intro _; exact do_fieldAddr rfl rfl; exact rfl
    apply sd_look (hfree := rfl); exact do_load rfl (by exact ext_get_new rfl) rfl (by exact rfl); exact rfl
    apply sd_plain (hfree := rfl); intro _; exact do_build rfl rfl rfl rfl; exact rfl
    apply sd_put (hfree := rfl) (hser := by decide +kernel) (hc := by assumption); rotate_left; exact do_store rfl rfl (by exact ext_get_new rfl) rfl rfl (nb_own _); rotate_left; exact Nat.le_of_ble_eq_true rfl
    apply sd_nil
    apply ct_ret
    have hv : Lst H ([some (.cells (chV q (x :: r).length c dep note).cells.toList 0 false false), some (.cells [.slice (some ⟨nb H 2, 0, none⟩) (x :: r).length (x :: r).length, I dep, I note] 0 false false), some (.cells ((x :: r).flatMap ra) 3 true false)] : List (Option ABlk)) 3 ra 0 (.slice (some ⟨nb H 2, 0, none⟩) (x :: r).length (x :: r).length) (x :: r) := ⟨.inr ⟨by simp, 2, Nat.zero_le _, rfl, rfl⟩⟩
    exact fin_cellL hc rfl rfl (ext_get_new rfl) rfl rfl hv (fun _ => rfl) ⟨rfl, rfl⟩
end Go.Proofs.YtfegloadbajbhaaGreatDoor
