/- Contracts: the hall's prices. -/
import Derived.Test.YtfjihdlpohljbaaGreatHaA
noncomputable section
namespace Go.Proofs.YtfjihdlpohljbaaGreat
open Go Go.Den
set_option maxRecDepth 100000

theorem do_quo {P : Program} {l : EL} {h : AHeap} {x y : Operand} {t t' : TypeId} {a b : Nat} (hx : ev l x = some (.int .i64 (a : Int))) (hy : ev l y = some (.int .i64 (b : Int))) (ha : a < 9223372036854775808) (hr : b ≠ 0) : Does P l (.binOp .quo t x y t') h (.int .i64 ((a / b : Nat) : Int)) h := by
  refine do_binInt hx hy ?_ trivial
  have := Nat.div_le_self a b
  simp only [intBin]
  rw [if_neg (by omega), ← Int.ofNat_tdiv, wrapI, wrap_i64]
  generalize a / b = z at this
  omega
theorem do_remN {P : Program} {l : EL} {h : AHeap} {x y : Operand} {t t' : TypeId} {a b : Nat} (hx : ev l x = some (.int .i64 (a : Int))) (hy : ev l y = some (.int .i64 (b : Int))) (hr : b ≠ 0) : Does P l (.binOp .rem t x y t') h (.int .i64 ((a % b : Nat) : Int)) h := by
  refine do_binInt hx hy ?_ trivial
  simp only [intBin]
  rw [if_neg (by omega), ← Int.ofNat_tmod]
theorem mulB {a b A B : Int} (ha : 0 ≤ a ∧ a ≤ A) (hb : 0 ≤ b ∧ b ≤ B) : 0 ≤ a * b ∧ a * b ≤ A * B :=
  ⟨Int.mul_nonneg ha.1 hb.1, Int.mul_le_mul ha.2 hb.2 hb.1 (by omega)⟩
theorem addOk {a b : Int} (ha : 0 ≤ a ∧ a ≤ 4000000000000) (hb : 0 ≤ b ∧ b ≤ 4000000000000) : -9223372036854775808 ≤ a + b ∧ a + b ≤ 9223372036854775807 := by omega
theorem untilP_snoc {l : List Ra} {q i : Nat} (h : i < l.length) : untilP (l.take (i + 1)) q = untilP (l.take i) q + untilR q l[i] := by
  rw [take_snoc h]
  unfold untilP
  rw [List.map_append, List.sum_append]
  simp
abbrev RaBd (l : List Ra) : Prop := ∀ x ∈ l, 0 ≤ x.frm ∧ x.frm < x.to ∧ x.to ≤ 96 ∧ 0 ≤ x.price ∧ x.price ≤ 100000
theorem untilR_bd {x : Ra} {q : Nat} (hx : 0 ≤ x.frm ∧ x.frm < x.to ∧ x.to ≤ 96 ∧ 0 ≤ x.price ∧ x.price ≤ 100000) (hq : q ≤ 100100) : 0 ≤ untilR q x ∧ untilR q x ≤ 20000000000 := by
  have a := mulB (a := ((q / 96 : Nat) : Int)) (b := x.to - x.frm) (A := 1043) (B := 96) (by omega) (by omega)
  have b := mulB (a := x.price) (b := ((q / 96 : Nat) : Int) * (x.to - x.frm)) (A := 100000) (B := 1043 * 96) (by omega) a
  have c := mulB (a := x.price) (b := max 0 (min x.to ((q % 96 : Nat) : Int) - x.frm)) (A := 100000) (B := 96) (by omega) (by omega)
  unfold untilR
  omega
theorem untilS_bd {l : List Ra} {q : Nat} (hl : RaBd l) (hq : q ≤ 100100) : ∀ i, i ≤ l.length → 0 ≤ untilP (l.take i) q ∧ untilP (l.take i) q ≤ 20000000000 * (i : Int)
  | 0, _ => by simp [untilP]
  | i + 1, h => by
    have := untilS_bd hl hq i (by omega)
    have h2 := untilR_bd (hl _ (List.getElem_mem (show i < l.length by omega))) hq
    rw [untilP_snoc (by omega)]
    omega
set_option maxHeartbeats 4000000 in
theorem until_c {H : AHeap} {q : Option Addr} {c n : Nat} {l : List Ra} (hs : SlAt H 3 ra q l) (hl : RaBd l) (hn : n ≤ 100100) (hlen : l.length ≤ 96) :
    Ret Tryz.prog 70 [.slice q l.length c, I n] H (I (untilP l n)) H := by
  refine fn_start Tryz.func70 rfl rfl rfl fun hc => ?_
  apply ct_seq
  apply ct_region
  apply seq_plain; exact do_assign rfl; exact rfl
  apply seq_nil
  apply ct_seq
  apply ct_region
  apply seq_plain; exact do_assign rfl; exact rfl
  apply seq_nil
  apply ct_seq
  apply ct_seq
  apply ct_region
  apply seq_plain; exact do_move rfl; exact rfl
  apply seq_plain; exact do_lenS rfl rfl rfl; exact rfl
  apply seq_plain; exact do_move rfl; exact rfl
  apply seq_nil
  apply ct_block
  apply ct_loop
  refine lt_meas (α := Nat × List (Option ABlk)) (fun a => [(1, I n), (5, I (untilP (l.take a.1) n)), (8, .slice q l.length c), (9, I l.length), (10, I a.1)]) (fun a => ext H H.fresh a.2) (fun a => a.1 ≤ l.length) (fun a => l.length - a.1) (fun a ha ih => ?_) (0, []) (by simp) (by repeat (first | exact sub_nil | apply sub_cons rfl)) (.refl _)
  obtain ⟨i, L⟩ := a
  simp only at ha ih ⊢
  have ih' := fun i' L' a1 a2 => ih (i', L') a1 a2
  simp only at ih'
  clear ih
  apply ct_seq
  apply ct_region
  apply seq_plain; exact do_binInt rfl rfl rfl trivial; exact rfl
  apply seq_nil
  apply ct_seq
  refine ct_cond rfl (fun h1 => ?_) (fun h1 => ?_)
  · simp only [decide_eq_true_eq, Int.ofNat_lt] at h1
    obtain ⟨b, o, cs, z, s, ro, rfl, hg, hw⟩ := hs.out (by intro e; rw [e] at h1; simp at h1)
    have hx := hl _ (List.getElem_mem h1)
    have sb := untilS_bd hl hn i (by omega)
    have se := untilP_snoc (q := n) h1
    have m1 := mulB (a := ((n / 96 : Nat) : Int)) (b := l[i].to - l[i].frm) (A := 1043) (B := 96) (by omega) (by omega)
    have m2 := mulB (a := l[i].price) (b := ((n / 96 : Nat) : Int) * (l[i].to - l[i].frm)) (A := 100000) (B := 1043 * 96) (by omega) m1
    have m3 := mulB (a := l[i].price) (b := max 0 (min l[i].to ((n % 96 : Nat) : Int) - l[i].frm)) (A := 100000) (B := 96) (by omega) (by omega)
    have k1 : -9223372036854775808 ≤ ((n / 96 : Nat) : Int) * (l[i].to - l[i].frm) ∧ ((n / 96 : Nat) : Int) * (l[i].to - l[i].frm) ≤ 9223372036854775807 := by omega
    have k2 : -9223372036854775808 ≤ l[i].price * (((n / 96 : Nat) : Int) * (l[i].to - l[i].frm)) ∧ l[i].price * (((n / 96 : Nat) : Int) * (l[i].to - l[i].frm)) ≤ 9223372036854775807 := by omega
    have k3 : -9223372036854775808 ≤ l[i].price * max 0 (min l[i].to ((n % 96 : Nat) : Int) - l[i].frm) ∧ l[i].price * max 0 (min l[i].to ((n % 96 : Nat) : Int) - l[i].frm) ≤ 9223372036854775807 := by omega
    have k4 := addOk (a := untilP (l.take i) n) (b := l[i].price * (((n / 96 : Nat) : Int) * (l[i].to - l[i].frm))) ⟨sb.1, by omega⟩ ⟨m2.1, Int.le_trans m2.2 (by omega)⟩
    have k5 := addOk (a := untilP (l.take i) n + l[i].price * (((n / 96 : Nat) : Int) * (l[i].to - l[i].frm))) (b := l[i].price * max 0 (min l[i].to ((n % 96 : Nat) : Int) - l[i].frm)) ⟨Int.add_nonneg sb.1 m2.1, Int.le_trans (Int.add_le_add sb.2 m2.2) (by omega)⟩ ⟨m3.1, Int.le_trans m3.2 (by omega)⟩
    apply ct_skip
    apply ct_seq
    apply ct_block
    apply ct_seq
    apply ct_region
    apply seq_plain; exact do_indexAddrS rfl rfl rfl (by exact idx_nat (by omega)); exact rfl
    apply seq_plain; exact do_load rfl (by exact ext_get_old (by assumption) (by assumption)) rfl (by exact pt_sl (by assumption) (by omega)); exact rfl
    apply seq_newP; exact do_alloc rfl rfl; exact rfl
    apply seq_putC (hc := by assumption); rotate_left; exact do_store rfl rfl (by exact ext_get_new List.getElem?_concat_length) rfl rfl (nb_own _); rotate_left; exact (by simp)
    apply ct_seq
    apply ct_region
    apply seq_plain; exact do_move rfl; exact rfl
    apply seq_plain; exact do_fieldAddr rfl rfl; exact rfl
    apply seq_plain; exact do_load rfl (by exact ext_get_new getSetLast) rfl (by exact rfl); exact rfl
    apply seq_plain; exact do_move rfl; exact rfl
    apply seq_plain; exact do_quo rfl rfl (by omega) (by decide); exact rfl
    apply seq_plain; exact do_fieldAddr rfl rfl; exact rfl
    apply seq_plain; exact do_load rfl (by exact ext_get_new getSetLast) rfl (by exact rfl); exact rfl
    apply seq_plain; exact do_fieldAddr rfl rfl; exact rfl
    apply seq_plain; exact do_load rfl (by exact ext_get_new getSetLast) rfl (by exact rfl); exact rfl
    apply seq_plain; exact do_sub rfl rfl (by omega); exact rfl
    apply seq_plain; exact do_mul rfl rfl (by assumption); exact rfl
    apply seq_plain; exact do_mul rfl rfl (by assumption); exact rfl
    apply seq_plain; exact do_add rfl rfl (by assumption); exact rfl
    apply seq_plain; exact do_assign rfl; exact rfl
    apply seq_nil
    apply ct_region
    apply seq_plain; exact do_move rfl; exact rfl
    apply seq_plain; exact do_fieldAddr rfl rfl; exact rfl
    apply seq_plain; exact do_load rfl (by exact ext_get_new getSetLast) rfl (by exact rfl); exact rfl
    apply seq_plain; exact do_fieldAddr rfl rfl; exact rfl
    apply seq_plain; exact do_load rfl (by exact ext_get_new getSetLast) rfl (by exact rfl); exact rfl
    apply seq_plain; exact do_move rfl; exact rfl
    apply seq_plain; exact do_remN rfl rfl (by decide); exact rfl
    apply seq_plain; exact do_min rfl; exact rfl
    apply seq_plain; exact do_fieldAddr rfl rfl; exact rfl
    apply seq_plain; exact do_load rfl (by exact ext_get_new getSetLast) rfl (by exact rfl); exact rfl
    apply seq_plain; exact do_sub rfl rfl (by omega); exact rfl
    apply seq_plain; exact do_max rfl; exact rfl
    apply seq_plain; exact do_mul rfl rfl (by assumption); exact rfl
    apply seq_plain; exact do_add rfl rfl (by assumption); exact rfl
    apply seq_plain; exact do_assign rfl; exact rfl
    apply seq_nil
    apply ct_region
    apply seq_plain; exact do_succ rfl (by omega); exact rfl
    apply seq_plain; exact do_move rfl; exact rfl
    apply seq_nil
    refine lt_to ?_ (.refl _) (ih' (i + 1) _ (by omega) (by omega))
    rw [se]
    unfold untilR
    rw [← Int.add_assoc]
    (repeat (first | exact sub_nil | apply sub_cons rfl))
  · have h1 : i = l.length := by simp at h1; omega
    subst h1
    rw [List.take_length]
    apply ct_exit
    apply exit_eq; exact rfl
    apply ct_seq
    apply ct_region
    apply seq_plain; exact do_move rfl; exact rfl
    apply seq_plain; exact do_assign rfl; exact rfl
    apply seq_nil
    apply ct_ret
    exact fin_flat hc rfl rfl ⟨rfl, rfl⟩
set_option maxHeartbeats 4000000 in
theorem price_c {H : AHeap} {q : Option Addr} {c a b : Nat} {l : List Ra} (hs : SlAt H 3 ra q l) (hr : RatesOk l) (ha : a ≤ 100100) (hb : b ≤ 100100) :
    Ret Tryz.prog 34 [.slice q l.length c, I a, I b] H (.tuple ⟨[I (if priceP l a b > 999999999 then 0 else priceP l a b), I (if priceP l a b > 999999999 then 4 else 0)]⟩) H := by
  have hl : RaBd l := raFrom_mem (by omega) hr.frm
  have b1 := untilP_bd hr a
  have b2 := untilP_bd hr b
  refine fn_start Tryz.func34 rfl rfl rfl fun hc => ?_
  apply ct_seq
  apply ct_region
  apply seq_plain; exact do_assign rfl; exact rfl
  apply seq_plain; exact do_assign rfl; exact rfl
  apply seq_nil
  apply ct_seq
  apply ct_region
  apply seq_plain; exact do_move rfl; exact rfl
  apply seq_plain; exact do_move rfl; exact rfl
  apply seq_call (ht := rfl); exact until_c (hs.ext (ext_Ext hc)) hl hb hr.len; exact rfl
  apply seq_plain; exact do_move rfl; exact rfl
  apply seq_plain; exact do_move rfl; exact rfl
  apply seq_call (ht := rfl); exact until_c (hs.ext (ext_Ext hc)) hl ha hr.len; exact rfl
  apply seq_plain; exact do_sub rfl rfl (by omega); exact rfl
  apply seq_plain; exact do_assign rfl; exact rfl
  apply seq_nil
  apply ct_seq
  apply ct_seq
  apply ct_region
  apply seq_plain; exact do_move rfl; exact rfl
  apply seq_plain; exact do_binInt rfl rfl rfl trivial; exact rfl
  apply seq_nil
  rw [show untilP l b - untilP l a = priceP l a b from rfl]
  refine ct_cond rfl (fun h1 => ?_) (fun h1 => ?_)
  · have h1 : priceP l a b > 999999999 := by simpa using h1
    apply ct_seq
    apply ct_region
    apply seq_plain; exact do_assign rfl; exact rfl
    apply seq_plain; exact do_assign rfl; exact rfl
    apply seq_nil
    apply ct_ret
    refine fin_flat hc rfl rfl ⟨?_, rfl⟩
    rw [if_pos h1, if_pos h1]; rfl
  · have h1 : ¬ priceP l a b > 999999999 := by simpa using h1
    apply ct_skip
    apply ct_seq
    apply ct_region
    apply seq_plain; exact do_move rfl; exact rfl
    apply seq_plain; exact do_assign rfl; exact rfl
    apply seq_plain; exact do_assign rfl; exact rfl
    apply seq_nil
    apply ct_ret
    refine fin_flat hc rfl rfl ⟨?_, rfl⟩
    rw [if_neg h1, if_neg h1]; rfl
theorem day_c {H : AHeap} {n : Int} : Ret Tryz.prog 69 [I n] H (I (whenL (outL n 0 99999) 3)) H := by
  refine fn_start Tryz.func69 rfl rfl rfl fun hc => ?_
  apply ct_seq
  apply ct_region
  apply seq_plain; exact do_assign rfl; exact rfl
  apply seq_nil
  apply ct_seq
  apply ct_region
  apply seq_plain; exact do_move rfl; exact rfl
  apply seq_call (ht := rfl); exact within89; exact rfl
  apply seq_plain; exact do_assign rfl; exact rfl
  apply seq_nil
  apply ct_ret
  exact fin_flat hc rfl rfl ⟨rfl, rfl⟩
def spanE (l : List Ra) (a b : Int) : Int := firstL [ratesE l, whenL (outL a 0 99999) 3, whenL (outL b 0 99999) 3, whenL (decide (b < a)) 11]
theorem checkSpan_c {H : AHeap} {q : Option Addr} {c : Nat} {l : List Ra} {a b : Int} (hs : SlAt H 3 ra q l) (hlow : LowS q c l.length) (hn : l.length < 1000000000000) :
    Ret Tryz.prog 36 [.slice q l.length c, I a, I b] H (I (spanE l a b)) H := by
  refine fn_start Tryz.func36 rfl rfl rfl fun hc => ?_
  apply ct_seq
  apply ct_region
  apply seq_plain; exact do_assign rfl; exact rfl
  apply seq_nil
  apply ct_seq
  apply ct_region
  apply seq_plain; exact do_move rfl; exact rfl
  apply seq_call (ht := rfl); exact checkRates_c (hs.ext (ext_Ext hc)) hlow hn; exact rfl
  apply seq_plain; exact do_move rfl; exact rfl
  apply seq_call (ht := rfl); exact day_c; exact rfl
  apply seq_plain; exact do_move rfl; exact rfl
  apply seq_call (ht := rfl); exact day_c; exact rfl
  apply seq_plain; exact do_move rfl; exact rfl
  apply seq_plain; exact do_move rfl; exact rfl
  apply seq_plain; exact do_binInt rfl rfl rfl trivial; exact rfl
  apply seq_call (ht := rfl); exact when85; exact rfl
  apply seq_newS; exact do_buildSlice rfl rfl rfl rfl rfl rfl rfl; exact rfl
  apply seq_call (ht := rfl); exact first84 (l := [_, _, _, _]) (slAt_map (ext_get_new rfl)) (by simp); exact rfl
  apply seq_plain; exact do_assign rfl; exact rfl
  apply seq_nil
  apply ct_ret
  exact fin_flat hc rfl rfl ⟨rfl, rfl⟩
theorem span_ok {l : List Ra} {a b : Int} (h : spanE l a b = 0) : RatesOk l ∧ 0 ≤ a ∧ a ≤ b ∧ b ≤ 99999 := by
  have t := firstL_allZ h
  have t1 := rates_ok (t _ (List.mem_cons_self ..))
  have t2 := whenL_z (t _ (List.mem_cons_of_mem _ (List.mem_cons_self ..))) (by decide)
  have t3 := whenL_z (t _ (List.mem_cons_of_mem _ (List.mem_cons_of_mem _ (List.mem_cons_self ..)))) (by decide)
  have t4 := whenL_z (t _ (List.mem_cons_of_mem _ (List.mem_cons_of_mem _ (List.mem_cons_of_mem _ (List.mem_cons_self ..))))) (by decide)
  simp only [outL, decide_eq_false_iff_not] at t2 t3 t4
  exact ⟨t1, by omega, by omega, by omega⟩
/-- the price of a span, and its error -/
def priceV (l : List Ra) (a b : Int) : Int := if spanE l a b ≠ 0 then 0 else if priceP l a.toNat b.toNat > 999999999 then 0 else priceP l a.toNat b.toNat
def priceE (l : List Ra) (a b : Int) : Int := if spanE l a b ≠ 0 then spanE l a b else if priceP l a.toNat b.toNat > 999999999 then 4 else 0
theorem Price_c {H : AHeap} {q : Option Addr} {c : Nat} {l : List Ra} {a b : Int} (hs : SlAt H 3 ra q l) (hlow : LowS q c l.length) (hn : l.length < 1000000000000) :
    Ret Tryz.prog 12 [.slice q l.length c, I a, I b] H (.tuple ⟨[I (priceV l a b), I (priceE l a b)]⟩) H := by
  refine fn_start Tryz.func12 rfl rfl rfl fun hc => ?_
  apply ct_seq
  apply ct_region
  apply seq_plain; exact do_assign rfl; exact rfl
  apply seq_plain; exact do_assign rfl; exact rfl
  apply seq_nil
  apply ct_seq
  apply ct_seq
  apply ct_region
  apply seq_plain; exact do_move rfl; exact rfl
  apply seq_plain; exact do_move rfl; exact rfl
  apply seq_plain; exact do_move rfl; exact rfl
  apply seq_call (ht := rfl); exact checkSpan_c (hs.ext (ext_Ext hc)) hlow hn; exact rfl
  apply seq_plain; exact do_assign rfl; exact rfl
  apply seq_nil
  apply ct_seq
  apply ct_region
  apply seq_plain; exact do_move rfl; exact rfl
  apply seq_plain; exact do_binInt rfl rfl rfl trivial; exact rfl
  apply seq_nil
  refine ct_cond rfl (fun h1 => ?_) (fun h1 => ?_)
  · have h1 : spanE l a b ≠ 0 := by simpa using h1
    apply ct_seq
    apply ct_region
    apply seq_plain; exact do_move rfl; exact rfl
    apply seq_plain; exact do_assign rfl; exact rfl
    apply seq_plain; exact do_assign rfl; exact rfl
    apply seq_nil
    apply ct_ret
    refine fin_flat hc rfl rfl ⟨?_, rfl⟩
    unfold priceV priceE
    rw [if_pos h1, if_pos h1]; rfl
  · have h1 : spanE l a b = 0 := by simpa using h1
    obtain ⟨hr, h2, h3, h4⟩ := span_ok h1
    obtain ⟨a, rfl⟩ := Int.eq_ofNat_of_zero_le h2
    obtain ⟨b, rfl⟩ := Int.eq_ofNat_of_zero_le (by omega : 0 ≤ b)
    apply ct_skip
    apply ct_seq
    apply ct_region
    apply seq_plain; exact do_move rfl; exact rfl
    apply seq_plain; exact do_move rfl; exact rfl
    apply seq_plain; exact do_move rfl; exact rfl
    apply seq_call (ht := rfl); exact price_c (hs.ext (ext_Ext hc)) hr (by omega) (by omega); exact rfl
    apply seq_plain; exact do_extract rfl rfl; exact rfl
    apply seq_plain; exact do_extract rfl rfl; exact rfl
    apply seq_plain; exact do_assign rfl; exact rfl
    apply seq_plain; exact do_assign rfl; exact rfl
    apply seq_nil
    apply ct_ret
    refine fin_flat hc rfl rfl ⟨?_, rfl⟩
    unfold priceV priceE
    have hz : ¬ spanE l (a : Int) (b : Int) ≠ 0 := by rw [h1]; simp
    rw [if_neg hz, if_neg hz]; rfl
end Go.Proofs.YtfjihdlpohljbaaGreat
