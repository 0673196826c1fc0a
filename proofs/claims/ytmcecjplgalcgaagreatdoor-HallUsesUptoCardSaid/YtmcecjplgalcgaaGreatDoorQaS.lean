/- The reference's numbers: texts of rows and places are checked. -/
import Derived.Test.YtmcecjplgalcgaaGreatDoorQaG
import Derived.Test.YtmcecjplgalcgaaGreatDoorStE
import Derived.Test.YtmcecjplgalcgaaGreatDoorQaQ
import Derived.Test.YtmcecjplgalcgaaGreatDoorQaI
noncomputable section
namespace Go.Proofs.YtmcecjplgalcgaaGreatDoor
open Go Go.Den
set_option maxRecDepth 100000
structure GoodQ (s : List UInt8) : Prop where
 ok : ∀ H, Ret Tryz.prog 96 [.string (tx s)] H (I 0) H
abbrev t1 (s : List UInt8) : List Value := [.string (tx s)]
theorem checkRow_c {H : AHeap} {p : Option Addr} {c : Nat} {l : List (List UInt8)} (hp : SlAt H 1 t1 p l) (hn : l.length < 1000000) (hg : ∀ s ∈ l, GoodQ s) :
  Ret Tryz.prog 49 [.slice p l.length c] H (I 0) H := by
 refine fn_start Tryz.func49 rfl rfl rfl fun hc => ?_
 apply ct_seq
 apply ct_region
 apply seq_plain; exact do_assign rfl; exact rfl
 apply seq_nil
 iterate 2 (apply ct_seq)
 apply ct_region
 apply seq_plain; exact do_assign rfl; exact rfl
 apply seq_nil
 apply ct_block
 apply ct_loop
 refine lt_up (fun i => [(0, .slice p l.length c), (3, I i)]) (fun _ => True) l.length (fun i hi hJ ih => ?_) 0 (by omega) trivial (by repeat (first | exact sub_nil | apply sub_cons rfl))
 iterate 2 (apply ct_seq)
 apply ct_region
 iterate 2 (apply seq_plain; exact do_move rfl; exact rfl)
 apply seq_plain; exact do_lenS rfl rfl rfl; exact rfl
 apply seq_plain; exact do_binInt rfl rfl rfl trivial; exact rfl
 apply seq_nil
 refine ct_cond rfl (fun h1 => ?_) (fun h1 => ?_)
 ·have h1 : i < l.length := by simpa using h1
  obtain ⟨b1, o1, cs1, z1, s1, ro1, rfl, hg1, hw1⟩ := hp.out (by intro e; rw [e] at h1; simp at h1)
  have cq := (hg _ (List.getElem_mem h1)).ok
  have hV : pt false 1 cs1 (o1 + i * 1) = some (.string (tx l[i])) := pt_sl0 (n := 1) (g := fun s => Value.string (tx s)) hw1 h1
  apply ct_skip
  apply ct_seq
  apply ct_block
  apply ct_seq
  apply ct_region
  iterate 2 (apply seq_plain; exact do_move rfl; exact rfl)
  apply seq_plain; exact do_indexAddrS rfl rfl rfl (by exact idx_nat (by omega)); exact rfl
  apply seq_plain; exact do_load rfl (by exact ext_get_old (by assumption) (by assumption)) rfl (by exact (by assumption)); exact rfl
  apply seq_call (ht := rfl); exact cq _; exact rfl
  apply seq_plain; exact do_assign rfl; exact rfl
  apply seq_nil
  apply ct_seq
  apply ct_region
  apply seq_plain; exact do_move rfl; exact rfl
  apply seq_plain; exact do_binInt rfl rfl rfl trivial; exact rfl
  apply seq_nil
  refine ct_cond_f rfl rfl ?_
  apply ct_skip
  apply ct_region
  apply seq_plain; exact do_move rfl; exact rfl
  apply seq_plain; exact do_succ rfl (by omega); exact rfl
  apply seq_plain; exact do_assign rfl; exact rfl
  apply seq_nil
  exact lt_sub (by repeat (first | exact sub_nil | apply sub_cons rfl)) (ih (i + 1) (by omega) (by omega) trivial)
 ·apply ct_exit
  apply exit_eq; exact rfl
  apply ct_seq
  apply ct_region
  apply seq_plain; exact do_assign rfl; exact rfl
  apply seq_nil
  apply ct_ret
  exact fin_flat hc rfl rfl ⟨rfl, rfl⟩
theorem checkPlace_c {H : AHeap} {x y : List UInt8} (hx : GoodQ x) (hy : GoodQ y) : Ret Tryz.prog 15 [.agg ⟨[.string (tx x), .string (tx y)]⟩] H (I 0) H := by
 refine fn_start Tryz.func15 rfl rfl rfl fun hc => ?_
 have cr := fun lo L (h : L[1]? = some (some (.cells [.string (tx x), .string (tx y)] 1 false false))) => checkRow_c (H := ext H lo L) (p := some ⟨nb H 1, 0, none⟩) (c := 2) (l := [x, y]) (slAt_flat (fun _ => rfl) (ext_get_new (by exact h))) (by simp) (fun s hs => by
  simp only [List.mem_cons, List.not_mem_nil, or_false] at hs
  rcases hs with rfl | rfl <;> assumption)
 apply ct_seq
 apply ct_region
 apply seq_newP; exact do_box rfl rfl rfl; exact rfl
 apply seq_plain; exact do_assign rfl; exact rfl
 apply seq_nil
 apply ct_seq
 apply ct_region
 apply seq_plain; exact do_fieldAddr rfl rfl; exact rfl
 apply seq_plain; exact do_load rfl (by exact ext_get_new rfl) rfl (by exact rfl); exact rfl
 apply seq_plain; exact do_fieldAddr rfl rfl; exact rfl
 apply seq_plain; exact do_load rfl (by exact ext_get_new rfl) rfl (by exact rfl); exact rfl
 apply seq_newS; exact do_buildSlice rfl rfl rfl rfl rfl rfl rfl; exact rfl
 apply seq_call (ht := rfl); exact cr _ _ rfl; exact rfl
 apply seq_plain; exact do_assign rfl; exact rfl
 apply seq_nil
 apply ct_ret
 exact fin_flat hc rfl rfl ⟨rfl, rfl⟩
theorem ofS_good {n d : Int} (h1 : -1000000000000000 < n) (h2 : n < 1000000000000000) (h3 : -1000000000 < d) (h4 : d < 1000000000) (h0 : d ≠ 0) : GoodQ (ofS n d) := by
 have ed := mkD_le (n := n) (d := d)
 have en := mkN_abs (n := n) (d := d)
 have ep := mkD_pos (n := n) h0
 have hg := mk_gcd_pos (n := n) h0
 have e : ofS n d = ratQ (decide (mkN n d < 0)) (mkN n d).natAbs (mkD n d).toNat := ratS_Q _ _
 refine ⟨fun H => ?_⟩
 rw [e]
 refine checkQ_c (by omega) (by omega) (by omega) ?_ (fun h => by have := of_decide_eq_true h; omega)
 have hs : (sgnN n d).natAbs = n.natAbs := by unfold sgnN; split <;> omega
 have eg : (mkG n d).natAbs = Nat.gcd n.natAbs d.natAbs := by unfold mkG; simp
 have hgN : 0 < Nat.gcd n.natAbs d.natAbs := Nat.gcd_pos_of_pos_right _ (by omega)
 have a1 : (mkN n d).natAbs = n.natAbs / Nat.gcd n.natAbs d.natAbs := by
  unfold mkN
  rw [Int.natAbs_ediv_of_dvd, hs, eg]
  ·rw [← Int.natAbs_dvd_natAbs, hs, eg]; exact Nat.gcd_dvd_left _ _
 have a2 : (mkD n d).toNat = d.natAbs / Nat.gcd n.natAbs d.natAbs := by
  unfold mkD mkG
  rw [← Int.natCast_ediv, Int.toNat_natCast]
 rw [a1, a2]
 rw [Nat.gcd_div (Nat.gcd_dvd_left _ _) (Nat.gcd_dvd_right _ _)]
 exact Nat.div_self hgN
end Go.Proofs.YtmcecjplgalcgaaGreatDoor
/- The reference's numbers: a number and its opposite add up to 0. -/
noncomputable section
namespace Go.Proofs.YtmcecjplgalcgaaGreatDoor
open Go Go.Den
set_option maxRecDepth 100000
theorem valW_set : ∀ (l : List Int) (i : Nat) (v : Int), i < l.length → valW (l.set i v) = valW l + (v - l[i]?.getD 0) * 1000000000 ^ i
 | a :: r, 0, v, _ => by simp [valW]; omega
 | a :: r, i + 1, v, h => by
  have ih := valW_set r i v (by simpa using h)
  simp only [List.set_cons_succ, valW, List.getElem?_cons_succ]
  rw [ih, Int.pow_succ]
  have e : (v - r[i]?.getD 0) * (1000000000 ^ i * 1000000000) = 1000000000 * ((v - r[i]?.getD 0) * 1000000000 ^ i) := by rw [← Int.mul_assoc, Int.mul_comm]
  omega
theorem valW_snoc : ∀ (l : List Int) (v : Int), valW (l ++ [v]) = valW l + v * 1000000000 ^ l.length
 | [], v => by simp [valW]
 | a :: r, v => by
  have ih := valW_snoc r v
  simp only [List.cons_append, valW, List.length_cons]
  rw [ih, Int.pow_succ]
  have e : v * (1000000000 ^ r.length * 1000000000) = 1000000000 * (v * 1000000000 ^ r.length) := by rw [← Int.mul_assoc, Int.mul_comm]
  omega
theorem valW_zero (n : Nat) : valW (List.replicate n 0) = 0 := by
 induction n with
 | zero => rfl
 | succ n ih => simp [List.replicate_succ, valW, ih]
theorem muC_val {x : List Int} {d : Int} (hx : DigL x) (hd0 : 0 ≤ d) (hd : d < 1000000000) : ∀ i, i ≤ x.length → valW (muC x d i) = valW (x.take i) * d
 | 0, _ => by simp [muC, valW_zero, valW]
 | i + 1, h => by
  have ih := muC_val hx hd0 hd i (by omega)
  have hl := muC_len x d i
  have hi : i < x.length := by omega
  have ex : x[i]?.getD 0 = x[i] := by rw [List.getElem?_eq_getElem hi]; rfl
  rw [List.take_succ_eq_append_getElem hi, valW_snoc, List.length_take, Nat.min_eq_left (by omega)]
  simp only [muC]
  rw [valW_set _ _ _ (by rw [List.length_set, hl]; omega), valW_set _ _ _ (by rw [hl]; omega), ih, ex, Int.pow_succ]
  generalize (muC x d i)[i]?.getD 0 = t
  generalize ((muC x d i).set i ((t + x[i] * d + 0) % 1000000000))[i + 1]?.getD 0 = t2
  have e1 : t2 + (t + x[i] * d + 0) / 1000000000 - t2 = (t + x[i] * d + 0) / 1000000000 := by omega
  have e2 := Int.emod_add_mul_ediv (t + x[i] * d + 0) 1000000000
  rw [e1, Int.add_mul]
  generalize (1000000000 : Int) ^ i = Z at *
  generalize (t + x[i] * d + 0) / 1000000000 = Q at *
  generalize hR : (t + x[i] * d + 0) % 1000000000 = R at *
  have e3 : R - t + Q * 1000000000 = x[i] * d := by omega
  have e4 : (R - t) * Z + Q * (Z * 1000000000) = x[i] * d * Z := by
   rw [← e3, Int.add_mul, Int.mul_comm Z, Int.mul_assoc]
  rw [Int.add_assoc, e4, Int.mul_right_comm]
theorem valW_trim {l : List Int} : ∀ k, k ≤ l.length → trimAt l k = 0 → valW (l.take k) = 0
 | 0, _, _ => by simp [valW]
 | k + 1, h, h0 => by
  have hk : k < l.length := by omega
  simp only [trimAt] at h0
  split at h0
  ·rename_i e
   rw [List.getElem?_eq_getElem hk, Option.some.injEq] at e
   rw [List.take_succ_eq_append_getElem hk, valW_snoc, e, valW_trim k (by omega) h0]; simp
  ·omega
theorem prW_ne {x : List Int} {d : Int} (hx : DigL x) (hd0 : 0 < d) (hd : d < 1000000000) (hv : 0 < valW x) : prW x d ≠ [] := by
 intro e
 have h0 : trimN (muC x d x.length) = 0 := by rw [← prW_len, e]; rfl
 have h1 := valW_trim (l := muC x d x.length) _ (Nat.le_refl _) h0
 rw [List.take_length, muC_val hx (by omega) hd _ (Nat.le_refl _), List.take_length] at h1
 have := Int.mul_pos hv hd0
 omega
theorem prW_sq {d : Int} (h1 : 1 ≤ d) (h2 : d < 1000000000) : prW [d] d = if d * d < 1000000000 then [d * d] else [d * d % 1000000000, d * d / 1000000000] := by
 have e : muC [d] d 1 = [d * d % 1000000000, d * d / 1000000000] := by simp [muC]
 have hp : 0 < d * d := Int.mul_pos (by omega) (by omega)
 unfold prW
 rw [show ([d] : List Int).length = 1 from rfl, e]
 split
 ·rename_i h
  have a1 : d * d % 1000000000 = d * d := Int.emod_eq_of_lt (by omega) h
  have a2 : d * d / 1000000000 = 0 := Int.ediv_eq_zero_of_lt (by omega) h
  rw [a1, a2]
  have : trimN [d * d, 0] = 1 := by
   unfold trimN
   simp only [List.length_cons, List.length_nil, trimAt, List.getElem?_cons_succ, List.getElem?_cons_zero, Option.some.injEq, if_true]
   rw [if_neg (by omega)]
  rw [this]; rfl
 ·rename_i h
  have : trimN [d * d % 1000000000, d * d / 1000000000] = 2 := by
   unfold trimN
   simp only [List.length_cons, List.length_nil, trimAt, List.getElem?_cons_succ, List.getElem?_cons_zero, Option.some.injEq]
   rw [if_neg (by omega)]
  rw [this]; rfl
def D2 : Prop := ∀ y0 y1 : Int, 0 ≤ y0 → y0 < 1000000000 → 1 ≤ y1 → y1 < 1000000000 → DivSame [y0, y1]
theorem prW_same (h : D2) {d : Int} (h1 : 1 ≤ d) (h2 : d < 1000000000) : DivSame (prW [d] d) := by
 have hp : 0 < d * d := Int.mul_pos (by omega) (by omega)
 have hq : d * d ≤ 999999999 * 999999999 := Int.mul_le_mul (by omega) (by omega) (by omega) (by omega)
 rw [prW_sq h1 h2]
 split
 ·exact divSame1 (by omega) (by omega)
 ·exact h _ _ (by omega) (by omega) (by omega) (by omega)
set_option maxHeartbeats 8000000 in
theorem addOpp_c {H : AHeap} {neg neg' : Bool} {u d : Nat} (h2 : D2) (hu : u < 1000000000000000000) (hd1 : 1 ≤ d) (hd : d < 1000000000) (ho : u ≠ 0 → neg' = !neg) :
  Ret Tryz.prog 16 [.string (tx (ratQ neg u d)), .string (tx (ratQ neg' u d))] H (.string (tx [48])) H := by
 refine fn_start Tryz.func16 rfl rfl rfl fun hc => ?_
 have cq := fun lo L => quick_c (H := ext H lo L) (neg := neg) hu hd1 hd
 have cq' := fun lo L => quick_c (H := ext H lo L) (neg := neg') hu hd1 hd
 have hD0 : (0 : Int) < (d : Int) := by omega
 have hDD : 0 < (d : Int) * (d : Int) := Int.mul_pos hD0 hD0
 have hDD2 : (d : Int) * (d : Int) ≤ 999999999 * 999999999 := Int.mul_le_mul (by omega) (by omega) (by omega) (by omega)
 by_cases hs : u < 1000000000
 ·obtain ⟨n, hn⟩ : ∃ n : Int, n = if neg = true then -(u : Int) else u := ⟨_, rfl⟩
  obtain ⟨n', hn'⟩ : ∃ n' : Int, n' = if neg' = true then -(u : Int) else u := ⟨_, rfl⟩
  have e1 : quickV neg u d = .tuple ⟨[I n, I d, .bool true]⟩ := by rw [hn]; exact if_pos hs
  have e2 : quickV neg' u d = .tuple ⟨[I n', I d, .bool true]⟩ := by rw [hn']; exact if_pos hs
  rw [e1] at cq
  rw [e2] at cq'
  have hnn : n' = -n := by
   by_cases h0 : u = 0
   ·subst h0; rw [hn, hn']; split <;> split <;> simp
   ·rw [hn, hn', ho h0]; cases neg <;> simp
  have hnb : (n * (d : Int)).natAbs ≤ 999999999 * 999999999 := by
   rw [Int.natAbs_mul]
   refine Nat.mul_le_mul ?_ (by omega)
   rw [hn]; split <;> omega
  have m1 : -9223372036854775808 ≤ n * (d : Int) ∧ n * (d : Int) ≤ 9223372036854775807 := by omega
  have m2 : -9223372036854775808 ≤ -n * (d : Int) ∧ -n * (d : Int) ≤ 9223372036854775807 := by rw [Int.neg_mul]; omega
  have m3 : -9223372036854775808 ≤ (d : Int) * (d : Int) ∧ (d : Int) * (d : Int) ≤ 9223372036854775807 := by omega
  have m4 : n * (d : Int) + -n * (d : Int) = 0 := by rw [Int.neg_mul]; omega
  have co := fun lo L => ofZ_c (H := ext H lo L) hDD (by omega)
  subst hnn
  apply ct_seq
  apply ct_region
  apply seq_plain; exact do_assign rfl; exact rfl
  apply seq_nil
  apply ct_seq
  apply ct_region
  apply seq_plain; exact do_move rfl; exact rfl
  apply seq_call (ht := rfl); exact cq _ _; exact rfl
  apply seq_plain; exact do_move rfl; exact rfl
  iterate 3 (apply seq_plain; exact do_extract rfl rfl; exact rfl)
  iterate 3 (apply seq_plain; exact do_assign rfl; exact rfl)
  apply seq_nil
  apply ct_seq
  apply ct_region
  apply seq_plain; exact do_move rfl; exact rfl
  apply seq_call (ht := rfl); exact cq' _ _; exact rfl
  apply seq_plain; exact do_move rfl; exact rfl
  iterate 3 (apply seq_plain; exact do_extract rfl rfl; exact rfl)
  iterate 3 (apply seq_plain; exact do_assign rfl; exact rfl)
  apply seq_nil
  iterate 2 (apply ct_seq)
  apply ct_region
  iterate 2 (apply seq_plain; exact do_move rfl; exact rfl)
  apply seq_guard (hd := rfl) (hl := rfl); exact do_move rfl; exact rfl
  apply seq_plain; exact do_pick_t rfl rfl; exact rfl
  apply seq_nil
  refine ct_cond_t rfl rfl ?_
  apply ct_seq
  apply ct_region
  iterate 2 (apply seq_plain; exact do_move rfl; exact rfl)
  apply seq_plain; exact do_mul rfl rfl (by assumption); exact rfl
  iterate 2 (apply seq_plain; exact do_move rfl; exact rfl)
  apply seq_plain; exact do_mul rfl rfl (by assumption); exact rfl
  apply seq_plain; exact do_add rfl rfl (by omega); exact rfl
  iterate 2 (apply seq_plain; exact do_move rfl; exact rfl)
  apply seq_plain; exact do_mul rfl rfl (by assumption); exact rfl
  rw [m4]
  apply seq_call (ht := rfl); exact co _ _; exact rfl
  apply seq_plain; exact do_assign rfl; exact rfl
  apply seq_nil
  apply ct_ret
  exact fin_flat hc rfl rfl ⟨rfl, rfl⟩
 ·have e1 : quickV neg u d = .tuple ⟨[I 0, I 0, .bool false]⟩ := if_neg hs
  have e2 : quickV neg' u d = .tuple ⟨[I 0, I 0, .bool false]⟩ := if_neg hs
  rw [e1] at cq
  rw [e2] at cq'
  have hu0 : u ≠ 0 := by omega
  have hnn := ho hu0
  subst hnn
  have cp := fun lo L => partsQ_c (H := ext H lo L) (neg := neg) hu (show d < 1000000000000000000 by omega) hd1
  have cp' := fun lo L => partsQ_c (H := ext H lo L) (neg := !neg) hu (show d < 1000000000000000000 by omega) hd1
  have ewu : wN u = (wL u).length := if_neg hu0
  have ewd : wN d = 1 := by
   unfold wN
   rw [if_neg (by omega), wL_small (by omega)]; rfl
  have ewl : (wL d).length = 1 := by rw [wL_small (by omega)]; rfl
  have hwd : wB d = .cells ([(d : Int)].map I) 1 true false := by
   show ABlk.cells ((wL d).map I) 1 true false = _
   rw [wL_small (by omega)]
  have e0 : decide (0 < u) = true := decide_eq_true (by omega)
  simp only [ext_fresh, ext_add, e0, Bool.and_true, ewu, ewd, ewl] at cp cp'
  apply ct_seq
  apply ct_region
  apply seq_plain; exact do_assign rfl; exact rfl
  apply seq_nil
  apply ct_seq
  apply ct_region
  apply seq_plain; exact do_move rfl; exact rfl
  apply seq_call (ht := rfl); exact cq _ _; exact rfl
  apply seq_plain; exact do_move rfl; exact rfl
  iterate 3 (apply seq_plain; exact do_extract rfl rfl; exact rfl)
  iterate 3 (apply seq_plain; exact do_assign rfl; exact rfl)
  apply seq_nil
  apply ct_seq
  apply ct_region
  apply seq_plain; exact do_move rfl; exact rfl
  apply seq_call (ht := rfl); exact cq' _ _; exact rfl
  apply seq_plain; exact do_move rfl; exact rfl
  iterate 3 (apply seq_plain; exact do_extract rfl rfl; exact rfl)
  iterate 3 (apply seq_plain; exact do_assign rfl; exact rfl)
  apply seq_nil
  iterate 2 (apply ct_seq)
  apply ct_region
  iterate 2 (apply seq_plain; exact do_move rfl; exact rfl)
  apply seq_passed (hd := rfl) (hl := rfl) (hb := rfl); exact rfl
  apply seq_plain; exact do_pick_f rfl rfl; exact rfl
  apply seq_nil
  refine ct_cond_f rfl rfl ?_
  apply ct_skip
  apply ct_seq
  apply ct_region
  apply seq_plain; exact do_move rfl; exact rfl
  apply seq_call (ht := rfl); exact cp _ _; exact rfl
  apply seq_plain; exact do_move rfl; exact rfl
  iterate 2 (apply seq_plain; exact do_extract rfl rfl; exact rfl)
  iterate 2 (apply seq_newP; exact do_alloc rfl rfl; exact rfl)
  apply seq_put (hc := by assumption); rotate_left; exact do_store rfl rfl (by exact ext_get_new rfl) rfl rfl (nb_own _); rotate_left; exact Nat.le_of_ble_eq_true rfl
  apply seq_putC (hc := by assumption); rotate_left; exact do_store rfl rfl (by exact ext_get_new rfl) rfl rfl (nb_own _); rotate_left; exact Nat.le_of_ble_eq_true rfl
  apply ct_seq
  apply ct_region
  apply seq_plain; exact do_move rfl; exact rfl
  apply seq_call (ht := rfl); exact cp' _ _; exact rfl
  apply seq_plain; exact do_move rfl; exact rfl
  iterate 2 (apply seq_plain; exact do_extract rfl rfl; exact rfl)
  iterate 2 (apply seq_newP; exact do_alloc rfl rfl; exact rfl)
  apply seq_put (hc := by assumption); rotate_left; exact do_store rfl rfl (by exact ext_get_new rfl) rfl rfl (nb_own _); rotate_left; exact Nat.le_of_ble_eq_true rfl
  apply seq_putC (hc := by assumption); rotate_left; exact do_store rfl rfl (by exact ext_get_new rfl) rfl rfl (nb_own _); rotate_left; exact Nat.le_of_ble_eq_true rfl
  apply ct_seq
  obtain ⟨k, hk⟩ : ∃ k, k = (wL u).length := ⟨_, rfl⟩
  rw [← hk]
  obtain ⟨L, hL⟩ : ∃ L : List (Option ABlk), L = [some (wB u), some (wB d), some (.cells [.bool neg, .slice (some ⟨nb H 0, 0, none⟩) k k] 0 false false), some (.cells [.bool false, .slice (some ⟨nb H 1, 0, none⟩) 1 1] 0 false false), some (wB u), some (wB d), some (.cells [.bool !neg, .slice (some ⟨nb H 4, 0, none⟩) k k] 0 false false), some (.cells [.bool false, .slice (some ⟨nb H 5, 0, none⟩) 1 1] 0 false false)] := ⟨_, rfl⟩
  refine ct_to (l' := [(11, .pointer (some ⟨nb H 2, 0, none⟩)), (12, .pointer (some ⟨nb H 3, 0, none⟩)), (13, .pointer (some ⟨nb H 6, 0, none⟩)), (14, .pointer (some ⟨nb H 7, 0, none⟩))]) (h' := ext H H.fresh L) (by repeat (first | exact sub_nil | apply sub_cons rfl)) (by rw [hL]; exact .refl _) ?_
  have f0 : L[0]? = some (some (wB u)) := by rw [hL]; rfl
  have f1 : L[1]? = some (some (wB d)) := by rw [hL]; rfl
  have f2 : L[2]? = some (some (.cells [.bool neg, .slice (some ⟨nb H 0, 0, none⟩) k k] 0 false false)) := by rw [hL]; rfl
  have f3 : L[3]? = some (some (.cells [.bool false, .slice (some ⟨nb H 1, 0, none⟩) 1 1] 0 false false)) := by rw [hL]; rfl
  have f4 : L[4]? = some (some (wB u)) := by rw [hL]; rfl
  have f5 : L[5]? = some (some (wB d)) := by rw [hL]; rfl
  have f6 : L[6]? = some (some (.cells [.bool !neg, .slice (some ⟨nb H 4, 0, none⟩) k k] 0 false false)) := by rw [hL]; rfl
  have f7 : L[7]? = some (some (.cells [.bool false, .slice (some ⟨nb H 5, 0, none⟩) 1 1] 0 false false)) := by rw [hL]; rfl
  have fl : L.length = 8 := by rw [hL]; rfl
  clear hL cq cq' cp cp'
  have hv : 0 < valW (wL u) := by rw [wL_val]; omega
  have hdg := wL_dig hu
  have hln : (wL u).length ≤ 500 := by have := wL_len u; omega
  have hX := prW_ne hdg hD0 (by omega) hv
  have hW := prW_ne (x := [(d : Int)]) ⟨fun z hz => by rw [List.mem_singleton] at hz; omega⟩ hD0 (by omega) (by simp [valW]; omega)
  have hWs := prW_same h2 (show (1 : Int) ≤ d by omega) (by omega)
  have epX : decide (0 < (prW (wL u) d).length) = true := decide_eq_true (List.length_pos_iff.2 hX)
  have epW : decide (0 < (prW [(d : Int)] d).length) = true := decide_eq_true (List.length_pos_iff.2 hW)
  have lX : (prW (wL u) d).length ≤ 3 := by
   rw [prW_len]
   have := trimN_le (muC (wL u) d (wL u).length)
   rw [muC_len] at this
   have := wL_len u
   omega
  have lW : (prW [(d : Int)] d).length ≤ 2 := by
   rw [prW_len]
   have := trimN_le (muC [(d : Int)] d 1)
   rw [muC_len] at this
   exact this
  have ct1 := fun lo (M : List (Option ABlk)) (x0 : M[0]? = some (some (wB u))) (x5 : M[5]? = some (some (wB d))) => times_c (H := ext H lo M) (p := some ⟨nb H 0, 0, none⟩) (q := some ⟨nb H 5, 0, none⟩) (c := k) (e := 1) (x := wL u) (d := (d : Int)) (ng := neg) (ng' := false) (slAt_map (g := I) (ext_get_new x0)) (slAt_map (g := I) (l := [(d : Int)]) (ext_get_new (by rw [x5, hwd]))) hln hdg (by omega) (by omega)
  have ct2 := fun lo (M : List (Option ABlk)) (x0 : M[4]? = some (some (wB u))) (x5 : M[1]? = some (some (wB d))) => times_c (H := ext H lo M) (p := some ⟨nb H 4, 0, none⟩) (q := some ⟨nb H 1, 0, none⟩) (c := k) (e := 1) (x := wL u) (d := (d : Int)) (ng := !neg) (ng' := false) (slAt_map (g := I) (ext_get_new x0)) (slAt_map (g := I) (l := [(d : Int)]) (ext_get_new (by rw [x5, hwd]))) hln hdg (by omega) (by omega)
  have ct3 := fun lo (M : List (Option ABlk)) (x0 : M[1]? = some (some (wB d))) (x5 : M[5]? = some (some (wB d))) => times_c (H := ext H lo M) (p := some ⟨nb H 1, 0, none⟩) (q := some ⟨nb H 5, 0, none⟩) (c := 1) (e := 1) (x := [(d : Int)]) (d := (d : Int)) (ng := false) (ng' := false) (slAt_map (g := I) (l := [(d : Int)]) (ext_get_new (by rw [x0, hwd]))) (slAt_map (g := I) (l := [(d : Int)]) (ext_get_new (by rw [x5, hwd]))) (by simp) ⟨fun z hz => by rw [List.mem_singleton] at hz; omega⟩ (by omega) (by omega)
  rw [← hk, epX, Bool.and_true, Bool.bne_false] at ct1 ct2
  rw [epW] at ct3
  have cpl := fun lo (M : List (Option ABlk)) (x0 : M[8]? = some (some (muB (wL u) d))) (x5 : M[9]? = some (some (muB (wL u) d))) => plusOpp_c (H := ext H lo M) (p := some ⟨nb H 8, 0, none⟩) (q := some ⟨nb H 9, 0, none⟩) (c := k + 1) (e := k + 1) (x := prW (wL u) d) (ng := neg) (prW_at (ext_get_new x0)) (prW_at (ext_get_new x5)) (by omega) hX
  have cfr := fun lo (M : List (Option ABlk)) (h10 : 10 < M.length) (x5 : M[11]? = some (some (muB [(d : Int)] d))) => fraction0_c (H := ext H lo M) (p := some ⟨nb H 10, 0, none⟩) (q := some ⟨nb H 11, 0, none⟩) (c := (prW (wL u) d).length) (e := 1 + 1) (w := prW [(d : Int)] d) (OldS.new h10) (prW_at (ext_get_new x5)) (OldS.new (List.getElem?_eq_some_iff.1 x5).1) (by omega) hW hWs
  apply ct_draw (by assumption); decide +kernel
  iterate 2 (apply sd_look (hfree := rfl); exact do_load rfl (by exact ext_get_new (getApp (by assumption))) rfl (by exact rfl); exact rfl)
  refine sd_callN (v := fun b => intQ neg (some ⟨b, 0, none⟩) (prW (wL u) d).length (k + 1)) rfl rfl (by decide +kernel) (ct1 _ _ (getApp f0) (getApp f5)) rfl ?_
  iterate 2 (apply sd_look (hfree := rfl); exact do_load rfl (by exact ext_get_new (getApp (by assumption))) rfl (by exact rfl); exact rfl)
  refine sd_callN (v := fun b => intQ (!neg) (some ⟨b, 0, none⟩) (prW (wL u) d).length (k + 1)) rfl rfl (by decide +kernel) (ct2 _ _ (getApp f4) (getApp f1)) rfl ?_
  skip
  rw [fl]
  refine sd_callN (v := fun b => intQ false (some ⟨b, 0, none⟩) 0 (prW (wL u) d).length) rfl rfl (by decide +kernel) (cpl _ _ (by rw [List.getElem?_append_right (by omega), fl]; rfl) (by rw [List.getElem?_append_right (by omega), fl]; rfl)) rfl ?_
  iterate 2 (apply sd_look (hfree := rfl); exact do_load rfl (by exact ext_get_new (getApp (by assumption))) rfl (by exact rfl); exact rfl)
  refine sd_callN (v := fun b => intQ false (some ⟨b, 0, none⟩) (prW [(d : Int)] d).length (1 + 1)) rfl rfl (by decide +kernel) (ct3 _ _ (getApp f1) (getApp f5)) rfl ?_
  rw [fl]
  apply sd_callM (ht := rfl) (hw := rfl); decide +kernel; exact cfr _ _ (by simp; omega) (by rw [List.getElem?_append_right (by omega), fl]; rfl); exact rfl
  apply sd_plain (hfree := rfl); intro _; exact do_assign rfl; exact rfl
  apply sd_nil
  apply ct_ret
  exact fin_flat hc rfl rfl ⟨rfl, rfl⟩
end Go.Proofs.YtmcecjplgalcgaaGreatDoor
