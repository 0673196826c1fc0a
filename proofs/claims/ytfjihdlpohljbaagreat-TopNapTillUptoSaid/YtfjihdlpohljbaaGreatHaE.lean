/- Contracts: shares of equal weights, a price that is split. -/
import Derived.Test.YtfjihdlpohljbaaGreatHaD
import Derived.Test.YtfjihdlpohljbaaGreatTcH
import Derived.Test.YtfjihdlpohljbaaGreatStC
noncomputable section
namespace Go.Proofs.YtfjihdlpohljbaaGreat
open Go Go.Den
set_option maxRecDepth 100000

theorem do_mul1 {P : Program} {l : EL} {h : AHeap} {x y : Operand} {t t' : TypeId} {a : Nat} (hx : ev l x = some (.int .i64 (a : Int))) (hy : ev l y = some (.int .i64 1)) (ha : a < 9223372036854775808) : Does P l (.binOp .mul t x y t') h (.int .i64 (a : Int)) h := by
  have := do_mul (P := P) (h := h) (t := t) (t' := t') hx hy (by omega)
  rwa [Int.mul_one] at this
/-- the first i places hold x, all others y -/
def stepS (p i : Nat) (f g : Nat → Int) : List Int := (List.range p).map fun k => if k < i then f k else g k
theorem stepS_len {p i : Nat} {f g : Nat → Int} : (stepS p i f g).length = p := by simp [stepS]
theorem stepS_set {p i : Nat} {f g : Nat → Int} (v : Int) (hv : v = f i) : (stepS p i f g).set i v = stepS p (i + 1) f g := by
  refine List.ext_getElem (by simp [stepS]) fun k h1 h2 => ?_
  rw [List.getElem_set]
  simp only [stepS, List.getElem_map, List.getElem_range]
  by_cases e : i = k
  · subst e; rw [if_pos rfl, if_pos (by omega), hv]
  · rw [if_neg e]
    by_cases h : k < i
    · rw [if_pos h, if_pos (by omega)]
    · rw [if_neg h, if_neg (by omega)]
theorem stepS_zero {p : Nat} {f : Nat → Int} : stepS p 0 f (fun _ => 0) = List.replicate p 0 := by
  refine List.ext_getElem (by simp [stepS]) fun k h1 h2 => by simp [stepS]
theorem stepS_lo {p i k : Nat} {f g : Nat → Int} (h : k < i) (hk : k < (stepS p i f g).length) : (stepS p i f g)[k] = f k := by simp [stepS, h]
theorem stepS_hi {p i k : Nat} {f g : Nat → Int} (h : i ≤ k) (hk : k < (stepS p i f g).length) : (stepS p i f g)[k] = g k := by
  have : ¬ k < i := by omega
  simp [stepS, this]
theorem shares1_c {H : AHeap} {b b2 z z2 : Nat} {s ro s2 ro2 : Bool} {p : Nat} {r : Int} {x y : Nat} (hb : H.get b = some (.cells [.slice (some ⟨b2, 0, none⟩) p p] z s ro)) (hg : H.get b2 = some (.cells ((List.replicate p r).map I) z2 s2 ro2)) (hx : x < p) (hy : y < p) (hp : p ≤ 16) (hr : 0 ≤ r ∧ r ≤ 1000000000) :
    Ret Tryz.prog 43 [I (x : Int), I (y : Int), .pointer (some ⟨b, 0, none⟩)] H (I 0) H := by
  obtain ⟨R, hR⟩ : ∃ R, R = List.replicate p r := ⟨_, rfl⟩
  have hl : R.length = p := by rw [hR]; simp
  have hat : ∀ i (h : i < R.length), R[i] = r := fun i h => by simp only [hR, List.getElem_replicate]
  rw [← hR] at hg
  refine fn_start Tryz.func43 rfl rfl rfl fun hc => ?_
  have hb1 := hat x (by omega)
  have hb2 := hat y (by omega)
  apply ct_seq
  apply ct_region
  apply seq_plain; exact do_assign rfl; exact rfl
  apply seq_nil
  apply ct_seq
  apply ct_draw (by assumption); decide +kernel
  apply sd_look (hfree := rfl); exact do_load rfl (by exact ext_get_old (by assumption) (by assumption)) rfl (by exact rfl); exact rfl
  apply sd_plain (hfree := rfl); intro _; exact do_move rfl; exact rfl
  apply sd_plain (hfree := rfl); intro _; exact do_indexAddrS rfl rfl rfl (by exact idx_nat (by omega)); exact rfl
  apply sd_look (hfree := rfl); exact do_load rfl (by exact ext_get_old (by assumption) (by assumption)) rfl (by exact pt_map (by omega)); exact rfl
  apply sd_look (hfree := rfl); exact do_load rfl (by exact ext_get_old (by assumption) (by assumption)) rfl (by exact rfl); exact rfl
  apply sd_plain (hfree := rfl); intro _; exact do_move rfl; exact rfl
  apply sd_plain (hfree := rfl); intro _; exact do_indexAddrS rfl rfl rfl (by exact idx_nat (by omega)); exact rfl
  apply sd_look (hfree := rfl); exact do_load rfl (by exact ext_get_old (by assumption) (by assumption)) rfl (by exact pt_map (by omega)); exact rfl
  apply sd_plain (hfree := rfl); intro _; exact do_sub rfl rfl (by omega); exact rfl
  apply sd_plain (hfree := rfl); intro _; exact do_assign rfl; exact rfl
  apply sd_nil
  apply ct_ret
  rw [hb1, hb2, Int.sub_self]
  exact fin_flat hc rfl rfl ⟨rfl, rfl⟩
set_option maxHeartbeats 8000000 in
theorem shares_c {H : AHeap} {b p total : Nat} (h1 : 1 ≤ p) (h16 : p ≤ 16) (hb : own b = true) (hg : H.get b = some (onesB p)) (ht : total ≤ 999999999) :
    Ret Tryz.prog 14 [I total, .slice (some ⟨b, 0, none⟩) p p] H (.tuple ⟨[.slice (some ⟨H.fresh, 0, none⟩) p p, I 0]⟩) (H.add (.cells ((sharesP total p).map I) 1 false false)) := by
  obtain ⟨O, hO⟩ : ∃ O, O = List.replicate p (1 : Int) := ⟨_, rfl⟩
  have hOl : O.length = p := by rw [hO]; simp
  have hO1 : ∀ i (h : i < O.length), O[i] = 1 := fun i h => by simp only [hO, List.getElem_replicate]
  have hgO : H.get b = some (.cells (O.map I) 1 false false) := by rw [hO, List.map_replicate]; exact hg
  obtain ⟨w, hw⟩ : ∃ w, w = total / p := ⟨_, rfl⟩
  obtain ⟨r, hr⟩ : ∃ r, r = total % p := ⟨_, rfl⟩
  have hrp : r < p := by rw [hr]; exact Nat.mod_lt _ (by omega)
  have hwr : p * w + r = total := by rw [hw, hr]; exact Nat.div_add_mod total p
  have hwt : w ≤ total := by rw [hw]; exact Nat.div_le_self ..
  have e1 : decide ((total : Int) < 0) = false := decide_eq_false (by omega)
  have e2 : decide ((total : Int) > 999999999) = false := decide_eq_false (by omega)
  refine fn_start Tryz.func14 rfl rfl rfl fun hc => ?_
  apply ct_seq
  apply ct_region
  apply seq_plain; exact do_assign rfl; exact rfl
  apply seq_plain; exact do_assign rfl; exact rfl
  apply seq_nil
  apply ct_seq
  apply ct_seq
  apply ct_region
  apply seq_plain; exact do_move rfl; exact rfl
  apply seq_plain; exact do_binInt rfl rfl rfl trivial; exact rfl
  apply seq_plain; exact do_move rfl; exact rfl
  apply seq_guard (hd := rfl) (hl := rfl); exact do_move rfl; exact rfl
  apply seq_guard (hd := rfl) (hl := rfl); exact do_binInt rfl rfl rfl trivial; exact rfl
  apply seq_plain; exact do_pick_f rfl rfl; exact rfl
  apply seq_call (ht := rfl); exact whenN_c; exact rfl
  apply seq_plain; exact do_move rfl; exact rfl
  rw [e1]
  skip
  rw [e2]
  skip
  apply seq_call (ht := rfl); exact weights_c h1 h16 hb (ext_get_old hc hg); exact rfl
  apply seq_newS; exact do_buildSlice rfl rfl rfl rfl rfl rfl rfl; exact rfl
  apply seq_call (ht := rfl); exact firstN_c (l := [_, _]) (slAt_map (ext_get_new rfl)) (by simp); exact rfl
  apply seq_plain; exact do_assign rfl; exact rfl
  apply seq_nil
  apply ct_seq
  apply ct_region
  apply seq_plain; exact do_move rfl; exact rfl
  apply seq_plain; exact do_binInt rfl rfl rfl trivial; exact rfl
  apply seq_nil
  refine ct_cond_f rfl rfl ?_
  apply ct_skip
  apply ct_seq
  apply ct_region
  apply seq_plain; exact do_assign rfl; exact rfl
  apply seq_nil
  apply ct_seq
  apply ct_seq
  apply ct_region
  apply seq_plain; exact do_move rfl; exact rfl
  apply seq_plain; exact do_lenS rfl rfl rfl; exact rfl
  apply seq_plain; exact do_move rfl; exact rfl
  apply seq_nil
  apply ct_block
  apply ct_loop
  refine lt_up (fun i => [(0, I total), (1, .slice (some ⟨b, 0, none⟩) p p), (7, I i), (32, .slice (some ⟨b, 0, none⟩) p p), (33, I p), (34, I i)]) (fun _ => True) p (fun i hi _ ih => ?_) 0 (by omega) trivial (by repeat (first | exact sub_nil | apply sub_cons rfl))
  apply ct_seq
  apply ct_region
  apply seq_plain; exact do_binInt rfl rfl rfl trivial; exact rfl
  apply seq_nil
  apply ct_seq
  refine ct_cond rfl (fun g1 => ?_) (fun g1 => ?_)
  · simp only [decide_eq_true_eq, Int.ofNat_lt] at g1
    have ho := hO1 i (by omega)
    apply ct_skip
    apply ct_seq
    apply ct_block
    apply ct_seq
    apply ct_region
    apply seq_plain; exact do_indexAddrS rfl rfl rfl (by exact idx_nat (by omega)); exact rfl
    apply seq_plain; exact do_load rfl (by exact ext_get_old (by assumption) (by assumption)) rfl (by exact pt_map (by omega)); exact rfl
    apply seq_plain; exact do_assign rfl; exact rfl
    apply seq_nil
    apply ct_region
    apply seq_plain; exact do_move rfl; exact rfl
    apply seq_plain; exact do_move rfl; exact rfl
    apply seq_plain; exact do_add rfl rfl (by omega); exact rfl
    apply seq_plain; exact do_assign rfl; exact rfl
    apply seq_nil
    apply ct_region
    apply seq_plain; exact do_succ rfl (by omega); exact rfl
    apply seq_plain; exact do_move rfl; exact rfl
    apply seq_nil
    rw [ho]
    exact lt_sub (by repeat (first | exact sub_nil | apply sub_cons rfl)) (ih (i + 1) (by omega) (by omega) trivial)
  have g1 : p = i := by simp only [decide_eq_false_iff_not] at g1; omega
  subst g1
  clear ih
  apply ct_exit
  apply exit_eq; exact rfl
  apply ct_seq
  apply ct_region
  apply seq_plain; exact do_move rfl; exact rfl
  apply seq_plain; exact do_lenS rfl rfl rfl; exact rfl
  apply seq_newS; exact mk33 rfl (by omega); exact rfl
  apply seq_plain; exact do_assign rfl; exact rfl
  apply seq_nil
  apply ct_seq
  apply ct_region
  apply seq_plain; exact do_move rfl; exact rfl
  apply seq_plain; exact do_lenS rfl rfl rfl; exact rfl
  apply seq_newS; exact mk33 rfl (by omega); exact rfl
  apply seq_newP; exact do_alloc rfl rfl; exact rfl
  apply seq_putC (hc := by assumption); rotate_left; exact do_store rfl rfl (by exact ext_get_new rfl) rfl rfl (nb_own _); rotate_left; exact Nat.le_of_ble_eq_true rfl
  apply ct_seq
  apply ct_region
  apply seq_plain; exact do_move rfl; exact rfl
  apply seq_plain; exact do_lenS rfl rfl rfl; exact rfl
  apply seq_newS; exact mk33 rfl (by omega); exact rfl
  apply seq_plain; exact do_assign rfl; exact rfl
  apply seq_nil
  apply ct_seq
  apply ct_region
  apply seq_plain; exact do_move rfl; exact rfl
  apply seq_plain; exact do_assign rfl; exact rfl
  apply seq_nil
  apply ct_seq
  apply ct_seq
  apply ct_region
  apply seq_plain; exact do_move rfl; exact rfl
  apply seq_plain; exact do_lenS rfl rfl rfl; exact rfl
  apply seq_plain; exact do_move rfl; exact rfl
  apply seq_nil
  apply ct_block
  apply ct_loop
  have hiw : ∀ i, i ≤ p → i * w ≤ p * w := fun i hi => Nat.mul_le_mul_right w hi
  obtain ⟨lf, hlf⟩ : ∃ lf : Nat → Nat, ∀ i, lf i = total - i * w := ⟨_, fun _ => rfl⟩
  have hl0 : lf 0 = total := by rw [hlf]; simp
  have hls : ∀ i, i < p → lf (i + 1) = lf i - w ∧ w ≤ lf i ∧ lf i ≤ total := fun i hi => by
    have := hiw (i + 1) (by omega)
    rw [Nat.succ_mul] at this
    rw [hlf, hlf, Nat.succ_mul]
    omega
  have hlp : lf p = r := by rw [hlf]; omega
  obtain ⟨oS, hoS⟩ : ∃ oS : Nat → List Int, ∀ i, oS i = stepS p i (fun _ => (w : Int)) (fun _ => 0) := ⟨_, fun _ => rfl⟩
  obtain ⟨rS, hrS⟩ : ∃ rS : Nat → List Int, ∀ i, rS i = stepS p i (fun _ => (r : Int)) (fun _ => 0) := ⟨_, fun _ => rfl⟩
  obtain ⟨dS, hdS⟩ : ∃ dS : Nat → List Int, ∀ i, dS i = stepS p i (fun k => (k : Int)) (fun _ => 0) := ⟨_, fun _ => rfl⟩
  have oL : ∀ i, (oS i).length = p := fun i => by rw [hoS]; exact stepS_len
  have rL : ∀ i, (rS i).length = p := fun i => by rw [hrS]; exact stepS_len
  have dL : ∀ i, (dS i).length = p := fun i => by rw [hdS]; exact stepS_len
  have o0 : oS 0 = List.replicate p 0 := by rw [hoS]; exact stepS_zero
  have r0 : rS 0 = List.replicate p 0 := by rw [hrS]; exact stepS_zero
  have d0 : dS 0 = List.replicate p 0 := by rw [hdS]; exact stepS_zero
  have oX : ∀ i, (oS i).set i (w : Int) = oS (i + 1) := fun i => by rw [hoS, hoS]; exact stepS_set _ rfl
  have rX : ∀ i, (rS i).set i (r : Int) = rS (i + 1) := fun i => by rw [hrS, hrS]; exact stepS_set _ rfl
  have dX : ∀ i, (dS i).set i (i : Int) = dS (i + 1) := fun i => by rw [hdS, hdS]; exact stepS_set _ rfl
  have oA : ∀ i (h : i < (oS (i + 1)).length), (oS (i + 1))[i] = (w : Int) := fun i h => by simp only [hoS]; exact stepS_lo (by omega) (by rw [stepS_len]; rw [oL] at h; omega)
  refine lt_meas (α := Nat × List (Option ABlk)) (fun a => [(0, I total), (7, I p), (10, .slice (some ⟨nb H 1, 0, none⟩) p p), (11, .pointer (some ⟨nb H 3, 0, none⟩)), (12, .slice (some ⟨nb H 4, 0, none⟩) p p), (13, I (lf a.1)), (52, .slice (some ⟨b, 0, none⟩) p p), (53, I p), (54, I a.1)]) (fun a => ext H H.fresh a.2)
    (fun a => a.1 ≤ p ∧ a.2.length = 5 ∧ a.2[1]? = some (some (.cells ((oS a.1).map I) 1 false false)) ∧ a.2[2]? = some (some (.cells ((rS a.1).map I) 1 false false)) ∧ a.2[3]? = some (some (.cells [.slice (some ⟨nb H 2, 0, none⟩) p p] 0 false false)) ∧ a.2[4]? = some (some (.cells ((dS a.1).map I) 1 false false))) (fun a => p - a.1) (fun a ha ih => ?_)
    (0, [some (.cells [I 0, I 0] 1 false false), some (.cells ((List.replicate p 0).map I) 1 false false), some (.cells ((List.replicate p 0).map I) 1 false false), some (.cells [.slice (some ⟨nb H 2, 0, none⟩) p p] 0 false false), some (.cells ((List.replicate p 0).map I) 1 false false)]) ⟨by simp, rfl, by rw [o0]; rfl, by rw [r0]; rfl, rfl, by rw [d0]; rfl⟩ (by simp only [hl0]; repeat (first | exact sub_nil | apply sub_cons rfl)) (.refl _)
  obtain ⟨i, L⟩ := a
  obtain ⟨hi, hLl, f1, f2, f3, f4⟩ := ha
  simp only at hi hLl f1 f2 f3 f4 ih ⊢
  have ih' := fun i' L' a1 a2 a3 a4 a5 a6 a7 => ih (i', L') a1 ⟨a2, a3, a4, a5, a6, a7⟩
  simp only at ih'
  clear ih
  apply ct_seq
  apply ct_region
  apply seq_plain; exact do_binInt rfl rfl rfl trivial; exact rfl
  apply seq_nil
  apply ct_seq
  refine ct_cond rfl (fun g1 => ?_) (fun g1 => ?_)
  · simp only [decide_eq_true_eq, Int.ofNat_lt] at g1
    have ho := hO1 i (by omega)
    obtain ⟨q1, q2, q3⟩ := hls i g1
    have oAi := oA i (by rw [oL]; omega)
    have oLi := oL (i + 1)
    apply ct_skip
    apply ct_seq
    apply ct_block
    apply ct_seq
    apply ct_region
    apply seq_plain; exact do_move rfl; exact rfl
    apply seq_plain; exact do_indexAddrS rfl rfl rfl (by exact idx_nat (by omega)); exact rfl
    apply seq_plain; exact do_load rfl (by exact ext_get_old (by assumption) (by assumption)) rfl (by exact pt_map (by omega)); exact rfl
    apply seq_plain; exact do_assign rfl; exact rfl
    apply seq_plain; exact do_assign rfl; exact rfl
    apply seq_nil
    apply ct_seq
    rw [ho]
    have x3 : (L.set 1 none)[3]? = some (some (.cells [.slice (some ⟨nb H 2, 0, none⟩) p p] 0 false false)) := by rw [List.getElem?_set_ne (by omega)]; exact f3
    refine ct_drawF (k := 1) hc (by omega) (by decide +kernel) ?_
    apply sf_free (hfree := rfl) (hnl := rfl); intro _; exact do_move rfl; exact rfl
    apply sf_free (hfree := rfl) (hnl := rfl); intro _; exact do_move rfl; exact rfl
    apply sf_off (hc := by assumption) (hfree := rfl) (hLx := rfl) (hnl := rfl); exact do_load rfl (by exact ext_get_new (by assumption)) rfl (by exact rfl); exact rfl
    apply sf_free (hfree := rfl) (hnl := rfl); intro _; exact do_move rfl; exact rfl
    apply sf_free (hfree := rfl) (hnl := rfl); intro _; exact do_move rfl; exact rfl
    apply sf_free (hfree := rfl) (hnl := rfl); intro _; exact do_move rfl; exact rfl
    apply sf_free (hfree := rfl) (hnl := rfl); intro _; exact do_move rfl; exact rfl
    apply sf_free (hfree := rfl) (hnl := rfl); intro _; exact do_move rfl; exact rfl
    apply sf_free (hfree := rfl) (hnl := rfl); intro _; exact do_mul1 rfl rfl (by omega); exact rfl
    apply sf_free (hfree := rfl) (hnl := rfl); intro _; exact do_move rfl; exact rfl
    apply sf_free (hfree := rfl) (hnl := rfl); intro _; exact do_quo rfl rfl (by omega) (by omega); exact rfl
    apply sf_free (hfree := rfl) (hnl := rfl); intro _; exact do_move rfl; exact rfl
    apply sf_free (hfree := rfl) (hnl := rfl); intro _; exact do_move rfl; exact rfl
    apply sf_free (hfree := rfl) (hnl := rfl); intro _; exact do_mul1 rfl rfl (by omega); exact rfl
    apply sf_free (hfree := rfl) (hnl := rfl); intro _; exact do_move rfl; exact rfl
    apply sf_free (hfree := rfl) (hnl := rfl); intro _; exact do_remN rfl rfl (by omega); exact rfl
    apply sf_free (hfree := rfl) (hnl := rfl); intro _; exact do_move rfl; exact rfl
    apply sf_free (hfree := rfl) (hnl := rfl); intro _; exact do_indexAddrS rfl rfl rfl (by exact idx_nat (by omega)); exact rfl
    rw [← hw]
    refine sf_turn0 hc rfl (by decide +kernel) (by decide +kernel) rfl f1 (do_store rfl rfl (ext_get_new f1) rfl (stl_map (by rw [oL]; omega) rfl rfl) (nb_own _)) ?_
    rw [oX]
    obtain ⟨L1, hL1⟩ : ∃ L1, L1 = L.set 1 (some (.cells ((oS (i + 1)).map I) 1 false false)) := ⟨_, rfl⟩
    have l1 : L1.length = 5 := by rw [hL1, List.length_set]; exact hLl
    have k1 : L1[1]? = some (some (.cells ((oS (i + 1)).map I) 1 false false)) := by rw [hL1, List.getElem?_set_self (by omega)]
    have g2 := (show L1[2]? = L[2]? by rw [hL1, List.getElem?_set_ne (by omega)]).trans f2
    have g3 := (show L1[3]? = L[3]? by rw [hL1, List.getElem?_set_ne (by omega)]).trans f3
    have g4 := (show L1[4]? = L[4]? by rw [hL1, List.getElem?_set_ne (by omega)]).trans f4
    rw [← hL1]
    clear hL1 x3
    apply sf_free (hfree := rfl) (hnl := rfl); intro _; exact do_indexAddrS rfl rfl rfl (by exact idx_nat (by omega)); exact rfl
    rw [← hr]
    refine sf_ser0 (k' := 2) hc rfl (by decide +kernel) (by omega) (do_store rfl rfl (ext_get_new g2) rfl (stl_map (by rw [rL]; omega) rfl rfl) (nb_own _)) ?_
    rw [rX]
    obtain ⟨L2, hL2⟩ : ∃ L2, L2 = L1.set 2 (some (.cells ((rS (i + 1)).map I) 1 false false)) := ⟨_, rfl⟩
    have l2 : L2.length = 5 := by rw [hL2, List.length_set]; exact l1
    have k2 : L2[2]? = some (some (.cells ((rS (i + 1)).map I) 1 false false)) := by rw [hL2, List.getElem?_set_self (by omega)]
    have m1 := (show L2[1]? = L1[1]? by rw [hL2, List.getElem?_set_ne (by omega)]).trans k1
    have m3 := (show L2[3]? = L1[3]? by rw [hL2, List.getElem?_set_ne (by omega)]).trans g3
    have m4 := (show L2[4]? = L1[4]? by rw [hL2, List.getElem?_set_ne (by omega)]).trans g4
    rw [← hL2]
    clear hL2
    apply sd_plain (hfree := rfl); intro _; exact do_indexAddrS rfl rfl rfl (by exact idx_nat (by omega)); exact rfl
    refine sd_putQ (k := 4) rfl (by decide +kernel) hc (by omega) (do_store rfl rfl (ext_get_new m4) rfl (stl_map (by rw [dL]; omega) rfl rfl) (nb_own _)) (fun L3 l3 o3 k3 => ?_)
    rw [dX] at k3
    have n1 := (o3 1 (by omega)).trans m1
    have n2 := (o3 2 (by omega)).trans k2
    have n3 := (o3 3 (by omega)).trans m3
    clear o3
    apply sd_nil
    apply ct_region
    apply seq_plain; exact do_move rfl; exact rfl
    apply seq_plain; exact do_move rfl; exact rfl
    apply seq_plain; exact do_move rfl; exact rfl
    apply seq_plain; exact do_indexAddrS rfl rfl rfl (by exact idx_nat (by omega)); exact rfl
    apply seq_plain; exact do_load rfl (by exact ext_get_new (getApp (by assumption))) rfl (by exact pt_map (by omega)); exact rfl
    apply seq_plain; exact do_sub rfl rfl (by omega); exact rfl
    apply seq_plain; exact do_assign rfl; exact rfl
    apply seq_nil
    apply ct_region
    apply seq_plain; exact do_succ rfl (by omega); exact rfl
    apply seq_plain; exact do_move rfl; exact rfl
    apply seq_nil
    have q4 : ((lf (i + 1) : Nat) : Int) = (lf i : Int) - (w : Int) := by omega
    rw [oAi, ← q4]
    try simp only [List.map_nil, List.append_nil]
    exact lt_to (by repeat (first | exact sub_nil | apply sub_cons rfl)) (.refl _) (ih' (i + 1) L3 (by omega) (by omega) (by omega) n1 n2 n3 k3)
  have g1 : p = i := by simp only [decide_eq_false_iff_not] at g1; omega
  subst g1
  clear ih'
  rw [hlp]
  have dA : ∀ i (h : i < (dS p).length), (dS p)[i] = (i : Int) := fun i h => by simp only [hdS]; exact stepS_lo (by rw [dL] at h; omega) (by rw [stepS_len]; rw [dL] at h; omega)
  have rA : rS p = List.replicate p (r : Int) := by
    refine List.ext_getElem (by rw [rL]; simp) fun i h1 h2 => ?_
    rw [List.getElem_replicate]
    simp only [hrS]
    exact stepS_lo (by rw [rL] at h1; omega) (by rw [stepS_len]; rw [rL] at h1; omega)
  rw [rA] at f2
  have cS : Ret Tryz.prog 42 [.slice (some ⟨nb H 4, 0, none⟩) p p, .func (.func 43) #[] ⟨[.pointer (some ⟨nb H 3, 0, none⟩)]⟩] (ext H H.fresh L) (packA []) (ext H H.fresh L) := by
    have := sortStable0_c (c := p) (g := 43) (caps := [.pointer (some ⟨nb H 3, 0, none⟩)]) (ext_get_new (H := H) (lo := H.fresh) f4) (by rw [dL]; omega) (fun x hx y hy H' hE => by
      obtain ⟨j, hj, rfl⟩ := List.getElem_of_mem hx
      obtain ⟨k, hk, rfl⟩ := List.getElem_of_mem hy
      rw [dA, dA]
      rw [dL] at hj hk
      exact shares1_c (hE _ _ (ext_get_new f3)) (hE _ _ (ext_get_new f2)) hj hk h16 (by omega))
    rwa [dL] at this
  apply ct_exit
  apply exit_eq; exact rfl
  apply ct_seq
  apply ct_region
  apply seq_plain; exact do_move rfl; exact rfl
  apply seq_plain; exact do_makeFunc rfl rfl; exact rfl
  apply seq_call (ht := rfl); exact cS; exact rfl
  apply seq_nil
  apply ct_seq
  apply ct_seq
  apply ct_region
  apply seq_plain; exact do_move rfl; exact rfl
  apply seq_plain; exact do_move rfl; exact rfl
  apply seq_plain; exact do_sliceTo rfl rfl rfl (by intro e; cases e) (by rintro _ ⟨⟩; rfl) (by omega); exact rfl
  apply seq_plain; exact do_lenS rfl rfl rfl; exact rfl
  apply seq_plain; exact do_move rfl; exact rfl
  apply seq_nil
  apply ct_block
  apply ct_loop
  obtain ⟨oT, hoT⟩ : ∃ oT : Nat → List Int, ∀ i, oT i = stepS p i (fun _ => (w : Int) + 1) (fun _ => (w : Int)) := ⟨_, fun _ => rfl⟩
  have tL : ∀ i, (oT i).length = p := fun i => by rw [hoT]; exact stepS_len
  have t0 : oS p = oT 0 := by
    refine List.ext_getElem (by rw [oL, tL]) fun i h1 h2 => ?_
    simp only [hoS, hoT]
    rw [oL] at h1
    rw [stepS_lo h1 (by rw [stepS_len]; exact h1), stepS_hi (Nat.zero_le _) (by rw [stepS_len]; exact h1)]
  have tX : ∀ i, (oT i).set i ((w : Int) + 1) = oT (i + 1) := fun i => by rw [hoT, hoT]; exact stepS_set _ rfl
  have tA : ∀ i (h : i < (oT i).length), (oT i)[i] = (w : Int) := fun i h => by simp only [hoT]; exact stepS_hi (Nat.le_refl _) (by rw [stepS_len]; rw [tL] at h; exact h)
  have tR : oT r = sharesP total p := by
    refine List.ext_getElem (by rw [tL, sharesP_len]) fun k h1 h2 => ?_
    rw [tL] at h1
    simp only [hoT, stepS, sharesP, List.getElem_map, List.getElem_range, shareP, ← hw, ← hr]
    split <;> simp
  rw [t0] at f1
  refine lt_meas (α := Nat × List (Option ABlk)) (fun a => [(10, .slice (some ⟨nb H 1, 0, none⟩) p p), (91, .slice (some ⟨nb H 4, 0, none⟩) r p), (92, I r), (93, I a.1)]) (fun a => ext H H.fresh a.2)
    (fun a => a.1 ≤ r ∧ a.2.length = 5 ∧ a.2[1]? = some (some (.cells ((oT a.1).map I) 1 false false)) ∧ a.2[4]? = some (some (.cells ((dS p).map I) 1 false false))) (fun a => r - a.1) (fun a ha ih => ?_) (0, L) ⟨by simp, hLl, f1, f4⟩ (by repeat (first | exact sub_nil | apply sub_cons rfl)) (.refl _)
  clear f1 f2 f3 f4 hLl cS hi
  obtain ⟨i, L⟩ := a
  obtain ⟨hi, hLl, f1, f4⟩ := ha
  simp only at hi hLl f1 f4 ih ⊢
  have ih' := fun i' L' a1 a2 a3 a4 a5 => ih (i', L') a1 ⟨a2, a3, a4, a5⟩
  simp only at ih'
  clear ih
  apply ct_seq
  apply ct_region
  apply seq_plain; exact do_binInt rfl rfl rfl trivial; exact rfl
  apply seq_nil
  apply ct_seq
  refine ct_cond rfl (fun g1 => ?_) (fun g1 => ?_)
  · simp only [decide_eq_true_eq, Int.ofNat_lt] at g1
    have dAi := dA i (by rw [dL]; omega)
    have tAi := tA i (by rw [tL]; omega)
    have tLi := tL i
    have dLp := dL p
    apply ct_skip
    apply ct_seq
    apply ct_block
    apply ct_seq
    apply ct_region
    apply seq_plain; exact do_indexAddrS rfl rfl rfl (by exact idx_nat (by omega)); exact rfl
    apply seq_plain; exact do_load rfl (by exact ext_get_new (by assumption)) rfl (by exact pt_map (by omega)); exact rfl
    apply seq_plain; exact do_assign rfl; exact rfl
    apply seq_nil
    apply ct_region
    apply seq_plain; exact do_move rfl; exact rfl
    apply seq_plain; exact do_move rfl; exact rfl
    apply seq_plain; exact do_indexAddrS rfl rfl rfl (by exact idx_int (by omega)); exact rfl
    apply seq_plain; exact do_load rfl (by exact ext_get_new (by assumption)) rfl (by exact pt_map (by omega)); exact rfl
    apply seq_plain; exact do_binInt rfl rfl rfl trivial; exact rfl
    apply seq_plain; exact do_indexAddrS rfl rfl rfl (by exact idx_int (by omega)); exact rfl
    have ew : wrapI .i64 ((w : Int) + 1) = .int .i64 ((w : Int) + 1) := by rw [wrapI, wrap_i64 (by omega)]
    simp only [dAi, Int.toNat_natCast, tAi, ew]
    refine seq_putQC (k := 1) hc (by omega) (do_store rfl rfl (ext_get_new f1) rfl (stl_map (by rw [tL]; omega) rfl rfl) (nb_own _)) (fun L1 l1 o1 k1 => ?_)
    rw [tX] at k1
    have g4 := (o1 4 (by omega)).trans f4
    clear o1
    apply ct_region
    apply seq_plain; exact do_succ rfl (by omega); exact rfl
    apply seq_plain; exact do_move rfl; exact rfl
    apply seq_nil
    exact lt_to (by repeat (first | exact sub_nil | apply sub_cons rfl)) (.refl _) (ih' (i + 1) L1 (by omega) (by omega) (by omega) k1 g4)
  have g1 : r = i := by simp only [decide_eq_false_iff_not] at g1; omega
  subst g1
  rw [tR] at f1
  apply ct_exit
  apply exit_eq; exact rfl
  apply ct_seq
  apply ct_region
  apply seq_plain; exact do_move rfl; exact rfl
  apply seq_plain; exact do_assign rfl; exact rfl
  apply seq_plain; exact do_assign rfl; exact rfl
  apply seq_nil
  apply ct_ret
  exact fin_one (k := 1) hc rfl f1 (flat_ints _) (by simp [packA, renV, renL, renOf_one ⟨own_iff.1 (nb_own 1), nb_ge 1⟩]) ⟨rfl, rfl⟩
end Go.Proofs.YtfjihdlpohljbaaGreat
