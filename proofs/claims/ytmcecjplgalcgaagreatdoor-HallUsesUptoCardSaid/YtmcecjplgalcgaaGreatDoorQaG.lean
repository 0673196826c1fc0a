/- The reference's numbers: texts are checked. -/
import Derived.Test.YtmcecjplgalcgaaGreatDoorQaP
import Derived.Test.YtmcecjplgalcgaaGreatDoorQaM
noncomputable section
namespace Go.Proofs.YtmcecjplgalcgaaGreatDoor
open Go Go.Den
set_option maxRecDepth 100000
theorem decForm_c {H : AHeap} {u : Nat} (hu : u < 1000000000000000000) : Ret Tryz.prog 147 [.string (tx (Lib.decDigits u))] H (.bool true) H := by
 refine fn_start Tryz.func147 rfl rfl rfl fun hc => ?_
 have hd := decDigits_dig u
 have hl := decDigits_len u 18 (Nat.lt_of_lt_of_le hu (by decide)) (by omega)
 have hp := decDigits_pos u
 have h10 : 1 < (Lib.decDigits u).length → 0 < u := fun h => by
  rcases Nat.eq_zero_or_pos u with e | e
  ·have := decDigits_len u 1 (by omega) (by omega); omega
  ·exact e
 have hh := fun q : 0 < u => decDigits_head u q
 obtain ⟨D, hD⟩ : ∃ D, D = Lib.decDigits u := ⟨_, rfl⟩
 rw [← hD] at hd hl hp h10 hh ⊢
 have e0 : ((D.length : Int) == 0) = false := by simp; intro e; rw [e] at hp; simp at hp
 apply ct_seq
 apply ct_region
 apply seq_plain; exact do_assign rfl; exact rfl
 apply seq_nil
 iterate 2 (apply ct_seq)
 apply ct_region
 apply seq_plain; exact do_move rfl; exact rfl
 apply seq_plain; exact do_lenB rfl rfl rfl; exact rfl
 apply seq_plain; exact do_binInt rfl rfl rfl trivial; exact rfl
 apply seq_plain; exact do_move rfl; exact rfl
 rw [e0]
 apply seq_guard (hd := rfl) (hl := rfl); exact do_move rfl; exact rfl
 apply seq_guard (hd := rfl) (hl := rfl); exact do_lenB rfl rfl rfl; exact rfl
 apply seq_guard (hd := rfl) (hl := rfl); exact do_binInt rfl rfl rfl trivial; exact rfl
 apply seq_guard (hd := rfl) (hl := rfl); exact do_move rfl; exact rfl
 refine seq_J [(0, .string (tx D)), (15, .bool false)] (ds := []) (h := ext H H.fresh []) ?_ ?_
 ·refine seq_gsplit rfl rfl (fun u1 => ?_) (fun u1 => ?_)
  ·have u1 : 1 < D.length := by have := of_decide_eq_true u1; omega
   have e2 : ((D[0]'hp).toNat : Int) ≠ 48 := by
    have := hh (h10 u1) (D[0]'hp) (by rw [List.head?_eq_getElem?, List.getElem?_eq_getElem hp])
    omega
   have e3 : (((D[0]'hp).toNat : Int) == 48) = false := by simpa using e2
   have e3 : (((D[Int.toNat 0]'hp).toNat : Int) == 48) = false := e3
   apply seq_guard (hd := rfl) (hl := rfl); exact do_move rfl; exact rfl
   apply seq_guard (hd := rfl) (hl := rfl); exact do_indexB rfl rfl rfl (by exact idx_int (by omega)) (by omega); exact rfl
   apply seq_guard (hd := rfl) (hl := rfl); exact do_binInt rfl rfl rfl trivial; exact rfl
   apply seq_guard (hd := rfl) (hl := rfl); exact do_pick_t rfl rfl; exact rfl
   apply seq_plain; exact do_pick_f rfl rfl; exact rfl
   apply seq_nil
   rw [e3]
   skip
   exact jp_of (by repeat (first | exact sub_nil | apply sub_cons rfl))
  ·apply seq_passed (hd := rfl) (hl := rfl) (hb := rfl); exact rfl
   iterate 2 (apply seq_passed (hd := rfl) (hl := rfl) (hb := rfl); exact rfl)
   apply seq_guard (hd := rfl) (hl := rfl); exact do_pick_f rfl rfl; exact rfl
   apply seq_plain; exact do_pick_f rfl rfl; exact rfl
   apply seq_nil
   exact jp_of (by repeat (first | exact sub_nil | apply sub_cons rfl))
 skip
 refine ct_cond_f rfl rfl ?_
 apply ct_skip
 apply ct_seq
 apply ct_region
 apply seq_plain; exact do_move rfl; exact rfl
 apply seq_call (ht := rfl); exact digits_c (by omega) (by assumption); exact rfl
 apply seq_plain; exact do_assign rfl; exact rfl
 apply seq_nil
 apply ct_ret
 exact fin_flat hc rfl rfl ⟨rfl, rfl⟩
theorem decDigits_eq0 {u : Nat} : decide (Lib.decDigits u = [48]) = decide (u = 0) := by
 rw [Bool.eq_iff_iff, decide_eq_true_iff, decide_eq_true_iff]
 constructor
 ·intro h
  have := decDigits_val u
  rw [h] at this
  have e : valB [48] = 0 := by decide
  omega
 ·intro h; subst h; decide +kernel
theorem decDigits_eq1 {u : Nat} : decide (Lib.decDigits u = [49]) = decide (u = 1) := by
 rw [Bool.eq_iff_iff, decide_eq_true_iff, decide_eq_true_iff]
 constructor
 ·intro h
  have := decDigits_val u
  rw [h] at this
  have e : valB [49] = 1 := by decide
  omega
 ·intro h; subst h; decide +kernel
theorem wL_dig {u : Nat} (h : u < 1000000000000000000) : DigL (wL u) := by
 unfold wL
 split
 ·exact ⟨fun x hx => by rw [List.mem_singleton] at hx; omega⟩
 ·exact ⟨fun x hx => by
   simp only [List.mem_cons, List.not_mem_nil, or_false] at hx
   rcases hx with rfl | rfl <;> omega⟩
theorem wL_val (u : Nat) : valW (wL u) = (u : Int) := by
 unfold wL
 split
 ·simp [valW]
 ·simp only [valW]; omega
theorem wL_ne (u : Nat) : wL u ≠ [] := by unfold wL; split <;> simp
theorem wL_len (u : Nat) : (wL u).length ≤ 2 := by unfold wL; split <;> simp
set_option maxHeartbeats 8000000 in
theorem checkQ_c {H : AHeap} {neg : Bool} {u d : Nat} (hu : u < 1000000000000000000) (hd1 : 1 ≤ d) (hd : d < 1000000000) (hg : Nat.gcd u d = 1) (hn : neg = true → u ≠ 0) :
  Ret Tryz.prog 96 [.string (tx (ratQ neg u d))] H (I 0) H := by
 refine fn_start Tryz.func96 rfl rfl rfl fun hc => ?_
 have hlD := decDigits_len u 18 (Nat.lt_of_lt_of_le hu (by decide)) (by omega)
 have hlE := decDigits_len d 18 (Nat.lt_trans hd (by decide)) (by omega)
 have hpD := decDigits_pos u
 have cf := fun lo L => decForm_c (H := ext H lo L) hu
 have cfd := fun lo L => decForm_c (H := ext H lo L) (u := d) (by omega)
 have q0 := @decDigits_eq0 u
 have q0d := @decDigits_eq0 d
 have q1d := @decDigits_eq1 d
 have eS := ratQ_slash false u d
 have cpq := fun lo L => partsQ_c (H := ext H lo L) (neg := false) hu (show d < 1000000000000000000 by omega) hd1
 simp only [ext_fresh, ext_add] at cpq
 obtain ⟨s, hs⟩ : ∃ s, s = ratQ neg u d := ⟨_, rfl⟩
 obtain ⟨B, hB⟩ : ∃ B, B = ratQ false u d := ⟨_, rfl⟩
 have hsB : s = if neg = true then 45 :: B else B := by
  rw [hs, hB]; unfold ratQ ratN
  cases neg <;> simp <;> split <;> rfl
 have hBl : B.length = if d = 1 then (Lib.decDigits u).length else (Lib.decDigits u).length + 1 + (Lib.decDigits d).length := by
  rw [hB]; unfold ratQ ratN
  split
  ·simp
  ·simp; omega
 have hBt : B.take (Lib.decDigits u).length = Lib.decDigits u := by
  rw [hB]; unfold ratQ ratN
  split <;> simp
 have hBd : d ≠ 1 → B.drop ((Lib.decDigits u).length + 1) = Lib.decDigits d := fun h => by
  rw [hB, ratQ_more _ _ h, ← List.drop_drop]; simp [ratN]
 have hB0 : ∃ h : 0 < B.length, (((B[0]'h).toNat : Int) == 45) = false := by
  have h0 : 0 < B.length := by rw [hBl]; split <;> omega
  refine ⟨h0, ?_⟩
  have e : B[0]'h0 = (Lib.decDigits u)[0]'hpD := by
   have := congrArg (fun l : List UInt8 => l[0]?) hBt
   simp only [List.getElem?_take] at this
   rw [if_pos (show 0 < _ from hpD), List.getElem?_eq_getElem h0, List.getElem?_eq_getElem hpD, Option.some.injEq] at this
   exact this
  rw [e]
  have := (decDigits_zero u hpD).1
  simp; omega
 obtain ⟨hb0, eb0⟩ := hB0
 rw [← hB] at eS cpq
 rw [show (ratN false u).length = (Lib.decDigits u).length from rfl] at eS
 obtain ⟨D, hD⟩ : ∃ D, D = Lib.decDigits u := ⟨_, rfl⟩
 obtain ⟨E, hE⟩ : ∃ E, E = Lib.decDigits d := ⟨_, rfl⟩
 rw [← hD] at hlD hpD q0 eS hBl hBt hBd
 rw [← hE] at hlE q0d q1d hBl hBd
 rw [← hD] at cf
 rw [← hE] at cfd
 rw [← hs]
 have hs0 : ∃ h : 0 < s.length, (((s[0]'h).toNat : Int) == 45) = neg := by
  cases neg
  ·simp only [Bool.false_eq_true, if_false] at hsB; subst hsB; exact ⟨hb0, eb0⟩
  ·simp only [if_true] at hsB; subst hsB; exact ⟨by simp, rfl⟩
 obtain ⟨h0, e1⟩ := hs0
 have hBl40 : B.length ≤ 40 := by rw [hBl]; split <;> omega
 have hsl : s.length ≤ 41 := by
  rw [hsB]; split
  ·simp; omega
  ·omega
 have e0 : decide ((s.length : Int) > 0) = true := decide_eq_true (by omega)
 have hsB2 : neg = true → s.drop 1 = B := fun h => by rw [hsB, if_pos h]; rfl
 have hsB3 : neg = false → s = B := fun h => by rw [hsB, if_neg (by rw [h]; simp)]
 have hE1 : E.length = (Lib.decDigits d).length := by rw [hE]
 clear hsB hs hB hD hE
 apply ct_seq
 apply ct_region
 apply seq_plain; exact do_assign rfl; exact rfl
 apply seq_nil
 apply ct_seq
 apply ct_region
 apply seq_plain; exact do_move rfl; exact rfl
 apply seq_plain; exact do_assign rfl; exact rfl
 apply seq_nil
 iterate 2 (apply ct_seq)
 apply ct_region
 apply seq_plain; exact do_move rfl; exact rfl
 apply seq_plain; exact do_lenB rfl rfl rfl; exact rfl
 apply seq_plain; exact do_binInt rfl rfl rfl trivial; exact rfl
 apply seq_plain; exact do_move rfl; exact rfl
 rw [e0]
 apply seq_guard (hd := rfl) (hl := rfl); exact do_move rfl; exact rfl
 apply seq_guard (hd := rfl) (hl := rfl); exact do_indexB rfl rfl rfl (by exact idx_nat (by omega)) (by omega); exact rfl
 apply seq_guard (hd := rfl) (hl := rfl); exact do_binInt rfl rfl rfl trivial; exact rfl
 apply seq_plain; exact do_pick_t rfl rfl; exact rfl
 apply seq_nil
 rw [e1]
 skip
 refine ct_J [(0, .string (tx s)), (3, .string (tx B))] (ds := []) (h := ext H H.fresh []) ?_ ?_
 ·refine ct_cond rfl (fun u1 => ?_) (fun u1 => ?_)
  ·apply ct_region
   apply seq_plain; exact do_move rfl; exact rfl
   apply seq_plain; exact do_strFrom 1 rfl rfl rfl rfl (by omega); exact rfl
   rw [hsB2 u1]
   apply seq_plain; exact do_assign rfl; exact rfl
   apply seq_nil
   exact jp_of (by repeat (first | exact sub_nil | apply sub_cons rfl))
  ·have u2 := hsB3 u1
   subst u2
   apply ct_skip
   exact jp_of (by repeat (first | exact sub_nil | apply sub_cons rfl))
 apply ct_seq
 apply ct_region
 apply seq_plain; exact do_move rfl; exact rfl
 apply seq_call (ht := rfl); exact slash_c (by omega); exact rfl
 apply seq_plain; exact do_assign rfl; exact rfl
 apply seq_nil
 iterate 2 (apply ct_seq)
 apply ct_region
 iterate 2 (apply seq_plain; exact do_move rfl; exact rfl)
 rw [eS]
 skip
 apply seq_plain; exact do_strTo D.length rfl rfl rfl rfl (by rw [hBl]; split <;> omega); exact rfl
 rw [hBt]
 skip
 apply seq_call (ht := rfl); exact cf _ _; exact rfl
 apply seq_plain; exact do_unOp rfl rfl; exact rfl
 apply seq_plain; exact do_move rfl; exact rfl
 apply seq_guard (hd := rfl) (hl := rfl); exact do_move rfl; exact rfl
 apply seq_guard (hd := rfl) (hl := rfl); exact do_indexB rfl rfl rfl (by exact idx_nat (by omega)) (by omega); exact rfl
 apply seq_guard (hd := rfl) (hl := rfl); exact do_binInt rfl rfl rfl trivial; exact rfl
 apply seq_guard (hd := rfl) (hl := rfl); exact do_move rfl; exact rfl
 rw [e1]
 refine seq_J [(3, .string (tx B)), (4, I D.length), (36, .bool false)] (ds := []) (h := ext H H.fresh []) ?_ ?_
 ·cases neg
  ·apply seq_passed (hd := rfl) (hl := rfl) (hb := rfl); exact rfl
   iterate 3 (apply seq_passed (hd := rfl) (hl := rfl) (hb := rfl); exact rfl)
   apply seq_guard (hd := rfl) (hl := rfl); exact do_pick_f rfl rfl; exact rfl
   apply seq_plain; exact do_pick_f rfl rfl; exact rfl
   apply seq_nil
   exact jp_of (by repeat (first | exact sub_nil | apply sub_cons rfl))
  ·have hu0 : decide (u = 0) = false := decide_eq_false (hn rfl)
   iterate 2 (apply seq_guard (hd := rfl) (hl := rfl); exact do_move rfl; exact rfl)
   apply seq_guard (hd := rfl) (hl := rfl); exact do_strTo D.length rfl rfl rfl rfl (by rw [hBl]; split <;> omega); exact rfl
   rw [hBt]
   apply seq_guard (hd := rfl) (hl := rfl); exact do_strEq rfl rfl; exact rfl
   apply seq_guard (hd := rfl) (hl := rfl); exact do_pick_t rfl rfl; exact rfl
   apply seq_plain; exact do_pick_f rfl rfl; exact rfl
   apply seq_nil
   rw [q0, hu0]
   exact jp_of (by repeat (first | exact sub_nil | apply sub_cons rfl))
 refine ct_cond_f rfl rfl ?_
 have n1 : decide ((D.length : Int) > 600) = false := decide_eq_false (by omega)
 have n2 : decide ((B.length : Int) - (D.length : Int) - 1 > 600) = false := decide_eq_false (by omega)
 by_cases h1 : d = 1
 ·have hl : B.length = D.length := by rw [hBl, if_pos h1]
  have k1 : decide ((D.length : Int) < (B.length : Int)) = false := decide_eq_false (by omega)
  apply ct_skip
  iterate 2 (apply ct_seq)
  apply ct_region
  iterate 2 (apply seq_plain; exact do_move rfl; exact rfl)
  apply seq_plain; exact do_lenB rfl rfl rfl; exact rfl
  apply seq_plain; exact do_binInt rfl rfl rfl trivial; exact rfl
  apply seq_plain; exact do_move rfl; exact rfl
  rw [k1]
  iterate 7 (apply seq_passed (hd := rfl) (hl := rfl) (hb := rfl); exact rfl)
  iterate 5 (apply seq_passedU (hd := rfl) (hl := rfl); exact rfl)
  iterate 2 (apply seq_passed (hd := rfl) (hl := rfl) (hb := rfl); exact rfl)
  iterate 5 (apply seq_passedU (hd := rfl) (hl := rfl); exact rfl)
  apply seq_passed (hd := rfl) (hl := rfl) (hb := rfl); exact rfl
  apply seq_plain; exact do_pick_f rfl rfl; exact rfl
  apply seq_nil
  refine ct_cond_f rfl rfl ?_
  apply ct_skip
  iterate 2 (apply ct_seq)
  apply ct_region
  apply seq_plain; exact do_move rfl; exact rfl
  apply seq_plain; exact do_binInt rfl rfl rfl trivial; exact rfl
  apply seq_plain; exact do_move rfl; exact rfl
  rw [n1]
  apply seq_guard (hd := rfl) (hl := rfl); exact do_move rfl; exact rfl
  apply seq_guard (hd := rfl) (hl := rfl); exact do_lenB rfl rfl rfl; exact rfl
  apply seq_guard (hd := rfl) (hl := rfl); exact do_move rfl; exact rfl
  apply seq_guard (hd := rfl) (hl := rfl); exact do_subN rfl rfl (by omega) (by omega); exact rfl
  apply seq_guard (hd := rfl) (hl := rfl); exact do_sub rfl rfl (by omega); exact rfl
  apply seq_guard (hd := rfl) (hl := rfl); exact do_binInt rfl rfl rfl trivial; exact rfl
  apply seq_plain; exact do_pick_f rfl rfl; exact rfl
  apply seq_nil
  refine ct_cond_f rfl (decide_eq_false (by omega)) ?_
  apply ct_skip
  iterate 2 (apply ct_seq)
  apply ct_region
  iterate 2 (apply seq_plain; exact do_move rfl; exact rfl)
  apply seq_plain; exact do_lenB rfl rfl rfl; exact rfl
  apply seq_plain; exact do_binInt rfl rfl rfl trivial; exact rfl
  apply seq_nil
  refine ct_cond_f rfl k1 ?_
  apply ct_skip
  apply ct_seq
  apply ct_region
  apply seq_plain; exact do_assign rfl; exact rfl
  apply seq_nil
  apply ct_ret
  exact fin_flat hc rfl rfl ⟨rfl, rfl⟩
 ·have hl : B.length = D.length + 1 + E.length := by rw [hBl, if_neg h1]
  have hlE1 : 1 ≤ E.length := by rw [hE1]; exact decDigits_pos d
  have k1 : decide ((D.length : Int) < (B.length : Int)) = true := decide_eq_true (by omega)
  have d0 : decide (d = 0) = false := decide_eq_false (by omega)
  have d1 : decide (d = 1) = false := decide_eq_false h1
  apply ct_skip
  iterate 2 (apply ct_seq)
  apply ct_region
  iterate 2 (apply seq_plain; exact do_move rfl; exact rfl)
  apply seq_plain; exact do_lenB rfl rfl rfl; exact rfl
  apply seq_plain; exact do_binInt rfl rfl rfl trivial; exact rfl
  apply seq_plain; exact do_move rfl; exact rfl
  rw [k1]
  iterate 2 (apply seq_guard (hd := rfl) (hl := rfl); exact do_move rfl; exact rfl)
  apply seq_guard (hd := rfl) (hl := rfl); exact do_succ rfl (by omega); exact rfl
  apply seq_guard (hd := rfl) (hl := rfl); exact do_strFrom (D.length + 1) rfl rfl rfl (by omega) (by omega); exact rfl
  rw [hBd h1]
  skip
  apply seq_gcall (hg := rfl) (hl := rfl) (ht := rfl); exact cfd _ _; exact rfl
  apply seq_guard (hd := rfl) (hl := rfl); exact do_unOp rfl rfl; exact rfl
  iterate 3 (apply seq_guard (hd := rfl) (hl := rfl); exact do_move rfl; exact rfl)
  apply seq_guard (hd := rfl) (hl := rfl); exact do_succ rfl (by omega); exact rfl
  apply seq_guard (hd := rfl) (hl := rfl); exact do_strFrom (D.length + 1) rfl rfl rfl (by omega) (by omega); exact rfl
  rw [hBd h1]
  apply seq_guard (hd := rfl) (hl := rfl); exact do_strEq rfl rfl; exact rfl
  apply seq_guard (hd := rfl) (hl := rfl); exact do_pick_f rfl rfl; exact rfl
  apply seq_guard (hd := rfl) (hl := rfl); exact do_move rfl; exact rfl
  rw [q0d, d0]
  iterate 2 (apply seq_guard (hd := rfl) (hl := rfl); exact do_move rfl; exact rfl)
  apply seq_guard (hd := rfl) (hl := rfl); exact do_succ rfl (by omega); exact rfl
  apply seq_guard (hd := rfl) (hl := rfl); exact do_strFrom (D.length + 1) rfl rfl rfl (by omega) (by omega); exact rfl
  rw [hBd h1]
  apply seq_guard (hd := rfl) (hl := rfl); exact do_strEq rfl rfl; exact rfl
  apply seq_guard (hd := rfl) (hl := rfl); exact do_pick_f rfl rfl; exact rfl
  apply seq_plain; exact do_pick_t rfl rfl; exact rfl
  apply seq_nil
  rw [q1d, d1]
  refine ct_cond_f rfl rfl ?_
  apply ct_skip
  iterate 2 (apply ct_seq)
  apply ct_region
  apply seq_plain; exact do_move rfl; exact rfl
  apply seq_plain; exact do_binInt rfl rfl rfl trivial; exact rfl
  apply seq_plain; exact do_move rfl; exact rfl
  rw [n1]
  apply seq_guard (hd := rfl) (hl := rfl); exact do_move rfl; exact rfl
  apply seq_guard (hd := rfl) (hl := rfl); exact do_lenB rfl rfl rfl; exact rfl
  apply seq_guard (hd := rfl) (hl := rfl); exact do_move rfl; exact rfl
  apply seq_guard (hd := rfl) (hl := rfl); exact do_subN rfl rfl (by omega) (by omega); exact rfl
  apply seq_guard (hd := rfl) (hl := rfl); exact do_predN rfl rfl (by omega) (by omega); exact rfl
  apply seq_guard (hd := rfl) (hl := rfl); exact do_binInt rfl rfl rfl trivial; exact rfl
  apply seq_plain; exact do_pick_f rfl rfl; exact rfl
  apply seq_nil
  refine ct_cond_f rfl (decide_eq_false (by omega)) ?_
  apply ct_skip
  iterate 2 (apply ct_seq)
  apply ct_region
  iterate 2 (apply seq_plain; exact do_move rfl; exact rfl)
  apply seq_plain; exact do_lenB rfl rfl rfl; exact rfl
  apply seq_plain; exact do_binInt rfl rfl rfl trivial; exact rfl
  apply seq_nil
  refine ct_cond_t rfl k1 ?_
  apply ct_seq
  apply ct_region
  apply seq_plain; exact do_move rfl; exact rfl
  apply seq_call (ht := rfl); exact cpq _ _; exact rfl
  apply seq_plain; exact do_move rfl; exact rfl
  iterate 2 (apply seq_plain; exact do_extract rfl rfl; exact rfl)
  iterate 2 (apply seq_newP; exact do_alloc rfl rfl; exact rfl)
  apply seq_put (hc := by assumption); rotate_left; exact do_store rfl rfl (by exact ext_get_new rfl) rfl rfl (nb_own _); rotate_left; exact Nat.le_of_ble_eq_true rfl
  apply seq_putC (hc := by assumption); rotate_left; exact do_store rfl rfl (by exact ext_get_new rfl) rfl rfl (nb_own _); rotate_left; exact Nat.le_of_ble_eq_true rfl
  apply ct_seq
  apply ct_region
  apply seq_plain; exact do_fieldAddr rfl rfl; exact rfl
  apply seq_plain; exact do_load rfl (by exact ext_get_new rfl) rfl (by exact rfl); exact rfl
  apply seq_plain; exact do_fieldAddr rfl rfl; exact rfl
  apply seq_plain; exact do_load rfl (by exact ext_get_new rfl) rfl (by exact rfl); exact rfl
  have hu1 : u ≠ 0 := by
   intro e
   rw [e, Nat.gcd_zero_left] at hg
   exact h1 hg
  have ewu : wN u = (wL u).length := if_neg hu1
  have ewd : wN d = 1 := by
   unfold wN
   rw [if_neg (by omega), wL_small (by omega)]; rfl
  have hwd : wB d = .cells ([(d : Int)].map I) 1 true false := by
   show ABlk.cells ((wL d).map I) 1 true false = _
   rw [wL_small (by omega)]
  have cc := fun (L : List (Option ABlk)) (x0 : L[0]? = some (some (wB u))) (x1 : L[1]? = some (some (wB d))) => common_c (H := ext H H.fresh L) (p := some ⟨nb H 0, 0, none⟩) (q := some ⟨nb H 1, 0, none⟩) (c := (wL u).length) (e := (wL d).length) (a := wL u) (d := (d : Int)) (slAt_map (g := I) (ext_get_new x0)) (OldS.new (List.getElem?_eq_some_iff.1 x0).1) (wL_dig hu) (wL_ne u) (by have := wL_len u; omega) (fun x hx => by
   have := wL_val u
   rw [hx] at this
   simp only [valW] at this
   omega) (slAt_map (g := I) (l := [(d : Int)]) (ext_get_new (by rw [x1, hwd]))) (OldS.new (List.getElem?_eq_some_iff.1 x1).1) (by omega) (by omega)
  rw [wL_val, Int.toNat_natCast, Int.toNat_natCast, hg] at cc
  rw [ewu, ewd]
  refine seq_callQ rfl (cc _ rfl rfl) rfl (fun v h' hR => ?_)
  rcases hR with ⟨rfl, q, c', rfl, hs⟩ | ⟨rfl, c', rfl⟩
  ·obtain ⟨b2, o2, cs2, z2, s2, ro2, rfl, hg2, hw2⟩ := hs.out (by simp)
   have hV : pt false 1 cs2 (o2 + 0 * 1) = some (I 1) := pt_sl0 (n := 1) (g := I) (i := 0) hw2 (by simp)
   apply seq_plain; exact do_assign rfl; exact rfl
   apply seq_nil
   apply ct_seq
   apply ct_region
   apply seq_plain; exact do_move rfl; exact rfl
   apply seq_plain; exact do_lenS rfl rfl rfl; exact rfl
   apply seq_plain; exact do_binInt rfl rfl rfl trivial; exact rfl
   apply seq_plain; exact do_move rfl; exact rfl
   apply seq_guard (hd := rfl) (hl := rfl); exact do_move rfl; exact rfl
   apply seq_guard (hd := rfl) (hl := rfl); exact do_indexAddrS rfl rfl rfl (by exact rfl); exact rfl
   apply seq_guard (hd := rfl) (hl := rfl); exact do_load rfl (by assumption) rfl (by exact (by assumption)); exact rfl
   apply seq_guard (hd := rfl) (hl := rfl); exact do_binInt rfl rfl rfl trivial; exact rfl
   apply seq_plain; exact do_pick_f rfl rfl; exact rfl
   apply seq_nil
   refine ct_cond_f rfl rfl ?_
   apply ct_skip
   apply ct_seq
   apply ct_region
   apply seq_plain; exact do_assign rfl; exact rfl
   apply seq_nil
   apply ct_ret
   exact fin_flat hc rfl rfl ⟨rfl, rfl⟩
  ·rw [ext_add, ext_fresh]
   apply seq_plain; exact do_assign rfl; exact rfl
   apply seq_nil
   apply ct_seq
   apply ct_region
   apply seq_plain; exact do_move rfl; exact rfl
   apply seq_plain; exact do_lenS rfl rfl rfl; exact rfl
   apply seq_plain; exact do_binInt rfl rfl rfl trivial; exact rfl
   apply seq_plain; exact do_move rfl; exact rfl
   apply seq_guard (hd := rfl) (hl := rfl); exact do_move rfl; exact rfl
   apply seq_guard (hd := rfl) (hl := rfl); exact do_indexAddrS rfl rfl rfl (by exact rfl); exact rfl
   apply seq_guard (hd := rfl) (hl := rfl); exact do_load rfl (by exact ext_get_new rfl) rfl (by exact rfl); exact rfl
   apply seq_guard (hd := rfl) (hl := rfl); exact do_binInt rfl rfl rfl trivial; exact rfl
   apply seq_plain; exact do_pick_f rfl rfl; exact rfl
   apply seq_nil
   refine ct_cond_f rfl rfl ?_
   apply ct_skip
   apply ct_seq
   apply ct_region
   apply seq_plain; exact do_assign rfl; exact rfl
   apply seq_nil
   apply ct_ret
   exact fin_flat hc rfl rfl ⟨rfl, rfl⟩
end Go.Proofs.YtmcecjplgalcgaaGreatDoor
