/- The reference's numbers: short texts are read at once. -/
import Derived.Test.YtmcecjplgalcgaaGreatDoorQaP
import Derived.Test.YtmcecjplgalcgaaGreatDoorQaB
import Derived.Test.YtmcecjplgalcgaaGreatDoorNuC
noncomputable section
namespace Go.Proofs.YtmcecjplgalcgaaGreatDoor
open Go Go.Den
set_option maxRecDepth 100000
def quickV (neg : Bool) (u d : Nat) : Value := if u < 1000000000 then .tuple ⟨[I (if neg = true then -(u : Int) else u), I d, .bool true]⟩ else .tuple ⟨[I 0, I 0, .bool false]⟩
set_option maxHeartbeats 8000000 in
theorem quick_c {H : AHeap} {neg : Bool} {u d : Nat} (hu : u < 1000000000000000000) (hd1 : 1 ≤ d) (hd : d < 1000000000) :
  Ret Tryz.prog 50 [.string (tx (ratQ neg u d))] H (quickV neg u d) H := by
 refine fn_start Tryz.func50 rfl rfl rfl fun hc => ?_
 have hlD := decDigits_len u 18 (Nat.lt_of_lt_of_le hu (by decide)) (by omega)
 have hlE := decDigits_len d 9 (by omega) (by omega)
 have hpD := decDigits_pos u
 have hpE := decDigits_pos d
 have hdD := decDigits_dig u
 have hdE := decDigits_dig d
 have hvD := decDigits_val u
 have hvE := decDigits_val d
 have h9 : ¬ u < 1000000000 → 9 < (Lib.decDigits u).length := fun h => decDigits_len9 (by omega)
 have h9' : u < 1000000000 → (Lib.decDigits u).length ≤ 9 := fun h => decDigits_len u 9 (by omega) (by omega)
 have eS := ratQ_slash false u d
 obtain ⟨s, hs⟩ : ∃ s, s = ratQ neg u d := ⟨_, rfl⟩
 obtain ⟨B, hB⟩ : ∃ B, B = ratQ false u d := ⟨_, rfl⟩
 have hsB : s = if neg = true then 45 :: B else B := by
  rw [hs, hB]; unfold ratQ ratN
  cases neg <;> simp <;> split <;> rfl
 have hBl : B.length = if d = 1 then (Lib.decDigits u).length else (Lib.decDigits u).length + 1 + (Lib.decDigits d).length := by
  rw [hB]; unfold ratQ ratN
  split
  ·simp
  ·simp; omega
 have hBt : B.take (Lib.decDigits u).length = Lib.decDigits u := by
  rw [hB]; unfold ratQ ratN
  split <;> simp
 have hBd : d ≠ 1 → B.drop ((Lib.decDigits u).length + 1) = Lib.decDigits d := fun h => by
  rw [hB, ratQ_more _ _ h, ← List.drop_drop]; simp [ratN]
 have hB0 : ∃ h : 0 < B.length, (((B[0]'h).toNat : Int) == 45) = false := by
  have h0 : 0 < B.length := by rw [hBl]; split <;> omega
  refine ⟨h0, ?_⟩
  have e : B[0]'h0 = (Lib.decDigits u)[0]'hpD := by
   have := congrArg (fun l : List UInt8 => l[0]?) hBt
   simp only [List.getElem?_take] at this
   rw [if_pos (show 0 < _ from hpD), List.getElem?_eq_getElem h0, List.getElem?_eq_getElem hpD, Option.some.injEq] at this
   exact this
  rw [e]
  have := (decDigits_zero u hpD).1
  simp; omega
 obtain ⟨hb0, eb0⟩ := hB0
 rw [← hB] at eS
 rw [show (ratN false u).length = (Lib.decDigits u).length from rfl] at eS
 obtain ⟨D, hD⟩ : ∃ D, D = Lib.decDigits u := ⟨_, rfl⟩
 obtain ⟨E, hE⟩ : ∃ E, E = Lib.decDigits d := ⟨_, rfl⟩
 rw [← hD] at hlD hpD eS hBl hBt hBd hdD hvD h9 h9'
 rw [← hE] at hlE hBl hBd hdE hvE hpE
 rw [← hs]
 have hs0 : ∃ h : 0 < s.length, (((s[0]'h).toNat : Int) == 45) = neg := by
  cases neg
  ·simp only [Bool.false_eq_true, if_false] at hsB; subst hsB; exact ⟨hb0, eb0⟩
  ·simp only [if_true] at hsB; subst hsB; exact ⟨by simp, rfl⟩
 obtain ⟨h0, e1⟩ := hs0
 have hBl40 : B.length ≤ 40 := by rw [hBl]; split <;> omega
 have hsl : s.length ≤ B.length + 1 := by
  rw [hsB]; split
  ·simp
  ·omega
 have e0 : decide ((s.length : Int) > 0) = true := decide_eq_true (by omega)
 have hsB2 : neg = true → s.drop 1 = B := fun h => by rw [hsB, if_pos h]; rfl
 have hsB3 : neg = false → s = B := fun h => by rw [hsB, if_neg (by rw [h]; simp)]
 have hBl20 : u < 1000000000 → B.length ≤ 19 := fun h => by
  have := h9' h
  rw [hBl]; split <;> omega
 clear hsB hs hB hD hE
 apply ct_seq
 apply ct_region
 iterate 3 (apply seq_plain; exact do_assign rfl; exact rfl)
 apply seq_nil
 apply ct_seq
 apply ct_region
 apply seq_plain; exact do_move rfl; exact rfl
 apply seq_plain; exact do_assign rfl; exact rfl
 apply seq_nil
 iterate 2 (apply ct_seq)
 apply ct_region
 apply seq_plain; exact do_move rfl; exact rfl
 apply seq_plain; exact do_lenB rfl rfl rfl; exact rfl
 apply seq_plain; exact do_binInt rfl rfl rfl trivial; exact rfl
 apply seq_nil
 by_cases h20 : s.length > 20
 ·have hu9 : ¬ u < 1000000000 := fun h => by have := hBl20 h; omega
  have ev : quickV neg u d = .tuple ⟨[I 0, I 0, .bool false]⟩ := if_neg hu9
  rw [ev]
  refine ct_cond_t rfl (decide_eq_true (by omega)) ?_
  apply ct_seq
  apply ct_region
  iterate 3 (apply seq_plain; exact do_assign rfl; exact rfl)
  apply seq_nil
  apply ct_ret
  exact fin_flat hc rfl rfl ⟨rfl, rfl⟩
 refine ct_cond_f rfl (decide_eq_false (by omega)) ?_
 apply ct_skip
 apply ct_seq
 apply ct_region
 apply seq_plain; exact do_move rfl; exact rfl
 apply seq_plain; exact do_lenB rfl rfl rfl; exact rfl
 apply seq_plain; exact do_binInt rfl rfl rfl trivial; exact rfl
 apply seq_plain; exact do_move rfl; exact rfl
 rw [e0]
 apply seq_guard (hd := rfl) (hl := rfl); exact do_move rfl; exact rfl
 apply seq_guard (hd := rfl) (hl := rfl); exact do_indexB rfl rfl rfl (by exact idx_nat (by omega)) (by omega); exact rfl
 apply seq_guard (hd := rfl) (hl := rfl); exact do_binInt rfl rfl rfl trivial; exact rfl
 apply seq_plain; exact do_pick_t rfl rfl; exact rfl
 apply seq_plain; exact do_assign rfl; exact rfl
 apply seq_nil
 iterate 2 (apply ct_seq)
 apply ct_region
 apply seq_plain; exact do_move rfl; exact rfl
 apply seq_nil
 rw [e1]
 skip
 refine ct_J [(5, .string (tx B)), (6, .bool neg)] (ds := []) (h := ext H H.fresh []) ?_ ?_
 ·refine ct_cond rfl (fun u1 => ?_) (fun u1 => ?_)
  ·apply ct_region
   apply seq_plain; exact do_move rfl; exact rfl
   apply seq_plain; exact do_strFrom 1 rfl rfl rfl rfl (by omega); exact rfl
   rw [hsB2 u1]
   apply seq_plain; exact do_assign rfl; exact rfl
   apply seq_nil
   exact jp_of (by repeat (first | exact sub_nil | apply sub_cons rfl))
  ·have u2 := hsB3 u1
   subst u2
   apply ct_skip
   exact jp_of (by repeat (first | exact sub_nil | apply sub_cons rfl))
 apply ct_seq
 apply ct_region
 apply seq_plain; exact do_move rfl; exact rfl
 apply seq_call (ht := rfl); exact slash_c (by omega); exact rfl
 apply seq_plain; exact do_assign rfl; exact rfl
 apply seq_nil
 iterate 2 (apply ct_seq)
 apply ct_region
 apply seq_plain; exact do_move rfl; exact rfl
 apply seq_plain; exact do_binInt rfl rfl rfl trivial; exact rfl
 apply seq_plain; exact do_move rfl; exact rfl
 rw [eS]
 skip
 by_cases hu9 : u < 1000000000
 ·have ev : quickV neg u d = .tuple ⟨[I (if neg = true then -(u : Int) else u), I d, .bool true]⟩ := if_pos hu9
  have l9 := h9' hu9
  rw [ev]
  have k1 : decide ((D.length : Int) > 9) = false := decide_eq_false (by omega)
  have k3 : B.length ≤ D.length + 10 := by rw [hBl]; split <;> omega
  have k4 : D.length ≤ B.length := by rw [hBl]; split <;> omega
  rw [k1]
  apply seq_guard (hd := rfl) (hl := rfl); exact do_move rfl; exact rfl
  apply seq_guard (hd := rfl) (hl := rfl); exact do_lenB rfl rfl rfl; exact rfl
  apply seq_guard (hd := rfl) (hl := rfl); exact do_move rfl; exact rfl
  apply seq_guard (hd := rfl) (hl := rfl); exact do_subN rfl rfl (by omega) (by omega); exact rfl
  apply seq_guard (hd := rfl) (hl := rfl); exact do_binInt rfl rfl rfl trivial; exact rfl
  apply seq_plain; exact do_pick_f rfl rfl; exact rfl
  apply seq_nil
  refine ct_cond_f rfl (decide_eq_false (by omega)) ?_
  apply ct_skip
  apply ct_seq
  apply ct_region
  iterate 2 (apply seq_plain; exact do_move rfl; exact rfl)
  apply seq_plain; exact do_strTo D.length rfl rfl rfl rfl (by omega); exact rfl
  rw [hBt]
  apply seq_call (ht := rfl); exact value_c (by omega) (by assumption); exact rfl
  iterate 2 (apply seq_plain; exact do_assign rfl; exact rfl)
  apply seq_nil
  iterate 2 (apply ct_seq)
  apply ct_region
  iterate 2 (apply seq_plain; exact do_move rfl; exact rfl)
  apply seq_plain; exact do_lenB rfl rfl rfl; exact rfl
  apply seq_plain; exact do_binInt rfl rfl rfl trivial; exact rfl
  apply seq_nil
  rw [hvD]
  by_cases hd1' : d = 1
  ·have hl : B.length = D.length := by rw [hBl, if_pos hd1']
   subst hd1'
   refine ct_cond_f rfl (decide_eq_false (by omega)) ?_
   apply ct_skip
   iterate 2 (apply ct_seq)
   apply ct_region
   apply seq_plain; exact do_move rfl; exact rfl
   apply seq_nil
   refine ct_cond rfl (fun u1 => ?_) (fun u1 => ?_)
   ·subst u1
    apply ct_region
    apply seq_plain; exact do_move rfl; exact rfl
    apply seq_plain; exact do_sub rfl rfl (by omega); exact rfl
    apply seq_plain; exact do_assign rfl; exact rfl
    apply seq_nil
    apply ct_seq
    apply ct_region
    iterate 2 (apply seq_plain; exact do_move rfl; exact rfl)
    iterate 3 (apply seq_plain; exact do_assign rfl; exact rfl)
    apply seq_nil
    apply ct_ret
    refine fin_flat hc rfl rfl ⟨?_, rfl⟩
    simp [packA]
   ·subst u1
    apply ct_skip
    apply ct_seq
    apply ct_region
    iterate 2 (apply seq_plain; exact do_move rfl; exact rfl)
    iterate 3 (apply seq_plain; exact do_assign rfl; exact rfl)
    apply seq_nil
    apply ct_ret
    refine fin_flat hc rfl rfl ⟨?_, rfl⟩
    simp [packA]
  ·have hl : B.length = D.length + 1 + E.length := by rw [hBl, if_neg hd1']
   refine ct_cond_t rfl (decide_eq_true (by omega)) ?_
   apply ct_region
   iterate 2 (apply seq_plain; exact do_move rfl; exact rfl)
   apply seq_plain; exact do_succ rfl (by omega); exact rfl
   apply seq_plain; exact do_strFrom (D.length + 1) rfl rfl rfl (by omega) (by omega); exact rfl
   rw [hBd hd1']
   apply seq_call (ht := rfl); exact value_c (by omega) (by assumption); exact rfl
   apply seq_plain; exact do_assign rfl; exact rfl
   apply seq_nil
   iterate 2 (apply ct_seq)
   apply ct_region
   apply seq_plain; exact do_move rfl; exact rfl
   apply seq_nil
   rw [hvE]
   refine ct_cond rfl (fun u1 => ?_) (fun u1 => ?_)
   ·subst u1
    apply ct_region
    apply seq_plain; exact do_move rfl; exact rfl
    apply seq_plain; exact do_sub rfl rfl (by omega); exact rfl
    apply seq_plain; exact do_assign rfl; exact rfl
    apply seq_nil
    apply ct_seq
    apply ct_region
    iterate 2 (apply seq_plain; exact do_move rfl; exact rfl)
    iterate 3 (apply seq_plain; exact do_assign rfl; exact rfl)
    apply seq_nil
    apply ct_ret
    refine fin_flat hc rfl rfl ⟨?_, rfl⟩
    simp [packA]
   ·subst u1
    apply ct_skip
    apply ct_seq
    apply ct_region
    iterate 2 (apply seq_plain; exact do_move rfl; exact rfl)
    iterate 3 (apply seq_plain; exact do_assign rfl; exact rfl)
    apply seq_nil
    apply ct_ret
    refine fin_flat hc rfl rfl ⟨?_, rfl⟩
    simp [packA]
 ·have ev : quickV neg u d = .tuple ⟨[I 0, I 0, .bool false]⟩ := if_neg hu9
  have l9 := h9 hu9
  rw [ev]
  have k1 : decide ((D.length : Int) > 9) = true := decide_eq_true (by omega)
  rw [k1]
  iterate 5 (apply seq_passed (hd := rfl) (hl := rfl) (hb := rfl); exact rfl)
  apply seq_plain; exact do_pick_t rfl rfl; exact rfl
  apply seq_nil
  refine ct_cond_t rfl rfl ?_
  apply ct_seq
  apply ct_region
  iterate 3 (apply seq_plain; exact do_assign rfl; exact rfl)
  apply seq_nil
  apply ct_ret
  exact fin_flat hc rfl rfl ⟨rfl, rfl⟩
end Go.Proofs.YtmcecjplgalcgaaGreatDoor
/- The reference's numbers: 0 divided by a number. -/
noncomputable section
namespace Go.Proofs.YtmcecjplgalcgaaGreatDoor
open Go Go.Den
set_option maxRecDepth 100000
def mDec : Memo := ⟨101, [I 0, I 1], [], .string (tx [48]), []⟩
theorem runDec : memoIs Tryz.prog (ctxOf Tryz.prog) [] [] 100000 mDec = true := by kernel_rfl
theorem decimal0_c {H : AHeap} : Ret Tryz.prog 101 [I 0, I 1] H (.string (tx [48])) H := by
 have hr := memo_one (P := Tryz.prog) blO_ok memo_nil runDec
 refine ret_emb (τ := tauS []) (v0 := mDec.v) (zs := []) hr (emb_small (bOf_ok blO_ok) gloO lies_nil) ?_ rfl rfl fun c d hd => ?_
 ·simp [mDec, renL, renV]
 ·unfold tauN
  unfold tauS at hd
  split
  ·rename_i h1; unfold tauS; exact hd
  ·rename_i h1; rw [if_neg h1] at hd; simp at hd
theorem gcd0_c {H : AHeap} {m : Int} (h1 : 0 < m) (h2 : m ≤ 9223372036854775807) : Ret Tryz.prog 100 [I 0, I m] H (I m) H := by
 refine fn_start Tryz.func100 rfl rfl rfl fun hc => ?_
 have e1 : decide (m > 0) = true := decide_eq_true h1
 have e2 : (0 : Int).tmod m = 0 := Int.zero_tmod m
 apply ct_seq
 apply ct_region
 apply seq_plain; exact do_assign rfl; exact rfl
 apply seq_nil
 apply ct_seq
 apply ct_block
 apply ct_loop
 apply lt_step
 iterate 2 (apply ct_seq)
 apply ct_region
 apply seq_plain; exact do_move rfl; exact rfl
 apply seq_plain; exact do_binInt rfl rfl rfl trivial; exact rfl
 apply seq_nil
 refine ct_cond_t rfl e1 ?_
 apply ct_skip
 apply ct_block
 apply ct_draw (by assumption); decide +kernel
 iterate 3 (apply sd_plain (hfree := rfl); intro _; exact do_move rfl; exact rfl)
 apply sd_plain (hfree := rfl); intro _; exact do_rem rfl rfl (by omega); exact rfl
 iterate 2 (apply sd_plain (hfree := rfl); intro _; exact do_assign rfl; exact rfl)
 apply sd_nil
 rw [e2]
 apply lt_step
 iterate 2 (apply ct_seq)
 apply ct_region
 apply seq_plain; exact do_move rfl; exact rfl
 apply seq_plain; exact do_binInt rfl rfl rfl trivial; exact rfl
 apply seq_nil
 refine ct_cond_f rfl rfl ?_
 apply ct_exit
 apply exit_eq; exact rfl
 apply ct_seq
 apply ct_region
 apply seq_plain; exact do_move rfl; exact rfl
 apply seq_plain; exact do_assign rfl; exact rfl
 apply seq_nil
 apply ct_ret
 exact fin_flat hc rfl rfl ⟨rfl, rfl⟩
theorem ofZ_c {H : AHeap} {m : Int} (h1 : 0 < m) (h2 : m ≤ 4000000000000000000) : Ret Tryz.prog 51 [I 0, I m] H (.string (tx [48])) H := by
 refine fn_start Tryz.func51 rfl rfl rfl fun hc => ?_
 have e1 : decide (m < -4000000000000000000) = false := decide_eq_false (by omega)
 have e2 : decide (m > 4000000000000000000) = false := decide_eq_false (by omega)
 have e3 : decide (m < 0) = false := decide_eq_false (by omega)
 have e4 : (0 : Int).tdiv m = 0 := Int.zero_tdiv m
 have e5 : m.tdiv m = 1 := Int.tdiv_self (by omega)
 have cg := fun lo L => gcd0_c (H := ext H lo L) h1 (by omega)
 have cd := fun lo L => decimal0_c (H := ext H lo L)
 apply ct_seq
 apply ct_region
 apply seq_plain; exact do_assign rfl; exact rfl
 apply seq_nil
 iterate 2 (apply ct_seq)
 apply ct_region
 apply seq_plain; exact do_move rfl; exact rfl
 apply seq_plain; exact do_binInt rfl rfl rfl trivial; exact rfl
 apply seq_plain; exact do_move rfl; exact rfl
 apply seq_guard (hd := rfl) (hl := rfl); exact do_move rfl; exact rfl
 apply seq_guard (hd := rfl) (hl := rfl); exact do_binInt rfl rfl rfl trivial; exact rfl
 apply seq_plain; exact do_pick_f rfl rfl; exact rfl
 apply seq_plain; exact do_move rfl; exact rfl
 apply seq_guard (hd := rfl) (hl := rfl); exact do_move rfl; exact rfl
 apply seq_guard (hd := rfl) (hl := rfl); exact do_binInt rfl rfl rfl trivial; exact rfl
 apply seq_plain; exact do_pick_f rfl rfl; exact rfl
 apply seq_plain; exact do_move rfl; exact rfl
 rw [e1]
 apply seq_guard (hd := rfl) (hl := rfl); exact do_move rfl; exact rfl
 apply seq_guard (hd := rfl) (hl := rfl); exact do_binInt rfl rfl rfl trivial; exact rfl
 apply seq_plain; exact do_pick_f rfl rfl; exact rfl
 apply seq_nil
 rw [e2]
 skip
 refine ct_cond_f rfl rfl ?_
 apply ct_skip
 iterate 2 (apply ct_seq)
 apply ct_region
 apply seq_plain; exact do_move rfl; exact rfl
 apply seq_plain; exact do_binInt rfl rfl rfl trivial; exact rfl
 apply seq_nil
 refine ct_cond_f rfl e3 ?_
 apply ct_skip
 apply ct_seq
 apply ct_region
 iterate 2 (apply seq_plain; exact do_move rfl; exact rfl)
 apply seq_plain; exact do_sub rfl rfl (by omega); exact rfl
 apply seq_plain; exact do_max rfl; exact rfl
 apply seq_plain; exact do_move rfl; exact rfl
 apply seq_call (ht := rfl); exact cg _ _; exact rfl
 apply seq_plain; exact do_assign rfl; exact rfl
 apply seq_nil
 apply ct_seq
 apply ct_draw (by assumption); decide +kernel
 iterate 2 (apply sd_plain (hfree := rfl); intro _; exact do_move rfl; exact rfl)
 apply sd_plain (hfree := rfl); intro _; exact do_quoI rfl rfl (by omega) (by omega) h1; exact rfl
 rw [e4]
 iterate 2 (apply sd_plain (hfree := rfl); intro _; exact do_move rfl; exact rfl)
 apply sd_plain (hfree := rfl); intro _; exact do_quoI rfl rfl (by omega) (by omega) h1; exact rfl
 rw [e5]
 iterate 2 (apply sd_plain (hfree := rfl); intro _; exact do_assign rfl; exact rfl)
 apply sd_nil
 apply ct_seq
 apply ct_region
 apply seq_plain; exact do_assign rfl; exact rfl
 apply seq_nil
 iterate 2 (apply ct_seq)
 apply ct_region
 apply seq_plain; exact do_move rfl; exact rfl
 apply seq_plain; exact do_binInt rfl rfl rfl trivial; exact rfl
 apply seq_nil
 refine ct_cond_f rfl rfl ?_
 apply ct_skip
 apply ct_seq
 apply ct_region
 iterate 3 (apply seq_plain; exact do_move rfl; exact rfl)
 apply seq_plain; exact do_sub rfl rfl (by omega); exact rfl
 apply seq_plain; exact do_max rfl; exact rfl
 apply seq_call (ht := rfl); exact cd _ _; exact rfl
 apply seq_plain; exact do_binStr rfl rfl rfl; exact rfl
 apply seq_plain; exact do_assign rfl; exact rfl
 apply seq_nil
 iterate 2 (apply ct_seq)
 apply ct_region
 apply seq_plain; exact do_move rfl; exact rfl
 apply seq_plain; exact do_binInt rfl rfl rfl trivial; exact rfl
 apply seq_nil
 refine ct_cond_f rfl rfl ?_
 apply ct_skip
 apply ct_seq
 apply ct_region
 apply seq_plain; exact do_move rfl; exact rfl
 apply seq_plain; exact do_assign rfl; exact rfl
 apply seq_nil
 apply ct_ret
 exact fin_flat hc rfl rfl ⟨rfl, rfl⟩
end Go.Proofs.YtmcecjplgalcgaaGreatDoor
