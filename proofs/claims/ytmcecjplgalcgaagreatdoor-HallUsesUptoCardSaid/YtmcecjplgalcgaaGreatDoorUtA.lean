/- Plain facts for HallUses: slopes of marks that are turned or raised. -/
import Derived.Test.YtmcecjplgalcgaaGreatDoorQaA
import Derived.Test.YtmcecjplgalcgaaGreatDoorQaS
import Derived.Test.YtmcecjplgalcgaaGreatDoorQaR
import Derived.Test.YtmcecjplgalcgaaGreatDoorMaA
import Derived.Test.YtmcecjplgalcgaaGreatDoorNuA
import Derived.Test.YtmcecjplgalcgaaGreatDoorAsC
noncomputable section
namespace Go.Proofs.YtmcecjplgalcgaaGreatDoor
open Go Go.Den
def turnM (m : Mk) : Mk := ⟨-m.x, -m.y, m.h⟩
def raiseM (m : Mk) : Mk := ⟨m.x, m.y, m.h + 77⟩
theorem det_turn (a b c : Mk) : detM (turnM a) (turnM b) (turnM c) = detM a b c := by
 simp only [detM, turnM]
 rw [show -b.x - -a.x = -(b.x - a.x) by omega, show -c.y - -a.y = -(c.y - a.y) by omega, show -b.y - -a.y = -(b.y - a.y) by omega, show -c.x - -a.x = -(c.x - a.x) by omega, Int.neg_mul_neg, Int.neg_mul_neg]
theorem numX_turn (a b c : Mk) : numX (turnM a) (turnM b) (turnM c) = -numX a b c := by
 simp only [numX, turnM]
 rw [show -c.y - -a.y = -(c.y - a.y) by omega, show -b.y - -a.y = -(b.y - a.y) by omega, Int.mul_neg, Int.mul_neg]
 omega
theorem numY_turn (a b c : Mk) : numY (turnM a) (turnM b) (turnM c) = -numY a b c := by
 simp only [numY, turnM]
 rw [show -b.x - -a.x = -(b.x - a.x) by omega, show -c.x - -a.x = -(c.x - a.x) by omega, Int.mul_neg, Int.mul_neg]
 omega
theorem det_raise (a b c : Mk) : detM (raiseM a) (raiseM b) (raiseM c) = detM a b c := rfl
theorem numX_raise (a b c : Mk) : numX (raiseM a) (raiseM b) (raiseM c) = numX a b c := by
 simp only [numX, raiseM]
 rw [show b.h + 77 - (a.h + 77) = b.h - a.h by omega, show c.h + 77 - (a.h + 77) = c.h - a.h by omega]
theorem numY_raise (a b c : Mk) : numY (raiseM a) (raiseM b) (raiseM c) = numY a b c := by
 simp only [numY, raiseM]
 rw [show b.h + 77 - (a.h + 77) = b.h - a.h by omega, show c.h + 77 - (a.h + 77) = c.h - a.h by omega]
theorem slope_raise (a b c : Mk) : slopeV (raiseM a) (raiseM b) (raiseM c) = slopeV a b c := by
 unfold slopeV
 rw [det_raise, numX_raise, numY_raise]
theorem level_raise (l : List Mk) (most : Int) : levelB (l.map raiseM) most = levelB l most := by
 unfold levelB
 congr 1
 rw [List.any_map]
 congr 1
 funext x
 show (l.map raiseM).any _ = _
 rw [List.any_map]
 congr 1
 funext y
 show decide (x.h + 77 - (y.h + 77) > most) = decide (x.h - y.h > most)
 rw [show x.h + 77 - (y.h + 77) = x.h - y.h by omega]
theorem mkN_neg (n d : Int) : mkN (-n) d = -mkN n d := by
 have hg : mkG (-n) d = mkG n d := by unfold mkG; rw [Int.natAbs_neg]
 have hs : sgnN (-n) d = -sgnN n d := by unfold sgnN; split <;> omega
 unfold mkN
 rw [hg, hs]
 have hd : mkG n d ∣ sgnN n d := by
  have e : (sgnN n d).natAbs = n.natAbs := by unfold sgnN; split <;> omega
  rw [← Int.natAbs_dvd_natAbs, e]
  unfold mkG
  simp only [Int.natAbs_natCast]
  exact Nat.gcd_dvd_left _ _
 exact Int.neg_ediv_of_dvd hd
theorem mkD_neg (n d : Int) : mkD (-n) d = mkD n d := by
 unfold mkD mkG; rw [Int.natAbs_neg]
theorem sumOpp_c {H : AHeap} {n d : Int} (h1 : -1000000000000000 < n) (h2 : n < 1000000000000000) (h3 : -1000000000 < d) (h4 : d < 1000000000) (h0 : d ≠ 0) :
  Ret Tryz.prog 16 [.string (tx (ofS n d)), .string (tx (ofS (-n) d))] H (.string (tx [48])) H := by
 have ed := mkD_le (n := n) (d := d)
 have en := mkN_abs (n := n) (d := d)
 have ep := mkD_pos (n := n) h0
 have e1 : ofS n d = ratQ (decide (mkN n d < 0)) (mkN n d).natAbs (mkD n d).toNat := ratS_Q _ _
 have e2 : ofS (-n) d = ratQ (decide (-mkN n d < 0)) (mkN n d).natAbs (mkD n d).toNat := by
  have := ratS_Q (mkN (-n) d) (mkD (-n) d).toNat
  rw [mkN_neg, mkD_neg, Int.natAbs_neg] at this
  unfold ofS
  rw [mkN_neg, mkD_neg]; exact this
 rw [e1, e2]
 refine addOpp_c (fun y0 y1 a b c e => divSame2 a b c e) (by omega) (by omega) (by omega) fun hu => ?_
 have : mkN n d ≠ 0 := by omega
 by_cases h : mkN n d < 0
 ·rw [decide_eq_true h, decide_eq_false (by omega)]; rfl
 ·rw [decide_eq_false h, decide_eq_true (by omega)]; rfl
theorem goodT {m : Mk} (g : GoodM m) : GoodM (turnM m) := by
 obtain ⟨x1, x2, x3, x4, x5, x6⟩ := g
 constructor <;> simp only [turnM] <;> omega
theorem goodR {m : Mk} (g : GoodM m) (h : m.h ≤ 1000000) : GoodM (raiseM m) := by
 obtain ⟨x1, x2, x3, x4, x5, x6⟩ := g
 constructor <;> simp only [raiseM] <;> omega
end Go.Proofs.YtmcecjplgalcgaaGreatDoor
/- Contracts for HallUses: the reference's check of a mark; places are compared. -/
noncomputable section
namespace Go.Proofs.YtmcecjplgalcgaaGreatDoor
open Go Go.Den
set_option maxRecDepth 100000
def markE (m : Mk) : Int := if outL m.x (-10000) 10000 || outL m.y (-10000) 10000 || outL m.h (-999999999) 999999999 then 3 else 0
theorem markE_good {m : Mk} (h : markE m = 0) : GoodM m := by
 unfold markE at h
 split at h
 ·simp at h
 ·rename_i u
  unfold outL at u
  simp at u
  constructor <;> omega
theorem refMark_c {H : AHeap} {m : Mk} : Ret Tryz.prog 12 [.agg ⟨mk m⟩] H (I (markE m)) H := by
 refine fn_start Tryz.func12 rfl rfl rfl fun hc => ?_
 obtain ⟨A, hA⟩ : ∃ A, A = outL m.x (-10000) 10000 := ⟨_, rfl⟩
 obtain ⟨B, hB⟩ : ∃ B, B = outL m.y (-10000) 10000 := ⟨_, rfl⟩
 obtain ⟨C, hC⟩ : ∃ C, C = outL m.h (-999999999) 999999999 := ⟨_, rfl⟩
 have e : markE m = if A || B || C then 3 else 0 := by rw [hA, hB, hC]; rfl
 rw [e]
 apply ct_seq
 apply ct_region
 apply seq_newP; exact do_box rfl rfl rfl; exact rfl
 apply seq_plain; exact do_assign rfl; exact rfl
 apply seq_nil
 iterate 2 (apply ct_seq)
 apply ct_region
 iterate 2 (apply seq_plain; exact do_fieldAddr rfl rfl; exact rfl)
 apply seq_plain; exact do_load rfl (by exact ext_get_new rfl) rfl (by exact rfl); exact rfl
 apply seq_call (ht := rfl); exact outside24; exact rfl
 apply seq_plain; exact do_move rfl; exact rfl
 rw [← hA]
 cases A
 ·apply seq_guard (hd := rfl) (hl := rfl); exact do_fieldAddr rfl rfl; exact rfl
  apply seq_guard (hd := rfl) (hl := rfl); exact do_fieldAddr rfl rfl; exact rfl
  apply seq_guard (hd := rfl) (hl := rfl); exact do_load rfl (by exact ext_get_new rfl) rfl (by exact rfl); exact rfl
  apply seq_gcall (hg := rfl) (hl := rfl) (ht := rfl); exact outside24; exact rfl
  apply seq_plain; exact do_pick_f rfl rfl; exact rfl
  apply seq_plain; exact do_move rfl; exact rfl
  rw [← hB]
  cases B
  ·apply seq_guard (hd := rfl) (hl := rfl); exact do_fieldAddr rfl rfl; exact rfl
   apply seq_guard (hd := rfl) (hl := rfl); exact do_load rfl (by exact ext_get_new rfl) rfl (by exact rfl); exact rfl
   apply seq_gcall (hg := rfl) (hl := rfl) (ht := rfl); exact outside24; exact rfl
   apply seq_plain; exact do_pick_f rfl rfl; exact rfl
   apply seq_nil
   rw [← hC]
   cases C
   ·refine ct_cond_f rfl rfl ?_
    apply ct_skip
    apply ct_seq
    apply ct_region
    apply seq_plain; exact do_assign rfl; exact rfl
    apply seq_nil
    apply ct_ret
    exact fin_flat hc rfl rfl ⟨rfl, rfl⟩
   ·refine ct_cond_t rfl rfl ?_
    apply ct_seq
    apply ct_region
    apply seq_plain; exact do_assign rfl; exact rfl
    apply seq_nil
    apply ct_ret
    exact fin_flat hc rfl rfl ⟨rfl, rfl⟩
  ·apply seq_passed (hd := rfl) (hl := rfl) (hb := rfl); exact rfl
   iterate 2 (apply seq_passed (hd := rfl) (hl := rfl) (hb := rfl); exact rfl)
   apply seq_plain; exact do_pick_t rfl rfl; exact rfl
   apply seq_nil
   refine ct_cond_t rfl rfl ?_
   apply ct_seq
   apply ct_region
   apply seq_plain; exact do_assign rfl; exact rfl
   apply seq_nil
   apply ct_ret
   exact fin_flat hc rfl rfl ⟨rfl, rfl⟩
 ·apply seq_passed (hd := rfl) (hl := rfl) (hb := rfl); exact rfl
  iterate 3 (apply seq_passed (hd := rfl) (hl := rfl) (hb := rfl); exact rfl)
  apply seq_plain; exact do_pick_t rfl rfl; exact rfl
  apply seq_plain; exact do_move rfl; exact rfl
  iterate 3 (apply seq_passed (hd := rfl) (hl := rfl) (hb := rfl); exact rfl)
  apply seq_plain; exact do_pick_t rfl rfl; exact rfl
  apply seq_nil
  refine ct_cond_t rfl rfl ?_
  apply ct_seq
  apply ct_region
  apply seq_plain; exact do_assign rfl; exact rfl
  apply seq_nil
  apply ct_ret
  exact fin_flat hc rfl rfl ⟨rfl, rfl⟩
end Go.Proofs.YtmcecjplgalcgaaGreatDoor
