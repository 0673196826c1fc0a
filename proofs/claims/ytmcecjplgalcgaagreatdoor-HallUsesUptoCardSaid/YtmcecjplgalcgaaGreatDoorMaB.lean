/- Contracts: the slope of three measured points. -/
import Derived.Test.YtmcecjplgalcgaaGreatDoorMaA
import Derived.Test.YtmcecjplgalcgaaGreatDoorStE
noncomputable section
namespace Go.Den
section
variable {P : Program} [PC P] {l : EL} {H : AHeap} {lo : Nat} {L : List (Option ABlk)} {rs : Array ResultVar} {Q : Value → AHeap → Prop}
theorem res_cellT {a t b off n z c : Nat} {ag s ro : Bool} {cs : List Value} {v w : Value} (hr : rs.toList = [.cell a t, .tmp c]) (ha : lk l a = some (.pointer (some ⟨b, off, none⟩))) (hb : (ext H lo L).get b = some (.cells cs z s ro)) (ht : szOf P t = some (n, ag)) (hp : pt ag n cs off = some v) (hw : lk l c = some w) :
  resultsA (ctxOf P) (ofA l) (ext H lo L) rs.toList = some [v, w] := by
 simp only [hr, resultsA, evalA, ofA_get, ha, load_cellC hb ht hp, hw]
omit [PC P] in
theorem fin_flatR {vs : List Value} (hc : Closed H) (hr : resultsA (ctxOf P) (ofA l) (ext H lo L) rs.toList = some vs) (hv : flatD 8 (packA vs) = true) (hq : Q (packA vs) H) : Fin P rs H Q ⟨ofA l, [], ext H lo L⟩ :=
 ⟨⟨_, vs, packA vs, H, rfl, hr, tidy_flat hc (fun _ _ h => ext_get_old hc h) hv, hq⟩⟩
end
end Go.Den
namespace Go.Proofs.YtmcecjplgalcgaaGreatDoor
open Go Go.Den
set_option maxRecDepth 100000
abbrev m9 (a b c : Mk) : List Value := [I a.x, I a.y, I a.h, I b.x, I b.y, I b.h, I c.x, I c.y, I c.h]
theorem eqPt (a b c d : Int) : eqA Tryz.prog (ctxOf Tryz.prog) 28 (.agg ⟨[I a, I b]⟩) (.agg ⟨[I c, I d]⟩) = some (decide ([a, b] = [c, d])) :=
 eqA_ints (n := 2) (xs := [a, b]) (ys := [c, d]) (by decide +kernel) (by decide +kernel) (by decide +kernel) rfl rfl
def detM (a b c : Mk) : Int := (b.x - a.x) * (c.y - a.y) - (b.y - a.y) * (c.x - a.x)
def numX (a b c : Mk) : Int := (b.h - a.h) * (c.y - a.y) - (c.h - a.h) * (b.y - a.y)
def numY (a b c : Mk) : Int := (c.h - a.h) * (b.x - a.x) - (b.h - a.h) * (c.x - a.x)
abbrev plV (x y : List UInt8) : Value := .agg ⟨[.string (tx x), .string (tx y)]⟩
def slopeV (a b c : Mk) : Value := if detM a b c = 0 then .tuple ⟨[plV [] [], I 14]⟩ else .tuple ⟨[plV (ofS (numX a b c) (detM a b c)) (ofS (numY a b c) (detM a b c)), I 0]⟩
theorem mulBd {a b p q : Int} (h1 : -p ≤ a) (h2 : a ≤ p) (h3 : -q ≤ b) (h4 : b ≤ q) : -(p * q) ≤ a * b ∧ a * b ≤ p * q := by
 have hp : 0 ≤ p := by omega
 have hq : 0 ≤ q := by omega
 have h : (a * b).natAbs ≤ p.natAbs * q.natAbs := by
  rw [Int.natAbs_mul]; exact Nat.mul_le_mul (by omega) (by omega)
 have e : ((p.natAbs * q.natAbs : Nat) : Int) = p * q := by
  rw [Int.natCast_mul]; congr 1 <;> omega
 omega
structure DifB (a b c : Mk) : Prop where
 p1 : -400000000 ≤ (b.x - a.x) * (c.y - a.y) ∧ (b.x - a.x) * (c.y - a.y) ≤ 400000000
 p2 : -400000000 ≤ (b.y - a.y) * (c.x - a.x) ∧ (b.y - a.y) * (c.x - a.x) ≤ 400000000
 p3 : -39999999960000 ≤ (b.h - a.h) * (c.y - a.y) ∧ (b.h - a.h) * (c.y - a.y) ≤ 39999999960000
 p4 : -39999999960000 ≤ (c.h - a.h) * (b.y - a.y) ∧ (c.h - a.h) * (b.y - a.y) ≤ 39999999960000
 p5 : -39999999960000 ≤ (c.h - a.h) * (b.x - a.x) ∧ (c.h - a.h) * (b.x - a.x) ≤ 39999999960000
 p6 : -39999999960000 ≤ (b.h - a.h) * (c.x - a.x) ∧ (b.h - a.h) * (c.x - a.x) ≤ 39999999960000
theorem difB {a b c : Mk} (ga : GoodM a) (gb : GoodM b) (gc : GoodM c) : DifB a b c := by
 obtain ⟨x1, x2, x3, x4, x5, x6⟩ := ga
 obtain ⟨y1, y2, y3, y4, y5, y6⟩ := gb
 obtain ⟨z1, z2, z3, z4, z5, z6⟩ := gc
 refine ⟨mulBd (p := 20000) (q := 20000) ?_ ?_ ?_ ?_, mulBd (p := 20000) (q := 20000) ?_ ?_ ?_ ?_, mulBd (p := 1999999998) (q := 20000) ?_ ?_ ?_ ?_, mulBd (p := 1999999998) (q := 20000) ?_ ?_ ?_ ?_, mulBd (p := 1999999998) (q := 20000) ?_ ?_ ?_ ?_, mulBd (p := 1999999998) (q := 20000) ?_ ?_ ?_ ?_⟩ <;> omega
theorem same_det {a b c : Mk} (h : (decide ([a.x, a.y] = [b.x, b.y]) || decide ([b.x, b.y] = [c.x, c.y]) || decide ([c.x, c.y] = [a.x, a.y])) = true) : detM a b c = 0 := by
 simp only [Bool.or_eq_true, decide_eq_true_eq, List.cons.injEq, and_true] at h
 unfold detM
 rcases h with (⟨h1, h2⟩ | ⟨h1, h2⟩) | ⟨h1, h2⟩
 ·rw [h1, h2]; simp
 ·rw [h1, h2, Int.mul_comm]; omega
 ·rw [h1, h2]; simp
set_option maxHeartbeats 4000000 in
theorem slope_c {H : AHeap} {a b c : Mk} (hG : Glo B0 H) (ga : GoodM a) (gb : GoodM b) (gc : GoodM c) : Ret Tryz.prog 13 [.agg ⟨m9 a b c⟩] H (slopeV a b c) H := by
 refine fn_start Tryz.func13 rfl rfl rfl fun hc => ?_
 have db := difB ga gb gc
 have q1 : -9223372036854775808 ≤ (b.x - a.x) * (c.y - a.y) ∧ (b.x - a.x) * (c.y - a.y) ≤ 9223372036854775807 := by have := db.p1; omega
 have q2 : -9223372036854775808 ≤ (b.y - a.y) * (c.x - a.x) ∧ (b.y - a.y) * (c.x - a.x) ≤ 9223372036854775807 := by have := db.p2; omega
 have q3 : -9223372036854775808 ≤ (b.h - a.h) * (c.y - a.y) ∧ (b.h - a.h) * (c.y - a.y) ≤ 9223372036854775807 := by have := db.p3; omega
 have q4 : -9223372036854775808 ≤ (c.h - a.h) * (b.y - a.y) ∧ (c.h - a.h) * (b.y - a.y) ≤ 9223372036854775807 := by have := db.p4; omega
 have q5 : -9223372036854775808 ≤ (c.h - a.h) * (b.x - a.x) ∧ (c.h - a.h) * (b.x - a.x) ≤ 9223372036854775807 := by have := db.p5; omega
 have q6 : -9223372036854775808 ≤ (b.h - a.h) * (c.x - a.x) ∧ (b.h - a.h) * (c.x - a.x) ≤ 9223372036854775807 := by have := db.p6; omega
 have p1 := db.p1
 have p2 := db.p2
 have p3 := db.p3
 have p4 := db.p4
 have p5 := db.p5
 have p6 := db.p6
 have hx : ∀ lo L, L[0]? = some (some (.cells (m9 a b c) 0 false false)) → Ret Tryz.prog 42 [.slice (some ⟨nb H 0, 0, none⟩) 3 3, I 3, .func (.func 43) #[] ⟨[]⟩] (ext H lo L) (I 0) (ext H lo L) := fun lo L h0 => by
  have := examMarks_c (H := ext H lo L) (q := some ⟨nb H 0, 0, none⟩) (c := 3) (l := [a, b, c]) (most := 3) (slAt_flat mk_len (ext_get_new (by exact h0))) ⟨Nat.le_refl _, (fun e => by cases e), (fun _ e => by cases e; rfl)⟩ (Nat.le_refl _) (by simp) (fun x hx => by
   simp only [List.mem_cons, List.not_mem_nil, or_false] at hx
   rcases hx with rfl | rfl | rfl <;> assumption)
  exact this
 have cl1 := fun lo L => less_c (H := ext H lo L) gb ga
 have cl2 := fun lo L => less_c (H := ext H lo L) gc ga
 apply ct_seq
 apply ct_region
 apply seq_newP; exact do_box rfl rfl rfl; exact rfl
 apply seq_newP; exact do_alloc rfl rfl; exact rfl
 apply seq_plain; exact do_assign rfl; exact rfl
 apply seq_nil
 iterate 2 (apply ct_seq)
 apply ct_region
 apply seq_plain; exact do_sliceArr rfl rfl rfl; exact rfl
 apply seq_call (ht := rfl); exact hx _ _ rfl; exact rfl
 apply seq_plain; exact do_assign rfl; exact rfl
 apply seq_nil
 apply ct_seq
 apply ct_region
 apply seq_plain; exact do_move rfl; exact rfl
 apply seq_plain; exact do_binInt rfl rfl rfl trivial; exact rfl
 apply seq_nil
 refine ct_cond_f rfl rfl ?_
 apply ct_skip
 apply ct_seq
 apply ct_draw (by assumption); decide +kernel
 apply sd_plain (hfree := rfl); intro _; exact do_indexAddrA rfl rfl rfl (by exact rfl); exact rfl
 apply sd_look (hfree := rfl); exact do_load rfl (by exact ext_get_new rfl) rfl (by exact rfl); exact rfl
 apply sd_plain (hfree := rfl); intro _; exact do_indexAddrA rfl rfl rfl (by exact rfl); exact rfl
 apply sd_look (hfree := rfl); exact do_load rfl (by exact ext_get_new rfl) rfl (by exact rfl); exact rfl
 apply sd_call (ht := rfl); exact cl1 _ _; exact rfl
 apply sd_plain (hfree := rfl); intro _; exact do_indexAddrA rfl rfl rfl (by exact rfl); exact rfl
 apply sd_look (hfree := rfl); exact do_load rfl (by exact ext_get_new rfl) rfl (by exact rfl); exact rfl
 apply sd_plain (hfree := rfl); intro _; exact do_indexAddrA rfl rfl rfl (by exact rfl); exact rfl
 apply sd_look (hfree := rfl); exact do_load rfl (by exact ext_get_new rfl) rfl (by exact rfl); exact rfl
 apply sd_call (ht := rfl); exact cl2 _ _; exact rfl
 iterate 2 (apply sd_newP (hfree := rfl); exact do_alloc rfl rfl; exact rfl)
 refine sd_put (k := 2) rfl (by decide +kernel) hc (by simp) (do_store rfl rfl (ext_get_new rfl) rfl rfl (nb_own _)) ?_
 refine sd_put (k := 3) rfl (by decide +kernel) hc (by simp) (do_store rfl rfl (ext_get_new rfl) rfl rfl (nb_own _)) ?_
 apply sd_nil
 obtain ⟨da, hda⟩ : ∃ m : Mk, m = ⟨b.x - a.x, b.y - a.y, b.h - a.h⟩ := ⟨_, rfl⟩
 obtain ⟨dc, hdc⟩ : ∃ m : Mk, m = ⟨c.x - a.x, c.y - a.y, c.h - a.h⟩ := ⟨_, rfl⟩
 refine ct_to (l' := [(1, .pointer (some ⟨nb H 0, 0, none⟩)), (2, .pointer (some ⟨nb H 1, 0, none⟩)), (3, I 0), (5, .pointer (some ⟨nb H 2, 0, none⟩)), (6, .pointer (some ⟨nb H 3, 0, none⟩))]) (h' := ext H H.fresh [some (.cells (m9 a b c) 0 false false), some (.cells [.string (tx []), .string (tx [])] 0 false false), some (.cells [I (b.x - a.x), I (b.y - a.y), I (b.h - a.h)] 0 false false), some (.cells [I (c.x - a.x), I (c.y - a.y), I (c.h - a.h)] 0 false false)]) (by repeat (first | exact sub_nil | apply sub_cons rfl)) (.refl _) ?_
 apply ct_seq
 apply ct_region
 iterate 2 (apply seq_plain; exact do_fieldAddr rfl rfl; exact rfl)
 apply seq_plain; exact do_load rfl (by exact ext_get_new rfl) rfl (by exact rfl); exact rfl
 iterate 2 (apply seq_plain; exact do_fieldAddr rfl rfl; exact rfl)
 apply seq_plain; exact do_load rfl (by exact ext_get_new rfl) rfl (by exact rfl); exact rfl
 apply seq_plain; exact do_mul rfl rfl (by assumption); exact rfl
 iterate 2 (apply seq_plain; exact do_fieldAddr rfl rfl; exact rfl)
 apply seq_plain; exact do_load rfl (by exact ext_get_new rfl) rfl (by exact rfl); exact rfl
 iterate 2 (apply seq_plain; exact do_fieldAddr rfl rfl; exact rfl)
 apply seq_plain; exact do_load rfl (by exact ext_get_new rfl) rfl (by exact rfl); exact rfl
 apply seq_plain; exact do_mul rfl rfl (by assumption); exact rfl
 apply seq_plain; exact do_sub rfl rfl (by omega); exact rfl
 apply seq_plain; exact do_assign rfl; exact rfl
 apply seq_nil
 apply ct_seq
 apply ct_region
 apply seq_plain; exact do_indexAddrA rfl rfl rfl (by exact rfl); exact rfl
 apply seq_plain; exact do_fieldAddr rfl rfl; exact rfl
 apply seq_plain; exact do_load rfl (by exact ext_get_new rfl) rfl (by exact rfl); exact rfl
 apply seq_plain; exact do_indexAddrA rfl rfl rfl (by exact rfl); exact rfl
 apply seq_plain; exact do_fieldAddr rfl rfl; exact rfl
 apply seq_plain; exact do_load rfl (by exact ext_get_new rfl) rfl (by exact rfl); exact rfl
 apply seq_plain; exact do_eql rfl rfl trivial (eqPt _ _ _ _); exact rfl
 apply seq_plain; exact do_move rfl; exact rfl
 obtain ⟨S, hS⟩ : ∃ S, S = (decide ([a.x, a.y] = [b.x, b.y]) || decide ([b.x, b.y] = [c.x, c.y]) || decide ([c.x, c.y] = [a.x, a.y])) := ⟨_, rfl⟩
 refine seq_J [(2, .pointer (some ⟨nb H 1, 0, none⟩)), (3, I 0), (5, .pointer (some ⟨nb H 2, 0, none⟩)), (6, .pointer (some ⟨nb H 3, 0, none⟩)), (7, I (detM a b c)), (8, .bool S)] (ds := []) (h := ext H H.fresh [some (.cells (m9 a b c) 0 false false), some (.cells [.string (tx []), .string (tx [])] 0 false false), some (.cells [I (b.x - a.x), I (b.y - a.y), I (b.h - a.h)] 0 false false), some (.cells [I (c.x - a.x), I (c.y - a.y), I (c.h - a.h)] 0 false false)]) ?_ ?_
 ·refine seq_gsplit rfl rfl (fun u1 => ?_) (fun u1 => ?_)
  ·have u1 : decide ([a.x, a.y] = [b.x, b.y]) = true := u1
   have e : S = true := by rw [hS, u1]; rfl
   rw [e]
   iterate 7 (apply seq_passed (hd := rfl) (hl := rfl) (hb := rfl); exact rfl)
   apply seq_plain; exact do_pick_t rfl rfl; exact rfl
   apply seq_plain; exact do_move rfl; exact rfl
   iterate 7 (apply seq_passed (hd := rfl) (hl := rfl) (hb := rfl); exact rfl)
   apply seq_plain; exact do_pick_t rfl rfl; exact rfl
   apply seq_plain; exact do_assign rfl; exact rfl
   apply seq_nil
   exact jp_of (by repeat (first | exact sub_nil | apply sub_cons rfl))
  ·have u1 : decide ([a.x, a.y] = [b.x, b.y]) = false := u1
   apply seq_guard (hd := rfl) (hl := rfl); exact do_indexAddrA rfl rfl rfl (by exact rfl); exact rfl
   apply seq_guard (hd := rfl) (hl := rfl); exact do_fieldAddr rfl rfl; exact rfl
   apply seq_guard (hd := rfl) (hl := rfl); exact do_load rfl (by exact ext_get_new rfl) rfl (by exact rfl); exact rfl
   apply seq_guard (hd := rfl) (hl := rfl); exact do_indexAddrA rfl rfl rfl (by exact rfl); exact rfl
   apply seq_guard (hd := rfl) (hl := rfl); exact do_fieldAddr rfl rfl; exact rfl
   apply seq_guard (hd := rfl) (hl := rfl); exact do_load rfl (by exact ext_get_new rfl) rfl (by exact rfl); exact rfl
   apply seq_guard (hd := rfl) (hl := rfl); exact do_eql rfl rfl trivial (eqPt _ _ _ _); exact rfl
   apply seq_plain; exact do_pick_f rfl rfl; exact rfl
   apply seq_plain; exact do_move rfl; exact rfl
   refine seq_gsplit rfl rfl (fun u2 => ?_) (fun u2 => ?_)
   ·have u2 : decide ([b.x, b.y] = [c.x, c.y]) = true := u2
    have e : S = true := by rw [hS, u1, u2]; rfl
    rw [e]
    iterate 7 (apply seq_passed (hd := rfl) (hl := rfl) (hb := rfl); exact rfl)
    apply seq_plain; exact do_pick_t rfl rfl; exact rfl
    apply seq_plain; exact do_assign rfl; exact rfl
    apply seq_nil
    exact jp_of (by repeat (first | exact sub_nil | apply sub_cons rfl))
   ·have u2 : decide ([b.x, b.y] = [c.x, c.y]) = false := u2
    have e : S = decide ([c.x, c.y] = [a.x, a.y]) := by rw [hS, u1, u2]; rfl
    rw [e]
    apply seq_guard (hd := rfl) (hl := rfl); exact do_indexAddrA rfl rfl rfl (by exact rfl); exact rfl
    apply seq_guard (hd := rfl) (hl := rfl); exact do_fieldAddr rfl rfl; exact rfl
    apply seq_guard (hd := rfl) (hl := rfl); exact do_load rfl (by exact ext_get_new rfl) rfl (by exact rfl); exact rfl
    apply seq_guard (hd := rfl) (hl := rfl); exact do_indexAddrA rfl rfl rfl (by exact rfl); exact rfl
    apply seq_guard (hd := rfl) (hl := rfl); exact do_fieldAddr rfl rfl; exact rfl
    apply seq_guard (hd := rfl) (hl := rfl); exact do_load rfl (by exact ext_get_new rfl) rfl (by exact rfl); exact rfl
    apply seq_guard (hd := rfl) (hl := rfl); exact do_eql rfl rfl trivial (eqPt _ _ _ _); exact rfl
    apply seq_plain; exact do_pick_f rfl rfl; exact rfl
    apply seq_plain; exact do_assign rfl; exact rfl
    apply seq_nil
    exact jp_of (by repeat (first | exact sub_nil | apply sub_cons rfl))
 by_cases hd : detM a b c = 0
 ·have ev : slopeV a b c = .tuple ⟨[plV [] [], I 14]⟩ := if_pos hd
  rw [ev, hd]
  iterate 2 (apply ct_seq)
  apply ct_region
  iterate 2 (apply seq_plain; exact do_move rfl; exact rfl)
  refine seq_gsplit rfl rfl (fun u => ?_) (fun u => ?_)
  ·apply seq_passed (hd := rfl) (hl := rfl) (hb := rfl); exact rfl
   apply seq_passed (hd := rfl) (hl := rfl) (hb := rfl); exact rfl
   apply seq_plain; exact do_pick_t rfl rfl; exact rfl
   apply seq_nil
   refine ct_cond_t rfl rfl ?_
   apply ct_seq
   apply ct_region
   apply seq_plain; exact do_build rfl rfl rfl rfl; exact rfl
   apply seq_put (hc := by assumption); rotate_left; exact do_store rfl rfl (by exact ext_get_new rfl) rfl rfl (nb_own _); rotate_left; exact Nat.le_of_ble_eq_true rfl
   apply seq_plain; exact do_assign rfl; exact rfl
   apply seq_nil
   apply ct_ret
   exact fin_flatR hc (res_cellT rfl rfl (ext_get_new rfl) rfl rfl rfl) rfl ⟨rfl, rfl⟩
  ·apply seq_guard (hd := rfl) (hl := rfl); exact do_move rfl; exact rfl
   apply seq_guard (hd := rfl) (hl := rfl); exact do_binInt rfl rfl rfl trivial; exact rfl
   apply seq_plain; exact do_pick_f rfl rfl; exact rfl
   apply seq_nil
   refine ct_cond_t rfl rfl ?_
   apply ct_seq
   apply ct_region
   apply seq_plain; exact do_build rfl rfl rfl rfl; exact rfl
   apply seq_put (hc := by assumption); rotate_left; exact do_store rfl rfl (by exact ext_get_new rfl) rfl rfl (nb_own _); rotate_left; exact Nat.le_of_ble_eq_true rfl
   apply seq_plain; exact do_assign rfl; exact rfl
   apply seq_nil
   apply ct_ret
   exact fin_flatR hc (res_cellT rfl rfl (ext_get_new rfl) rfl rfl rfl) rfl ⟨rfl, rfl⟩
 ·have ev : slopeV a b c = .tuple ⟨[plV (ofS (numX a b c) (detM a b c)) (ofS (numY a b c) (detM a b c)), I 0]⟩ := if_neg hd
  have hS0 : S = false := by
   cases S with
   | false => rfl
   | true => exact absurd (same_det hS.symm) hd
  rw [ev, hS0]
  have hdB : -800000000 ≤ detM a b c ∧ detM a b c ≤ 800000000 := by unfold detM; omega
  have hxB : -79999999920000 ≤ numX a b c ∧ numX a b c ≤ 79999999920000 := by unfold numX; omega
  have hyB : -79999999920000 ≤ numY a b c ∧ numY a b c ≤ 79999999920000 := by unfold numY; omega
  have cx := fun lo L => of_c (H := ext H lo L) (n := numX a b c) (d := detM a b c) (Glo.ext hG) (by omega) (by omega) (by omega) (by omega) hd
  have cy := fun lo L => of_c (H := ext H lo L) (n := numY a b c) (d := detM a b c) (Glo.ext hG) (by omega) (by omega) (by omega) (by omega) hd
  iterate 2 (apply ct_seq)
  apply ct_region
  iterate 2 (apply seq_plain; exact do_move rfl; exact rfl)
  apply seq_guard (hd := rfl) (hl := rfl); exact do_move rfl; exact rfl
  apply seq_guard (hd := rfl) (hl := rfl); exact do_binInt rfl rfl rfl trivial; exact rfl
  apply seq_plain; exact do_pick_f rfl rfl; exact rfl
  apply seq_nil
  refine ct_cond_f rfl (decide_eq_false hd) ?_
  apply ct_skip
  apply ct_seq
  apply ct_region
  apply seq_plain; exact do_fieldAddr rfl rfl; exact rfl
  apply seq_plain; exact do_load rfl (by exact ext_get_new rfl) rfl (by exact rfl); exact rfl
  iterate 2 (apply seq_plain; exact do_fieldAddr rfl rfl; exact rfl)
  apply seq_plain; exact do_load rfl (by exact ext_get_new rfl) rfl (by exact rfl); exact rfl
  apply seq_plain; exact do_mul rfl rfl (by assumption); exact rfl
  apply seq_plain; exact do_fieldAddr rfl rfl; exact rfl
  apply seq_plain; exact do_load rfl (by exact ext_get_new rfl) rfl (by exact rfl); exact rfl
  iterate 2 (apply seq_plain; exact do_fieldAddr rfl rfl; exact rfl)
  apply seq_plain; exact do_load rfl (by exact ext_get_new rfl) rfl (by exact rfl); exact rfl
  apply seq_plain; exact do_mul rfl rfl (by assumption); exact rfl
  apply seq_plain; exact do_sub rfl rfl (by omega); exact rfl
  apply seq_plain; exact do_move rfl; exact rfl
  apply seq_call (ht := rfl); exact cx _ _; exact rfl
  apply seq_plain; exact do_move rfl; exact rfl
  iterate 2 (apply seq_plain; exact do_extract rfl rfl; exact rfl)
  iterate 2 (apply seq_plain; exact do_assign rfl; exact rfl)
  apply seq_nil
  apply ct_seq
  apply ct_region
  apply seq_plain; exact do_fieldAddr rfl rfl; exact rfl
  apply seq_plain; exact do_load rfl (by exact ext_get_new rfl) rfl (by exact rfl); exact rfl
  iterate 2 (apply seq_plain; exact do_fieldAddr rfl rfl; exact rfl)
  apply seq_plain; exact do_load rfl (by exact ext_get_new rfl) rfl (by exact rfl); exact rfl
  apply seq_plain; exact do_mul rfl rfl (by assumption); exact rfl
  apply seq_plain; exact do_fieldAddr rfl rfl; exact rfl
  apply seq_plain; exact do_load rfl (by exact ext_get_new rfl) rfl (by exact rfl); exact rfl
  iterate 2 (apply seq_plain; exact do_fieldAddr rfl rfl; exact rfl)
  apply seq_plain; exact do_load rfl (by exact ext_get_new rfl) rfl (by exact rfl); exact rfl
  apply seq_plain; exact do_mul rfl rfl (by assumption); exact rfl
  apply seq_plain; exact do_sub rfl rfl (by omega); exact rfl
  apply seq_plain; exact do_move rfl; exact rfl
  apply seq_call (ht := rfl); exact cy _ _; exact rfl
  apply seq_plain; exact do_move rfl; exact rfl
  iterate 2 (apply seq_plain; exact do_extract rfl rfl; exact rfl)
  iterate 2 (apply seq_plain; exact do_assign rfl; exact rfl)
  apply seq_nil
  iterate 2 (apply ct_seq)
  apply ct_region
  iterate 2 (apply seq_plain; exact do_move rfl; exact rfl)
  apply seq_newS; exact do_buildSlice rfl rfl rfl rfl rfl rfl rfl; exact rfl
  apply seq_call (ht := rfl); exact first84 (l := [_, _]) (slAt_map (ext_get_new rfl)) (by simp); exact rfl
  apply seq_plain; exact do_assign rfl; exact rfl
  apply seq_nil
  apply ct_seq
  apply ct_region
  apply seq_plain; exact do_move rfl; exact rfl
  apply seq_plain; exact do_binInt rfl rfl rfl trivial; exact rfl
  apply seq_nil
  refine ct_cond_f rfl rfl ?_
  apply ct_skip
  apply ct_seq
  apply ct_region
  iterate 2 (apply seq_plain; exact do_move rfl; exact rfl)
  apply seq_plain; exact do_build rfl rfl rfl rfl; exact rfl
  apply seq_put (hc := by assumption); rotate_left; exact do_store rfl rfl (by exact ext_get_new rfl) rfl rfl (nb_own _); rotate_left; exact Nat.le_of_ble_eq_true rfl
  apply seq_plain; exact do_assign rfl; exact rfl
  apply seq_nil
  apply ct_ret
  exact fin_flatR hc (res_cellT rfl rfl (ext_get_new rfl) rfl rfl rfl) rfl ⟨rfl, rfl⟩
end Go.Proofs.YtmcecjplgalcgaaGreatDoor
