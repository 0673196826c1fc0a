/- TopNapEnds: the law's own walk. -/
import Derived.Test.YtppflopinmkpgaaDoorEnL
import Derived.Test.YtppflopinmkpgaaDoorSxT
import Derived.Test.YtppflopinmkpgaaDoorSxQ
import Derived.Test.YtppflopinmkpgaaDoorTbL
import Derived.Test.YtppflopinmkpgaaDoorStB
import Derived.Test.YtppflopinmkpgaaDoorFnL
import Derived.Test.YtppflopinmkpgaaDoorSxK
import Derived.Laws.RangeString
import Derived.Laws.RangeAny
import Derived.Test.YtppflopinmkpgaaDoorFnE
import Derived.Test.YtppflopinmkpgaaDoorFnF
import Derived.Test.YtppflopinmkpgaaDoorLaid
import Derived.Test.YtppflopinmkpgaaDoorSxM
noncomputable section
namespace Go.Proofs.YtppflopinmkpgaaDoor
open Go Go.Den Go.Den.Title
set_option maxRecDepth 100000

theorem do_quo {P : Program} {l : EL} {h : AHeap} {x y : Operand} {t t' : TypeId} {a b : Nat} (hx : ev l x = some (.int .i64 (a : Int))) (hy : ev l y = some (.int .i64 (b : Int))) (ha : a < 9223372036854775808) (hr : b ≠ 0) : Does P l (.binOp .quo t x y t') h (.int .i64 ((a / b : Nat) : Int)) h := by
  refine do_binInt hx hy ?_ trivial
  have := Nat.div_le_self a b
  simp only [intBin]
  rw [if_neg (by omega), ← Int.ofNat_tdiv, wrapI, wrap_i64]
  generalize a / b = z at this
  omega
theorem do_remN {P : Program} {l : EL} {h : AHeap} {x y : Operand} {t t' : TypeId} {a b : Nat} (hx : ev l x = some (.int .i64 (a : Int))) (hy : ev l y = some (.int .i64 (b : Int))) (hr : b ≠ 0) : Does P l (.binOp .rem t x y t') h (.int .i64 ((a % b : Nat) : Int)) h := by
  refine do_binInt hx hy ?_ trivial
  simp only [intBin]
  rw [if_neg (by omega), ← Int.ofNat_tmod]
/-- what is left of an end -/
def quoU : Nat → Nat → Nat
  | 0, e => e
  | j + 1, e => quoU j e / 3
theorem quoU_eq {e : Nat} : ∀ {j : Nat}, quoU j e = e / 3 ^ j
  | 0 => by simp [quoU]
  | j + 1 => by rw [quoU, quoU_eq, Nat.pow_succ, Nat.div_div_eq_div_mul]
theorem quoU_le {e j : Nat} : quoU j e ≤ e := by rw [quoU_eq]; exact Nat.div_le_self ..
/-- the points of an end, so far -/
def ptsU (m j e : Nat) : List Int := digs j e ++ List.replicate (m - j) 0
theorem ptsU_len {m j e : Nat} (h : j ≤ m) : (ptsU m j e).length = m := by
  unfold ptsU
  rw [List.length_append, digs_len, List.length_replicate]; omega
theorem ptsU_zero {m e : Nat} : ptsU m 0 e = List.replicate m 0 := by simp [ptsU, digs]
theorem ptsU_all {m e : Nat} : ptsU m m e = digs m e := by simp [ptsU]
theorem ptsU_set {m j e : Nat} (h : j < m) : (ptsU m j e).set j ((quoU j e % 3 : Nat) : Int) = ptsU m (j + 1) e := by
  unfold ptsU
  rw [List.set_append, if_neg (by rw [digs_len]; omega), digs_len, Nat.sub_self]
  obtain ⟨k, hk⟩ : ∃ k, m - j = k + 1 := ⟨m - j - 1, by omega⟩
  rw [hk, List.replicate_succ, List.set_cons_zero, show m - (j + 1) = k by omega]
  simp [digs, quoU_eq]
theorem ptsU_at {m j e : Nat} (h : j < m) (h' : j < (ptsU m (j + 1) e).length) : (ptsU m (j + 1) e)[j] = ((quoU j e % 3 : Nat) : Int) := by
  have e1 := ptsU_set (e := e) h
  have : (ptsU m (j + 1) e)[j] = ((ptsU m j e).set j ((quoU j e % 3 : Nat) : Int))[j]'(by rw [e1]; exact h') := by simp only [e1]
  rw [this, List.getElem_set_self]
theorem digs_snoc {j e : Nat} : digs (j + 1) e = digs j e ++ [((quoU j e % 3 : Nat) : Int)] := by rw [quoU_eq]; rfl

set_option maxHeartbeats 16000000 in
theorem ends_w {H : AHeap} {q r : Option Addr} {c d : Nat} {pts : List Int} {opn : List (Int × Int)} (haw : ∀ h, Ext H h → Ret Tryd.prog 5 [] h (.bool true) h) (hs : SlAt H 1 i1 q pts) (ht : SlAt H 2 p2 r opn) :
    Ret Tryd.prog 4 [Rv q pts.length c r opn.length d] H (.bool true) H := by
  refine fn_start Tryd.func4 rfl rfl rfl fun hc => ?_
  apply ct_seq
  apply ct_region
  apply seq_newP; exact do_box rfl rfl rfl; exact rfl
  apply seq_plain; exact do_assign rfl; exact rfl
  apply seq_nil
  apply ct_seq
  apply ct_seq
  apply ct_region
  apply seq_plain; exact do_fieldAddr rfl rfl; exact rfl
  apply seq_plain; exact do_load rfl (by exact ext_get_new rfl) rfl (by exact rfl); exact rfl
  apply seq_plain; exact do_lenS rfl rfl rfl; exact rfl
  apply seq_plain; exact do_binInt rfl rfl rfl trivial; exact rfl
  apply seq_plain; exact do_move rfl; exact rfl
  have hT : ∃ T : Bool, T = (decide ((pts.length : Int) > 5) || (decide ((opn.length : Int) > 5) || decide (raceL pts opn ≠ 0))) := ⟨_, rfl⟩
  obtain ⟨T, hT⟩ := hT
  refine seq_J [(1, .pointer (some ⟨nb H 0, 0, none⟩)), (34, .bool T)] (ds := []) (h := ext H H.fresh [some (.cells [.slice q pts.length c, .slice r opn.length d] 0 false false)]) ?_ ?_
  · refine seq_gsplit rfl rfl (fun u0 => ?_) (fun u0 => ?_)
    · have u0 : decide ((pts.length : Int) > 5) = true := u0
      have e : T = true := by rw [hT, u0]; rfl
      rw [e]
      apply seq_passed (hd := rfl) (hl := rfl) (hb := rfl); exact rfl
      apply seq_passed (hd := rfl) (hl := rfl) (hb := rfl); exact rfl
      apply seq_passed (hd := rfl) (hl := rfl) (hb := rfl); exact rfl
      apply seq_passed (hd := rfl) (hl := rfl) (hb := rfl); exact rfl
      apply seq_plain; exact do_pick_t rfl rfl; exact rfl
      apply seq_plain; exact do_move rfl; exact rfl
      apply seq_passed (hd := rfl) (hl := rfl) (hb := rfl); exact rfl
      apply seq_passed (hd := rfl) (hl := rfl) (hb := rfl); exact rfl
      apply seq_passed (hd := rfl) (hl := rfl) (hb := rfl); exact rfl
      apply seq_plain; exact do_pick_t rfl rfl; exact rfl
      apply seq_nil
      exact jp_of (by repeat (first | exact sub_nil | apply sub_cons rfl))
    · have u0 : decide ((pts.length : Int) > 5) = false := u0
      apply seq_guard (hd := rfl) (hl := rfl); exact do_fieldAddr rfl rfl; exact rfl
      apply seq_guard (hd := rfl) (hl := rfl); exact do_load rfl (by exact ext_get_new rfl) rfl (by exact rfl); exact rfl
      apply seq_guard (hd := rfl) (hl := rfl); exact do_lenS rfl rfl rfl; exact rfl
      apply seq_guard (hd := rfl) (hl := rfl); exact do_binInt rfl rfl rfl trivial; exact rfl
      apply seq_plain; exact do_pick_f rfl rfl; exact rfl
      apply seq_plain; exact do_move rfl; exact rfl
      refine seq_gsplit rfl rfl (fun u1 => ?_) (fun u1 => ?_)
      · have u1 : decide ((opn.length : Int) > 5) = true := u1
        have e : T = true := by rw [hT, u0, u1]; rfl
        rw [e]
        apply seq_passed (hd := rfl) (hl := rfl) (hb := rfl); exact rfl
        apply seq_passed (hd := rfl) (hl := rfl) (hb := rfl); exact rfl
        apply seq_passed (hd := rfl) (hl := rfl) (hb := rfl); exact rfl
        apply seq_plain; exact do_pick_t rfl rfl; exact rfl
        apply seq_nil
        exact jp_of (by repeat (first | exact sub_nil | apply sub_cons rfl))
      · have u1 : decide ((opn.length : Int) > 5) = false := u1
        have e : T = (raceL pts opn != 0) := by rw [hT, u0, u1]; by_cases h : raceL pts opn = 0 <;> simp [h]
        rw [e]
        simp only [decide_eq_false_iff_not] at u0 u1
        apply seq_guard (hd := rfl) (hl := rfl); exact do_load rfl (by exact ext_get_new rfl) rfl (by exact rfl); exact rfl
        apply seq_gcall (hg := rfl) (hl := rfl) (ht := rfl); exact refRace_c (hs.ext (ext_Ext hc)) (ht.ext (ext_Ext hc)) (by omega) (by omega); exact rfl
        apply seq_guard (hd := rfl) (hl := rfl); exact do_binInt rfl rfl rfl trivial; exact rfl
        apply seq_plain; exact do_pick_f rfl rfl; exact rfl
        apply seq_nil
        exact jp_of (by repeat (first | exact sub_nil | apply sub_cons rfl))
  skip
  refine ct_cond rfl (fun h1 => ?_) (fun h1 => ?_)
  · apply ct_seq
    apply ct_region
    apply seq_call (ht := rfl); exact haw _ (ext_Ext hc); exact rfl
    apply seq_plain; exact do_assign rfl; exact rfl
    apply seq_nil
    apply ct_ret
    exact fin_flat hc rfl rfl ⟨rfl, rfl⟩
  have hn : pts.length ≤ 5 ∧ opn.length ≤ 5 ∧ raceL pts opn = 0 := by
    rw [h1] at hT
    have hT := hT.symm
    simp only [Bool.or_eq_false_iff, decide_eq_false_iff_not, Decidable.not_not] at hT
    omega
  obtain ⟨hn1, hn2, hr0⟩ := hn
  have hg := race_good hr0
  have hlo := hg.lo
  clear hT
  have hm3 := pow3_le hn2
  apply ct_skip
  apply ct_seq
  apply ct_region
  apply seq_plain; exact do_assign rfl; exact rfl
  apply seq_nil
  apply ct_seq
  apply ct_seq
  apply ct_region
  apply seq_plain; exact do_fieldAddr rfl rfl; exact rfl
  apply seq_plain; exact do_load rfl (by exact ext_get_new rfl) rfl (by exact rfl); exact rfl
  apply seq_plain; exact do_lenS rfl rfl rfl; exact rfl
  apply seq_plain; exact do_move rfl; exact rfl
  apply seq_nil
  apply ct_block
  apply ct_loop
  refine lt_up (fun i => [(1, .pointer (some ⟨nb H 0, 0, none⟩)), (3, I ((3 ^ i : Nat) : Int)), (38, I opn.length), (39, I i)]) (fun _ => True) opn.length (fun i hi _ ih => ?_) 0 (by omega) trivial (by repeat (first | exact sub_nil | apply sub_cons rfl))
  apply ct_seq
  apply ct_region
  apply seq_plain; exact do_binInt rfl rfl rfl trivial; exact rfl
  apply seq_nil
  apply ct_seq
  refine ct_cond rfl (fun h2 => ?_) (fun h2 => ?_)
  · simp only [decide_eq_true_eq, Int.ofNat_lt] at h2
    have hb3 := pow3_le (n := i) (by omega)
    have hb : -9223372036854775808 ≤ ((3 ^ i : Nat) : Int) * 3 ∧ ((3 ^ i : Nat) : Int) * 3 ≤ 9223372036854775807 := by generalize 3 ^ i = z at hb3; omega
    have e3 : ((3 ^ i : Nat) : Int) * 3 = ((3 ^ (i + 1) : Nat) : Int) := by rw [Nat.pow_succ]; rfl
    apply ct_skip
    apply ct_seq
    apply ct_block
    apply ct_region
    apply seq_plain; exact do_move rfl; exact rfl
    apply seq_plain; exact do_mul rfl rfl (by assumption); exact rfl
    apply seq_plain; exact do_assign rfl; exact rfl
    apply seq_nil
    apply ct_region
    apply seq_plain; exact do_succ rfl (by omega); exact rfl
    apply seq_plain; exact do_move rfl; exact rfl
    apply seq_nil
    rw [e3]
    exact lt_sub (by repeat (first | exact sub_nil | apply sub_cons rfl)) (ih (i + 1) (by omega) (by omega) trivial)
  have h2 : i = opn.length := by simp at h2; omega
  subst h2
  apply ct_exit
  apply exit_eq; exact rfl
  apply ct_seq
  apply ct_seq
  apply ct_region
  apply seq_plain; exact do_fieldAddr rfl rfl; exact rfl
  apply seq_plain; exact do_load rfl (by exact ext_get_new rfl) rfl (by exact rfl); exact rfl
  apply seq_plain; exact do_lenS rfl rfl rfl; exact rfl
  apply seq_plain; exact do_move rfl; exact rfl
  apply seq_nil
  apply ct_block
  apply ct_loop
  refine lt_upB hc (fun i => [(1, .pointer (some ⟨nb H 0, 0, none⟩)), (3, I ((3 ^ opn.length : Nat) : Int)), (46, I pts.length), (47, I i)]) (fun _ => True) pts.length (fun i h lo hc' hE0 hi _ ih => ?_) 0 (by omega) trivial (by repeat (first | exact sub_nil | apply sub_cons rfl))
  have hE := (ext_Ext hc).trans hE0
  have hb0 := hE0 _ _ (ext_get_new (k := 0) rfl)
  clear hE0
  apply ct_seq
  apply ct_region
  apply seq_plain; exact do_binInt rfl rfl rfl trivial; exact rfl
  apply seq_nil
  apply ct_seq
  refine ct_cond rfl (fun h2 => ?_) (fun h2 => ?_)
  · simp only [decide_eq_true_eq, Int.ofNat_lt] at h2
    have hok : chkR pts opn i = 0 := chk_zero hg (by omega) (by omega)
    have hs1 := hs.ext hE
    have ht1 := ht.ext hE
    apply ct_skip
    apply ct_seq
    apply ct_block
    apply ct_seq
    apply ct_region
    apply seq_plain; exact do_move rfl; exact rfl
    apply seq_plain; exact do_assign rfl; exact rfl
    apply seq_nil
    apply ct_seq
    apply ct_region
    apply seq_plain; exact do_assign rfl; exact rfl
    apply seq_nil
    apply ct_seq
    apply ct_seq
    apply ct_region
    apply seq_plain; exact do_move rfl; exact rfl
    apply seq_plain; exact do_move rfl; exact rfl
    apply seq_nil
    apply ct_block
    apply ct_loop
    refine lt_upB hc' (fun e => [(1, .pointer (some ⟨nb H 0, 0, none⟩)), (3, I ((3 ^ opn.length : Nat) : Int)), (4, I i), (5, .bool (someE pts opn i e)), (46, I pts.length), (47, I i), (50, I ((3 ^ opn.length : Nat) : Int)), (51, I e)]) (fun _ => True) (3 ^ opn.length) (fun e h3 lo2 hc2 hE2 he _ ih2 => ?_) 0 (Nat.zero_le _) trivial (by repeat (first | exact sub_nil | apply sub_cons rfl))
    have hh2 := (ext_Ext hc').trans hE2
    have hb2 := hh2 _ _ hb0
    have hs2 := hs1.ext hh2
    have ht2 := ht1.ext hh2
    clear hE2
    apply ct_seq
    apply ct_region
    apply seq_plain; exact do_binInt rfl rfl rfl trivial; exact rfl
    apply seq_nil
    apply ct_seq
    refine ct_cond rfl (fun g1 => ?_) (fun g1 => ?_)
    · simp only [decide_eq_true_eq, Int.ofNat_lt] at g1
      obtain ⟨bp, op, csp, zp, sp, rop, rfl, hgp, hwp⟩ := hs2.out (by intro e; rw [e] at hlo; simp at hlo)
      apply ct_skip
      apply ct_seq
      apply ct_block
      apply ct_seq
      apply ct_region
      apply seq_plain; exact do_move rfl; exact rfl
      apply seq_plain; exact do_assign rfl; exact rfl
      apply seq_nil
      apply ct_seq
      apply ct_region
      apply seq_plain; exact do_fieldAddr rfl rfl; exact rfl
      apply seq_plain; exact do_load rfl (by exact ext_get_old (by assumption) (by assumption)) rfl (by exact rfl); exact rfl
      apply seq_plain; exact do_lenS rfl rfl rfl; exact rfl
      apply seq_newS; exact mk33 rfl (by omega); exact rfl
      apply seq_plain; exact do_assign rfl; exact rfl
      apply seq_nil
      apply ct_seq
      apply ct_region
      apply seq_newS; exact do_buildSlice rfl rfl rfl rfl rfl rfl rfl; exact rfl
      apply seq_plain; exact do_fieldAddr rfl rfl; exact rfl
      apply seq_plain; exact do_load rfl (by exact ext_get_old (by assumption) (by assumption)) rfl (by exact rfl); exact rfl
      apply seq_newS; exact do_appendE rfl rfl rfl rfl rfl rfl (ext_get_old hc2 hgp) (slAt_all hwp) (ext_get_new rfl) (Nat.le_trans (Nat.mul_le_mul_right _ (by omega : 2 * (0 + pts.length) + 1000 ≤ 3000)) (Nat.le_of_ble_eq_true rfl)) (Nat.ne_of_beq_eq_false rfl) (Nat.ne_of_beq_eq_false rfl) (by omega); exact rfl
      apply seq_plain; exact do_assign rfl; exact rfl
      apply seq_nil
      apply ct_seq
      apply ct_region
      apply seq_plain; exact do_move rfl; exact rfl
      apply seq_plain; exact do_assign rfl; exact rfl
      apply seq_nil
      apply ct_seq
      apply ct_seq
      apply ct_region
      apply seq_plain; exact do_fieldAddr rfl rfl; exact rfl
      apply seq_plain; exact do_load rfl (by exact ext_get_old (by assumption) (by assumption)) rfl (by exact rfl); exact rfl
      apply seq_plain; exact do_lenS rfl rfl rfl; exact rfl
      apply seq_plain; exact do_move rfl; exact rfl
      apply seq_nil
      apply ct_block
      apply ct_loop
      refine lt_meas (α := Nat × List (Option ABlk)) (fun a => [(1, .pointer (some ⟨nb H 0, 0, none⟩)), (3, I ((3 ^ opn.length : Nat) : Int)), (4, I i), (5, .bool (someE pts opn i e)), (7, .slice (some ⟨nb h3 0, 0, none⟩) opn.length opn.length), (8, .slice (some ⟨nb h3 2, 0, none⟩) pts.length pts.length), (9, I ((quoU a.1 e : Nat) : Int)), (46, I pts.length), (47, I i), (50, I ((3 ^ opn.length : Nat) : Int)), (51, I e), (64, .slice r opn.length d), (65, I opn.length), (66, I a.1)]) (fun a => ext h3 lo2 a.2)
        (fun a => a.1 ≤ opn.length ∧ a.2[0]? = some (some (.cells ((ptsU opn.length a.1 e).map I) 1 false false)) ∧ a.2[2]? = some (some (.cells ((totL pts opn ((digs a.1 e).map gv)).map I) 1 true false))) (fun a => opn.length - a.1) (fun a ha ih3 => ?_)
        (0, [some (.cells ((List.replicate opn.length 0).map I) 1 false false), some (.cells [] 1 false false), some (.cells (pts.map I) 1 true false)]) ⟨by simp, by rw [ptsU_zero]; rfl, by rw [show (digs 0 e).map gv = [] from rfl, totL_nil]; rfl⟩ (by repeat (first | exact sub_nil | apply sub_cons rfl)) (.refl _)
      obtain ⟨j, L⟩ := a
      obtain ⟨hj, hL0, hL2⟩ := ha
      simp only at hj hL0 hL2 ih3 ⊢
      have ih' := fun i' L' a1 a2 a3 a4 => ih3 (i', L') a1 ⟨a2, a3, a4⟩
      simp only at ih'
      clear ih3
      have hLl : 2 < L.length := (List.getElem?_eq_some_iff.1 hL2).1
      apply ct_seq
      apply ct_region
      apply seq_plain; exact do_binInt rfl rfl rfl trivial; exact rfl
      apply seq_nil
      apply ct_seq
      refine ct_cond rfl (fun g2 => ?_) (fun g2 => ?_)
      · simp only [decide_eq_true_eq, Int.ofNat_lt] at g2
        obtain ⟨bo, oo, cso, zo, so, roo, rfl, hgo, hwo⟩ := ht2.out (by intro e; rw [e] at g2; simp at g2)
        have gl : ((digs j e).map gv).length = j := by rw [List.length_map, digs_len]
        have hgs : ((digs j e).map gv).length < opn.length := by omega
        have hgi : opn[((digs j e).map gv).length] = opn[j] := by simp only [gl]
        have st := totL_step (g := gv ((quoU j e % 3 : Nat) : Int)) hg hgs
        rw [show (digs j e).map gv ++ [gv ((quoU j e % 3 : Nat) : Int)] = (digs (j + 1) e).map gv by rw [digs_snoc, List.map_append]; rfl] at st
        have mid := fun x h => totL_mid (x := x) hg hgs h
        rw [hgi] at st mid
        obtain ⟨⟨a0, a1⟩, ⟨b0, b1⟩, hnee⟩ := hg.each _ (List.getElem_mem g2)
        have hqb : quoU j e ≤ 243 := Nat.le_trans quoU_le (by omega)
        have hok3 : ∀ g ∈ (digs j e).map gv, (0 ≤ g.1 ∧ g.1 ≤ 2) ∧ (0 ≤ g.2 ∧ g.2 ≤ 2) := by
          intro g hgm
          obtain ⟨k, hk, rfl⟩ := List.mem_map.1 hgm
          have := digs_ok k hk
          simp only [gv]; omega
        have tl : (totL pts opn ((digs j e).map gv)).length = pts.length := totL_len
        have e1 := totL_at (pts := pts) (opn := opn) (gs := (digs j e).map gv) a0 (by rw [tl]; omega)
        have bd1 := asg_bound (i := opn[j].1) (ps := opn) hok3
        have bd2 := asg_bound (i := opn[j].2) (ps := opn) hok3
        rw [gl] at bd1 bd2
        have pb1 := ptL_bound hg opn[j].1
        have pb2 := ptL_bound hg opn[j].2
        have em := mid (ptL pts opn[j].1 + asg opn[j].1 opn ((digs j e).map gv) + ((quoU j e % 3 : Nat) : Int)) (by rw [List.length_set, tl]; omega)
        have hl2 : ((totL pts opn ((digs j e).map gv)).set opn[j].1.toNat (ptL pts opn[j].1 + asg opn[j].1 opn ((digs j e).map gv) + ((quoU j e % 3 : Nat) : Int))).length = pts.length := by rw [List.length_set]; exact tl
        have hil : j < (ptsU opn.length j e).length := by rw [ptsU_len (by omega)]; exact g2
        apply ct_skip
        apply ct_seq
        apply ct_block
        apply ct_seq
        apply ct_region
        apply seq_plain; exact do_move rfl; exact rfl
        apply seq_plain; exact do_indexAddrS rfl rfl rfl (by exact idx_nat (by omega)); exact rfl
        apply seq_plain; exact do_load rfl (by exact ext_get_old (by assumption) (by assumption)) rfl (by exact pt_sl (by assumption) (by omega)); exact rfl
        apply seq_newP; exact do_alloc rfl rfl; exact rfl
        apply seq_plain; exact do_assign rfl; exact rfl
        apply seq_putC (hc := by assumption); rotate_left; exact do_store rfl rfl (by exact ext_get_new List.getElem?_concat_length) rfl rfl (nb_own _); rotate_left; exact (by simp)
        apply ct_seq
        apply ct_region
        apply seq_plain; exact do_move rfl; exact rfl
        apply seq_plain; exact do_move rfl; exact rfl
        apply seq_plain; exact do_move rfl; exact rfl
        apply seq_plain; exact do_remN rfl rfl (by decide); exact rfl
        apply seq_plain; exact do_indexAddrS rfl rfl rfl (by exact idx_nat (by omega)); exact rfl
        rw [set_mid rfl]
        obtain ⟨y8, e8⟩ : ∃ y : ABlk, y = .cells [I opn[j].1, I opn[j].2] 0 false false := ⟨_, rfl⟩
        have g8 : (L ++ [some y8])[L.length]? = some (some y8) := List.getElem?_concat_length
        have g0 : (L ++ [some y8])[0]? = some (some (.cells ((ptsU opn.length j e).map I) 1 false false)) := getApp hL0
        have g2' : (L ++ [some y8])[2]? = some (some (.cells ((totL pts opn ((digs j e).map gv)).map I) 1 true false)) := getApp hL2
        have gll : 2 < (L ++ [some y8]).length := by simp; omega
        rw [e8] at g8 g0 g2' gll
        refine seq_putQC (k := 0) hc2 (by omega) (do_store rfl rfl (ext_get_new g0) rfl (stl_map hil rfl rfl) (nb_own _)) (fun L1 hl1 ho1 hk1 => ?_)
        rw [ptsU_set g2] at hk1
        have f8 := (ho1 L.length (by omega)).trans g8
        have f2 := (ho1 2 (by omega)).trans g2'
        have hil1 : j < (ptsU opn.length (j + 1) e).length := by rw [ptsU_len (by omega)]; exact g2
        have ea := ptsU_at (e := e) g2 hil1
        clear ho1 g0 g2' g8
        apply ct_seq
        apply ct_region
        apply seq_plain; exact do_move rfl; exact rfl
        apply seq_plain; exact do_quo rfl rfl (by omega) (by decide); exact rfl
        apply seq_plain; exact do_assign rfl; exact rfl
        apply seq_nil
        apply ct_seq
        apply ct_draw (by assumption); decide +kernel
        apply sd_plain (hfree := rfl); intro _; exact do_move rfl; exact rfl
        apply sd_plain (hfree := rfl); intro _; exact do_indexAddrA rfl rfl rfl (by exact rfl); exact rfl
        apply sd_look (hfree := rfl); exact do_load rfl (by exact ext_get_new (getApp (by assumption))) rfl (by exact rfl); exact rfl
        apply sd_plain (hfree := rfl); intro _; exact do_indexAddrS rfl rfl rfl (by exact idx_int (by omega)); exact rfl
        apply sd_look (hfree := rfl); exact do_load rfl (by exact ext_get_new (getApp (by assumption))) rfl (by exact pt_map (by omega)); exact rfl
        apply sd_plain (hfree := rfl); intro _; exact do_move rfl; exact rfl
        apply sd_plain (hfree := rfl); intro _; exact do_move rfl; exact rfl
        apply sd_plain (hfree := rfl); intro _; exact do_indexAddrS rfl rfl rfl (by exact idx_nat (by omega)); exact rfl
        apply sd_look (hfree := rfl); exact do_load rfl (by exact ext_get_new (getApp (by assumption))) rfl (by exact pt_map (by omega)); exact rfl
        apply sd_plain (hfree := rfl); intro _; exact do_add rfl rfl (by omega); exact rfl
        apply sd_plain (hfree := rfl); intro _; exact do_indexAddrS rfl rfl rfl (by exact idx_int (by omega)); exact rfl
        rw [ea, e1]
        refine sd_putQ (k := 2) rfl (by decide +kernel) hc2 (List.getElem?_eq_some_iff.1 f2).1 (do_store rfl rfl (ext_get_new f2) rfl (stl_map (by omega) rfl rfl) (nb_own _)) (fun L2 hl2 ho2 hk2 => ?_)
        have d8 := (ho2 L.length (by omega)).trans f8
        have d0 := (ho2 0 (by omega)).trans hk1
        clear ho2 f2 f8 hk1
        apply sd_nil
        apply ct_draw (by assumption); decide +kernel
        apply sd_plain (hfree := rfl); intro _; exact do_move rfl; exact rfl
        apply sd_plain (hfree := rfl); intro _; exact do_indexAddrA rfl rfl rfl (by exact rfl); exact rfl
        apply sd_look (hfree := rfl); exact do_load rfl (by exact ext_get_new (getApp (getApp (by assumption)))) rfl (by exact rfl); exact rfl
        apply sd_plain (hfree := rfl); intro _; exact do_indexAddrS rfl rfl rfl (by exact idx_int (by omega)); exact rfl
        apply sd_look (hfree := rfl); exact do_load rfl (by exact ext_get_new (getApp (getApp (by assumption)))) rfl (by exact pt_map (by omega)); exact rfl
        apply sd_plain (hfree := rfl); intro _; exact do_move rfl; exact rfl
        apply sd_plain (hfree := rfl); intro _; exact do_move rfl; exact rfl
        apply sd_plain (hfree := rfl); intro _; exact do_indexAddrS rfl rfl rfl (by exact idx_nat (by omega)); exact rfl
        apply sd_look (hfree := rfl); exact do_load rfl (by exact ext_get_new (getApp (getApp (by assumption)))) rfl (by exact pt_map (by omega)); exact rfl
        apply sd_plain (hfree := rfl); intro _; exact do_sub rfl rfl (by omega); exact rfl
        apply sd_plain (hfree := rfl); intro _; exact do_add rfl rfl (by omega); exact rfl
        apply sd_plain (hfree := rfl); intro _; exact do_indexAddrS rfl rfl rfl (by exact idx_int (by omega)); exact rfl
        rw [em, ea]
        skip
        refine sd_putQ (k := 2) rfl (by decide +kernel) hc2 (List.getElem?_eq_some_iff.1 (getApp hk2)).1 (do_store rfl rfl (ext_get_new (getApp hk2)) rfl (stl_map (by rw [List.length_set]; omega) rfl rfl) (nb_own _)) (fun L3 hl3 ho3 hk3 => ?_)
        have c0 := (ho3 0 (by omega)).trans (getApp d0)
        have hk3' : L3[2]? = some (some (.cells ((totL pts opn ((digs (j + 1) e).map gv)).map I) 1 true false)) := by rw [← st]; exact hk3
        clear hk3
        clear ho3
        apply sd_nil
        apply ct_region
        apply seq_plain; exact do_succ rfl (by omega); exact rfl
        apply seq_plain; exact do_move rfl; exact rfl
        apply seq_nil
        exact lt_to (by repeat (first | exact sub_nil | apply sub_cons rfl)) (.refl _) (ih' (j + 1) _ (by omega) (by omega) (getApp c0) (getApp hk3'))
      · have g2 : j = opn.length := by simp at g2; omega
        subst g2
        clear ih'
        have tl : (totL pts opn ((digs opn.length e).map gv)).length = pts.length := totL_len
        have eT : (totL pts opn ((digs opn.length e).map gv))[i]'(by omega) = ptL pts (i : Int) + asg (i : Int) opn ((digs opn.length e).map gv) := totL_at (pts := pts) (opn := opn) (gs := (digs opn.length e).map gv) (k := (i : Int)) (by omega) (by rw [totL_len]; omega)
        have eF : (totL pts opn ((digs opn.length e).map gv)).all (fun y => decide (y ≤ ptL pts (i : Int) + asg (i : Int) opn ((digs opn.length e).map gv))) = firstE pts opn i e := firstE_all
        rw [ptsU_all] at hL0
        obtain ⟨Tl, hTl⟩ : ∃ Tl, Tl = totL pts opn ((digs opn.length e).map gv) := ⟨_, rfl⟩
        simp only [← hTl] at hL2 tl eT eF
        apply ct_exit
        apply exit_eq; exact rfl
        apply ct_seq
        apply ct_region
        apply seq_plain; exact do_assign rfl; exact rfl
        apply seq_nil
        apply ct_seq
        apply ct_seq
        apply ct_region
        apply seq_plain; exact do_move rfl; exact rfl
        apply seq_plain; exact do_lenS rfl rfl rfl; exact rfl
        apply seq_plain; exact do_move rfl; exact rfl
        apply seq_nil
        apply ct_block
        apply ct_loop
        refine lt_up (fun k => [(1, .pointer (some ⟨nb H 0, 0, none⟩)), (3, I ((3 ^ opn.length : Nat) : Int)), (4, I i), (5, .bool (someE pts opn i e)), (7, .slice (some ⟨nb h3 0, 0, none⟩) opn.length opn.length), (8, .slice (some ⟨nb h3 2, 0, none⟩) pts.length pts.length), (12, .bool ((Tl.take k).all fun y => decide (y ≤ ptL pts (i : Int) + asg (i : Int) opn ((digs opn.length e).map gv)))), (46, I pts.length), (47, I i), (50, I ((3 ^ opn.length : Nat) : Int)), (51, I e), (102, .slice (some ⟨nb h3 2, 0, none⟩) pts.length pts.length), (103, I pts.length), (104, I k)]) (fun _ => True) pts.length (fun k hk _ ih4 => ?_) 0 (by omega) trivial (by repeat (first | exact sub_nil | apply sub_cons rfl))
        apply ct_seq
        apply ct_region
        apply seq_plain; exact do_binInt rfl rfl rfl trivial; exact rfl
        apply seq_nil
        apply ct_seq
        refine ct_cond rfl (fun g4 => ?_) (fun g4 => ?_)
        · simp only [decide_eq_true_eq, Int.ofNat_lt] at g4
          have g4' : k < Tl.length := by omega
          have gi' : i < Tl.length := by omega
          have eall : ((Tl.take (k + 1)).all fun y => decide (y ≤ ptL pts (i : Int) + asg (i : Int) opn ((digs opn.length e).map gv))) = (((Tl.take k).all fun y => decide (y ≤ ptL pts (i : Int) + asg (i : Int) opn ((digs opn.length e).map gv))) && decide (Tl[k] ≤ ptL pts (i : Int) + asg (i : Int) opn ((digs opn.length e).map gv))) := by rw [take_snoc g4', List.all_append]; simp
          apply ct_skip
          apply ct_seq
          apply ct_block
          apply ct_seq
          apply ct_region
          apply seq_plain; exact do_indexAddrS rfl rfl rfl (by exact idx_nat (by omega)); exact rfl
          apply seq_plain; exact do_load rfl (by exact ext_get_new (by assumption)) rfl (by exact pt_map (by omega)); exact rfl
          apply seq_plain; exact do_assign rfl; exact rfl
          apply seq_nil
          apply ct_region
          apply seq_plain; exact do_move rfl; exact rfl
          apply seq_plain; exact do_move rfl; exact rfl
          refine seq_J [(1, .pointer (some ⟨nb H 0, 0, none⟩)), (3, I ((3 ^ opn.length : Nat) : Int)), (4, I i), (5, .bool (someE pts opn i e)), (7, .slice (some ⟨nb h3 0, 0, none⟩) opn.length opn.length), (8, .slice (some ⟨nb h3 2, 0, none⟩) pts.length pts.length), (12, .bool ((Tl.take (k + 1)).all fun y => decide (y ≤ ptL pts (i : Int) + asg (i : Int) opn ((digs opn.length e).map gv)))), (46, I pts.length), (47, I i), (50, I ((3 ^ opn.length : Nat) : Int)), (51, I e), (102, .slice (some ⟨nb h3 2, 0, none⟩) pts.length pts.length), (103, I pts.length), (104, I k)] (ds := []) (h := ext h3 lo2 L) ?_ ?_
          · rw [eall]
            refine seq_gsplit rfl rfl (fun u2 => ?_) (fun u2 => ?_)
            · rw [u2]
              apply seq_guard (hd := rfl) (hl := rfl); exact do_move rfl; exact rfl
              apply seq_guard (hd := rfl) (hl := rfl); exact do_move rfl; exact rfl
              apply seq_guard (hd := rfl) (hl := rfl); exact do_move rfl; exact rfl
              apply seq_guard (hd := rfl) (hl := rfl); exact do_indexAddrS rfl rfl rfl (by exact idx_nat (by omega)); exact rfl
              apply seq_guard (hd := rfl) (hl := rfl); exact do_load rfl (by exact ext_get_new (by assumption)) rfl (by exact pt_map (by omega)); exact rfl
              apply seq_guard (hd := rfl) (hl := rfl); exact do_binInt rfl rfl rfl trivial; exact rfl
              apply seq_plain; exact do_pick_t rfl rfl; exact rfl
              apply seq_plain; exact do_assign rfl; exact rfl
              apply seq_nil
              rw [eT]
              exact jp_of (by repeat (first | exact sub_nil | apply sub_cons rfl))
            · rw [u2]
              apply seq_passed (hd := rfl) (hl := rfl) (hb := rfl); exact rfl
              apply seq_passed (hd := rfl) (hl := rfl) (hb := rfl); exact rfl
              apply seq_passed (hd := rfl) (hl := rfl) (hb := rfl); exact rfl
              apply seq_passed (hd := rfl) (hl := rfl) (hb := rfl); exact rfl
              apply seq_passed (hd := rfl) (hl := rfl) (hb := rfl); exact rfl
              apply seq_passed (hd := rfl) (hl := rfl) (hb := rfl); exact rfl
              apply seq_plain; exact do_pick_f rfl rfl; exact rfl
              apply seq_plain; exact do_assign rfl; exact rfl
              apply seq_nil
              exact jp_of (by repeat (first | exact sub_nil | apply sub_cons rfl))
          apply ct_region
          apply seq_plain; exact do_succ rfl (by omega); exact rfl
          apply seq_plain; exact do_move rfl; exact rfl
          apply seq_nil
          exact lt_sub (by repeat (first | exact sub_nil | apply sub_cons rfl)) (ih4 (k + 1) (by omega) (by omega) trivial)
        have g4 : k = pts.length := by simp at g4; omega
        subst g4
        clear ih4
        rw [take_all (by omega), eF]
        have cT := checkTitle_c (c := c) (d := d) (e := opn.length) (team := i) (points := digs opn.length e) (hs2.ext (ext_Ext hc2 (lo := lo2) (L := L))) (ht2.ext (ext_Ext hc2)) (slAt_map (ext_get_new hL0)) (by omega) (by omega) (by rw [digs_len]; omega)
        rw [digs_len] at cT
        have et : titleE pts opn i (digs opn.length e) = titleF pts opn i (digs opn.length e) := by unfold titleE; rw [if_neg (by simp [hok])]
        have t21 : titleF pts opn i (digs opn.length e) = 0 ∨ titleF pts opn i (digs opn.length e) = 21 := by rw [titleF_digs]; unfold whenL; split <;> simp
        rw [et] at cT
        apply ct_exit
        apply exit_eq; exact rfl
        apply ct_seq
        apply ct_region
        apply seq_plain; exact do_move rfl; exact rfl
        apply seq_plain; exact do_move rfl; exact rfl
        refine seq_J [(1, .pointer (some ⟨nb H 0, 0, none⟩)), (3, I ((3 ^ opn.length : Nat) : Int)), (4, I i), (5, .bool (someE pts opn i (e + 1))), (7, .slice (some ⟨nb h3 0, 0, none⟩) opn.length opn.length), (12, .bool (firstE pts opn i e)), (46, I pts.length), (47, I i), (50, I ((3 ^ opn.length : Nat) : Int)), (51, I e)] (ds := []) (h := ext h3 lo2 L) ?_ ?_
        · rw [someE_succ]
          refine seq_gsplit rfl rfl (fun u2 => ?_) (fun u2 => ?_)
          · rw [u2]
            apply seq_passed (hd := rfl) (hl := rfl) (hb := rfl); exact rfl
            apply seq_plain; exact do_pick_t rfl rfl; exact rfl
            apply seq_plain; exact do_assign rfl; exact rfl
            apply seq_nil
            exact jp_of (by repeat (first | exact sub_nil | apply sub_cons rfl))
          · rw [u2]
            apply seq_guard (hd := rfl) (hl := rfl); exact do_move rfl; exact rfl
            apply seq_plain; exact do_pick_f rfl rfl; exact rfl
            apply seq_plain; exact do_assign rfl; exact rfl
            apply seq_nil
            exact jp_of (by repeat (first | exact sub_nil | apply sub_cons rfl))
        apply ct_seq
        apply ct_region
        apply seq_plain; exact do_load rfl (by exact ext_get_old (by assumption) (by assumption)) rfl (by exact rfl); exact rfl
        apply seq_plain; exact do_move rfl; exact rfl
        apply seq_plain; exact do_move rfl; exact rfl
        apply seq_call (ht := rfl); exact cT; exact rfl
        rw [show firstE pts opn i e = (titleF pts opn i (digs opn.length e) == 0) from rfl]
        rcases t21 with t0 | t0
        · rw [t0]
          apply seq_plain; exact do_assign rfl; exact rfl
          apply seq_nil
          apply ct_seq
          apply ct_region
          apply seq_plain; exact do_move rfl; exact rfl
          apply seq_plain; exact do_binInt rfl rfl rfl trivial; exact rfl
          apply seq_plain; exact do_move rfl; exact rfl
          apply seq_plain; exact do_neq rfl rfl trivial rfl; exact rfl
          apply seq_plain; exact do_move rfl; exact rfl
          apply seq_guard (hd := rfl) (hl := rfl); exact do_move rfl; exact rfl
          apply seq_guard (hd := rfl) (hl := rfl); exact do_binInt rfl rfl rfl trivial; exact rfl
          apply seq_guard (hd := rfl) (hl := rfl); exact do_move rfl; exact rfl
          apply seq_passed (hd := rfl) (hl := rfl) (hb := rfl); exact rfl
          apply seq_passed (hd := rfl) (hl := rfl) (hb := rfl); exact rfl
          apply seq_guard (hd := rfl) (hl := rfl); exact do_pick_f rfl rfl; exact rfl
          apply seq_plain; exact do_pick_f rfl rfl; exact rfl
          apply seq_nil
          refine ct_cond_f rfl rfl ?_
          apply ct_skip
          apply ct_region
          apply seq_plain; exact do_succ rfl (by omega); exact rfl
          apply seq_plain; exact do_move rfl; exact rfl
          apply seq_nil
          exact lt_sub (by repeat (first | exact sub_nil | apply sub_cons rfl)) (ih2 (e + 1) _ _ _ hc2 (.refl _) (by omega) (Nat.succ_le_of_lt g1) trivial)
        · rw [t0]
          apply seq_plain; exact do_assign rfl; exact rfl
          apply seq_nil
          apply ct_seq
          apply ct_region
          apply seq_plain; exact do_move rfl; exact rfl
          apply seq_plain; exact do_binInt rfl rfl rfl trivial; exact rfl
          apply seq_plain; exact do_move rfl; exact rfl
          apply seq_plain; exact do_neq rfl rfl trivial rfl; exact rfl
          apply seq_plain; exact do_move rfl; exact rfl
          apply seq_guard (hd := rfl) (hl := rfl); exact do_move rfl; exact rfl
          apply seq_guard (hd := rfl) (hl := rfl); exact do_binInt rfl rfl rfl trivial; exact rfl
          apply seq_guard (hd := rfl) (hl := rfl); exact do_move rfl; exact rfl
          apply seq_guard (hd := rfl) (hl := rfl); exact do_move rfl; exact rfl
          apply seq_guard (hd := rfl) (hl := rfl); exact do_binInt rfl rfl rfl trivial; exact rfl
          apply seq_guard (hd := rfl) (hl := rfl); exact do_pick_t rfl rfl; exact rfl
          apply seq_plain; exact do_pick_f rfl rfl; exact rfl
          apply seq_nil
          refine ct_cond_f rfl rfl ?_
          apply ct_skip
          apply ct_region
          apply seq_plain; exact do_succ rfl (by omega); exact rfl
          apply seq_plain; exact do_move rfl; exact rfl
          apply seq_nil
          exact lt_sub (by repeat (first | exact sub_nil | apply sub_cons rfl)) (ih2 (e + 1) _ _ _ hc2 (.refl _) (by omega) (Nat.succ_le_of_lt g1) trivial)
    · simp only [decide_eq_false_iff_not, Int.ofNat_lt] at g1
      have g1 : e = 3 ^ opn.length := Nat.le_antisymm he (Nat.le_of_not_lt g1)
      subst g1
      clear ih2
      have c1 : ∀ L, Ret Tryd.prog 12 [Rv q pts.length c r opn.length d, I i] (ext h3 lo2 L) (.tuple ⟨[lstV (nb h3 L.length) (bestL pts opn i), I (whenL (bestL pts opn i).isEmpty 7)]⟩) (ext h3 lo2 (L ++ lstL 1 i1 (bestL pts opn i))) := fun L => by
        have := eliminated_c (c := c) (d := d) (hs2.ext (ext_Ext hc2 (lo := lo2) (L := L))) (ht2.ext (ext_Ext hc2)) hok (by omega)
        rw [lstH_ext, ext_fresh] at this
        exact this
      apply ct_exit
      apply exit_eq; exact rfl
      apply ct_seq
      apply ct_region
      apply seq_plain; exact do_load rfl (by exact ext_get_old (by assumption) (by assumption)) rfl (by exact rfl); exact rfl
      apply seq_plain; exact do_move rfl; exact rfl
      refine seq_callQ rfl (title_c (hs2.ext (ext_Ext hc2)) (ht2.ext (ext_Ext hc2)) hok) rfl (fun v hh hv => ?_)
      rcases hv with ⟨hbe, rfl, rfl⟩ | ⟨hbe, p, ht0, hpl, rfl, rfl⟩
      · have hne : (bestL pts opn i).isEmpty = false := by
          cases hq : bestL pts opn i with
          | nil => exact absurd hq hbe
          | cons _ _ => rfl
        have hsf : someE pts opn i (3 ^ opn.length) = false := by
          cases hq : someE pts opn i (3 ^ opn.length) with
          | true => exact absurd (none_of_someE hg hq) hbe
          | false => rfl
        rw [hsf]
        apply seq_plain; exact do_move rfl; exact rfl
        apply seq_plain; exact do_extract rfl rfl; exact rfl
        apply seq_plain; exact do_extract rfl rfl; exact rfl
        apply seq_plain; exact do_assign rfl; exact rfl
        apply seq_plain; exact do_assign rfl; exact rfl
        apply seq_nil
        apply ct_seq
        apply ct_region
        apply seq_plain; exact do_load rfl (by exact ext_get_old (by assumption) (by assumption)) rfl (by exact rfl); exact rfl
        apply seq_plain; exact do_move rfl; exact rfl
        apply seq_call (ht := rfl); exact c1 _; exact rfl
        rw [hne]
        apply seq_plain; exact do_move rfl; exact rfl
        apply seq_plain; exact do_extract rfl rfl; exact rfl
        apply seq_plain; exact do_extract rfl rfl; exact rfl
        apply seq_plain; exact do_assign rfl; exact rfl
        apply seq_plain; exact do_assign rfl; exact rfl
        apply seq_nil
        apply ct_seq
        apply ct_region
        apply seq_plain; exact do_move rfl; exact rfl
        apply seq_plain; exact do_binInt rfl rfl rfl trivial; exact rfl
        apply seq_plain; exact do_move rfl; exact rfl
        apply seq_plain; exact do_neq rfl rfl trivial rfl; exact rfl
        apply seq_plain; exact do_move rfl; exact rfl
        apply seq_guard (hd := rfl) (hl := rfl); exact do_move rfl; exact rfl
        apply seq_guard (hd := rfl) (hl := rfl); exact do_binInt rfl rfl rfl trivial; exact rfl
        apply seq_guard (hd := rfl) (hl := rfl); exact do_move rfl; exact rfl
        apply seq_guard (hd := rfl) (hl := rfl); exact do_eql rfl rfl trivial rfl; exact rfl
        apply seq_plain; exact do_pick_f rfl rfl; exact rfl
        apply seq_nil
        refine ct_cond_f rfl rfl ?_
        apply ct_skip
        apply ct_region
        apply seq_plain; exact do_succ rfl (by omega); exact rfl
        apply seq_plain; exact do_move rfl; exact rfl
        apply seq_nil
        exact lt_sub (by repeat (first | exact sub_nil | apply sub_cons rfl)) (ih (i + 1) _ _ _ hc2 hh2 (by omega) (by omega) trivial)
      · have hst : someE pts opn i (3 ^ opn.length) = true := someE_of ht0
        rw [lstH_ext, ext_fresh, hst]
        apply seq_plain; exact do_move rfl; exact rfl
        apply seq_plain; exact do_extract rfl rfl; exact rfl
        apply seq_plain; exact do_extract rfl rfl; exact rfl
        apply seq_plain; exact do_assign rfl; exact rfl
        apply seq_plain; exact do_assign rfl; exact rfl
        apply seq_nil
        apply ct_seq
        apply ct_region
        apply seq_plain; exact do_load rfl (by exact ext_get_old (by assumption) (by assumption)) rfl (by exact rfl); exact rfl
        apply seq_plain; exact do_move rfl; exact rfl
        apply seq_call (ht := rfl); exact c1 _; exact rfl
        rw [hbe]
        apply seq_plain; exact do_move rfl; exact rfl
        apply seq_plain; exact do_extract rfl rfl; exact rfl
        apply seq_plain; exact do_extract rfl rfl; exact rfl
        apply seq_plain; exact do_assign rfl; exact rfl
        apply seq_plain; exact do_assign rfl; exact rfl
        apply seq_nil
        apply ct_seq
        apply ct_region
        apply seq_plain; exact do_move rfl; exact rfl
        apply seq_plain; exact do_binInt rfl rfl rfl trivial; exact rfl
        apply seq_plain; exact do_move rfl; exact rfl
        apply seq_plain; exact do_neq rfl rfl trivial rfl; exact rfl
        apply seq_plain; exact do_move rfl; exact rfl
        apply seq_guard (hd := rfl) (hl := rfl); exact do_move rfl; exact rfl
        apply seq_guard (hd := rfl) (hl := rfl); exact do_binInt rfl rfl rfl trivial; exact rfl
        apply seq_guard (hd := rfl) (hl := rfl); exact do_move rfl; exact rfl
        apply seq_guard (hd := rfl) (hl := rfl); exact do_eql rfl rfl trivial rfl; exact rfl
        apply seq_plain; exact do_pick_f rfl rfl; exact rfl
        apply seq_nil
        refine ct_cond_f rfl rfl ?_
        apply ct_skip
        apply ct_region
        apply seq_plain; exact do_succ rfl (by omega); exact rfl
        apply seq_plain; exact do_move rfl; exact rfl
        apply seq_nil
        exact lt_sub (by repeat (first | exact sub_nil | apply sub_cons rfl)) (ih (i + 1) _ _ _ hc2 hh2 (by omega) (by omega) trivial)
  · apply ct_exit
    apply exit_eq; exact rfl
    apply ct_seq
    apply ct_region
    apply seq_call (ht := rfl); exact haw _ (hE.trans (ext_Ext hc')); exact rfl
    apply seq_plain; exact do_assign rfl; exact rfl
    apply seq_nil
    apply ct_ret
    exact fin_flatB hc hc' hE rfl rfl ⟨rfl, rfl⟩
end Go.Proofs.YtppflopinmkpgaaDoor
