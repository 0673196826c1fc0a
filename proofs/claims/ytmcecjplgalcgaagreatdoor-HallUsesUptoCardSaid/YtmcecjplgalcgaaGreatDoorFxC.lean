/- Contract: the reference's CheckAssign. -/
import Derived.Test.YtmcecjplgalcgaaGreatDoorAsF
import Derived.Test.YtmcecjplgalcgaaGreatDoorSrL
import Derived.Test.YtmcecjplgalcgaaGreatDoorBgB
import Derived.Test.YtmcecjplgalcgaaGreatDoorHaB
noncomputable section
namespace Go.Proofs.YtmcecjplgalcgaaGreatDoor
open Go Go.Den
set_option maxRecDepth 100000
def chkRef (t : List Tb) (l : List Bk) (A : List Int) : Int := if A.length = l.length then chkA t l A else 2
theorem cas_ref {t : List Tb} {l : List Bk} {A : List Int} (h : bothE t l = 0) : casE t l A = chkRef t l A := by
 unfold casE chkRef
 rw [h]
 by_cases e : A.length = l.length
 ·rw [if_pos e, e]
  have : whenL ((l.length : Int) != l.length) 2 = 0 := by simp [whenL]
  rw [this]
  unfold firstL
  by_cases k : chkA t l A = 0 <;> simp [k]
 ·rw [if_neg e]
  have : whenL ((A.length : Int) != l.length) 2 = 2 := by
   have e2 : ((A.length : Int) != l.length) = true := by simp; omega
   rw [e2]; rfl
  rw [this]
  simp [firstL]
set_option maxHeartbeats 16000000 in
theorem refCheckAssign_c {H : AHeap} {q r w : Option Addr} {c d e : Nat} {t : List Tb} {l : List Bk} {A : List Int} (hs : SlAt H 2 tb q t) (hn : t.length < 1000000) (hr : SlAt H 4 bk r l) (hm : l.length < 1000000) (hw : SlAt H 1 i1 w A) (hA : A.length < 1000000) :
  Ret Tryz.prog 8 [.slice q t.length c, .slice r l.length d, .slice w A.length e] H (I (chkRef t l A)) H := by
 refine fn_start Tryz.func8 rfl rfl rfl fun hc => ?_
 apply ct_seq
 apply ct_region
 apply seq_plain; exact do_assign rfl; exact rfl
 apply seq_nil
 iterate 2 (apply ct_seq)
 apply ct_region
 apply seq_plain; exact do_move rfl; exact rfl
 apply seq_plain; exact do_lenS rfl rfl rfl; exact rfl
 apply seq_plain; exact do_move rfl; exact rfl
 apply seq_plain; exact do_lenS rfl rfl rfl; exact rfl
 apply seq_plain; exact do_binInt rfl rfl rfl trivial; exact rfl
 apply seq_nil
 refine ct_cond rfl (fun h1 => ?_) (fun h1 => ?_)
 ·have e1 : chkRef t l A = 2 := if_neg (by simp at h1; omega)
  rw [e1]
  apply ct_seq
  apply ct_region
  apply seq_plain; exact do_assign rfl; exact rfl
  apply seq_nil
  apply ct_ret
  exact fin_flat hc rfl rfl ⟨rfl, rfl⟩
 have hAl : A.length = l.length := by simp at h1; omega
 have e1 : chkRef t l A = chkA t l A := if_pos hAl
 rw [e1]
 clear e1 h1
 apply ct_skip
 iterate 2 (apply ct_seq)
 apply ct_region
 apply seq_plain; exact do_assign rfl; exact rfl
 apply seq_nil
 apply ct_block
 apply ct_loop
 refine lt_meas (α := Nat × List (Option ABlk)) (fun a => [(0, .slice q t.length c), (1, .slice r l.length d), (2, .slice w A.length e), (7, I a.1)]) (fun a => ext H H.fresh a.2) (fun a => a.1 ≤ A.length ∧ ∀ j, j < a.1 → chkI t l A j = 0) (fun a => A.length - a.1) (fun a ha ih => ?_) (0, _) ⟨Nat.zero_le _, fun j h => absurd h (Nat.not_lt_zero _)⟩ (by repeat (first | exact sub_nil | apply sub_cons rfl)) (.refl _)
 obtain ⟨i, L⟩ := a
 obtain ⟨hi, hJ⟩ := ha
 simp only at hi hJ ih ⊢
 have ih' := fun i' L' a1 a2 a3 => ih (i', L') a1 ⟨a2, a3⟩
 simp only at ih'
 clear ih
 iterate 2 (apply ct_seq)
 apply ct_region
 iterate 2 (apply seq_plain; exact do_move rfl; exact rfl)
 apply seq_plain; exact do_lenS rfl rfl rfl; exact rfl
 apply seq_plain; exact do_binInt rfl rfl rfl trivial; exact rfl
 apply seq_nil
 refine ct_cond rfl (fun h1 => ?_) (fun h1 => ?_)
 ·simp only [decide_eq_true_eq, Int.ofNat_lt] at h1
  have hil : i < l.length := by omega
  obtain ⟨b2, o2, cs2, z2, st2, ro2, rfl, hg2, hw2⟩ := hr.out (by intro e; rw [e] at hil; simp at hil)
  obtain ⟨b3, o3, cs3, z3, st3, ro3, rfl, hg3, hw3⟩ := hw.out (by intro e; rw [e] at h1; simp at h1)
  have hci := chkI_at (t := t) hil h1
  have bad : chkI t l A i ≠ 0 → chkA t l A = chkI t l A i := chkA_at h1 hJ
  obtain ⟨n, hnn⟩ : ∃ n, n = A[i] := ⟨_, rfl⟩
  rw [← hnn] at hci
  apply ct_skip
  apply ct_seq
  apply ct_block
  iterate 2 (apply ct_seq)
  apply ct_region
  iterate 2 (apply seq_plain; exact do_move rfl; exact rfl)
  apply seq_plain; exact do_indexAddrS rfl rfl rfl (by exact idx_nat (by omega)); exact rfl
  apply seq_plain; exact do_load rfl (by exact ext_get_old (by assumption) (by assumption)) rfl (by exact pt_sl0 (by assumption) (by omega)); exact rfl
  apply seq_plain; exact do_move rfl; exact rfl
  apply seq_plain; exact do_lenS rfl rfl rfl; exact rfl
  apply seq_plain; exact do_sub rfl rfl (by omega); exact rfl
  apply seq_call (ht := rfl); exact outside24; exact rfl
  apply seq_nil
  rw [← hnn]
  skip
  refine ct_cond rfl (fun u => ?_) (fun u => ?_)
  ·have u : outL n 0 ((t.length : Int) - 1) = true := u
   unfold outL at u
   have u := of_decide_eq_true u
   rw [if_pos (by omega)] at hci
   rw [bad (by rw [hci]; decide), hci]
   apply ct_seq
   apply ct_region
   apply seq_plain; exact do_assign rfl; exact rfl
   apply seq_nil
   apply ct_ret
   exact fin_flat hc rfl rfl ⟨rfl, rfl⟩
  have u : outL n 0 ((t.length : Int) - 1) = false := u
  unfold outL at u
  have u := of_decide_eq_false u
  rw [if_neg (by omega)] at hci
  obtain ⟨k, rfl⟩ : ∃ k : Nat, n = k := ⟨n.toNat, by omega⟩
  have hkt : k < t.length := by omega
  obtain ⟨b4, o4, cs4, z4, st4, ro4, rfl, hg4, hw4⟩ := hs.out (by intro e; rw [e] at hkt; simp at hkt)
  rw [Int.toNat_natCast, List.getElem?_eq_getElem hkt, Option.elim_some] at hci
  clear u
  apply ct_skip
  iterate 2 (apply ct_seq)
  apply ct_draw (by assumption); decide +kernel
  iterate 3 (apply sd_plain (hfree := rfl); intro _; exact do_move rfl; exact rfl)
  apply sd_plain (hfree := rfl); intro _; exact do_indexAddrS rfl rfl rfl (by exact idx_nat (by omega)); exact rfl
  apply sd_look (hfree := rfl); exact do_load rfl (by exact ext_get_old (by assumption) (by assumption)) rfl (by exact pt_sl0 (by assumption) (by omega)); exact rfl
  apply sd_plain (hfree := rfl); intro _; exact do_indexAddrS rfl rfl rfl (by exact idx_int (by omega)); exact rfl
  apply sd_plain (hfree := rfl); intro _; exact do_fieldAddr rfl rfl; exact rfl
  apply sd_look (hfree := rfl); exact do_load rfl (by exact ext_get_old (by assumption) (by assumption)) rfl (by exact pt_sl1 (by assumption) (by omega) (Nat.le_of_ble_eq_true rfl) rfl); exact rfl
  iterate 2 (apply sd_plain (hfree := rfl); intro _; exact do_move rfl; exact rfl)
  apply sd_plain (hfree := rfl); intro _; exact do_indexAddrS rfl rfl rfl (by exact idx_nat (by omega)); exact rfl
  apply sd_plain (hfree := rfl); intro _; exact do_fieldAddr rfl rfl; exact rfl
  apply sd_look (hfree := rfl); exact do_load rfl (by exact ext_get_old (by assumption) (by assumption)) rfl (by exact pt_sl1 (by assumption) (by omega) (Nat.le_of_ble_eq_true rfl) rfl); exact rfl
  apply sd_plain (hfree := rfl); intro _; exact do_binStr rfl rfl rfl; exact rfl
  apply sd_nil
  simp only [← hnn]
  skip
  refine ct_cond rfl (fun u => ?_) (fun u => ?_)
  ·have u : (!byteL t[k].kind.data.toList l[i].kind.data.toList) = true := u
   rw [bytes_eq] at u
   rw [if_pos (by simpa using u)] at hci
   rw [bad (by rw [hci]; decide), hci]
   apply ct_seq
   apply ct_region
   apply seq_plain; exact do_assign rfl; exact rfl
   apply seq_nil
   apply ct_ret
   exact fin_flat hc rfl rfl ⟨rfl, rfl⟩
  have u : (!byteL t[k].kind.data.toList l[i].kind.data.toList) = false := u
  rw [bytes_eq] at u
  rw [if_neg (by simpa using u)] at hci
  clear u
  apply ct_skip
  apply ct_seq
  apply ct_region
  apply seq_plain; exact do_assign rfl; exact rfl
  apply seq_nil
  apply ct_block
  apply ct_loop
  refine lt_meas (α := Nat × List (Option ABlk)) (fun a => [(0, .slice (some ⟨b4, o4, none⟩) t.length c), (1, .slice (some ⟨b2, o2, none⟩) l.length d), (2, .slice (some ⟨b3, o3, none⟩) A.length e), (7, I i), (8, I a.1)]) (fun a => ext H H.fresh a.2) (fun a => a.1 ≤ i ∧ ∀ m (h : m < A.length) (h' : m < l.length), m < a.1 → ¬ (A[m] = (k : Int) ∧ meetB l[m] l[i] = true)) (fun a => i - a.1) (fun a ha ih2 => ?_) (0, _) ⟨Nat.zero_le _, fun _ _ _ h => absurd h (Nat.not_lt_zero _)⟩ (by repeat (first | exact sub_nil | apply sub_cons rfl)) (.refl _)
  clear L
  obtain ⟨m, L⟩ := a
  obtain ⟨hmi, hM⟩ := ha
  simp only at hmi hM ih2 ⊢
  have ih2' := fun m' L' a1 a2 a3 => ih2 (m', L') a1 ⟨a2, a3⟩
  simp only at ih2'
  clear ih2
  iterate 2 (apply ct_seq)
  apply ct_region
  iterate 2 (apply seq_plain; exact do_move rfl; exact rfl)
  apply seq_plain; exact do_binInt rfl rfl rfl trivial; exact rfl
  apply seq_nil
  refine ct_cond rfl (fun h3 => ?_) (fun h3 => ?_)
  ·simp only [decide_eq_true_eq, Int.ofNat_lt] at h3
   have hml : m < l.length := by omega
   have hmA : m < A.length := by omega
   obtain ⟨Y, hY⟩ : ∃ Y, Y = (decide (A[m] = (k : Int)) && meetB l[m] l[i]) := ⟨_, rfl⟩
   apply ct_skip
   apply ct_seq
   apply ct_block
   apply ct_seq
   apply ct_draw (by assumption); decide +kernel
   iterate 2 (apply sd_plain (hfree := rfl); intro _; exact do_move rfl; exact rfl)
   apply sd_plain (hfree := rfl); intro _; exact do_indexAddrS rfl rfl rfl (by exact idx_nat (by omega)); exact rfl
   apply sd_look (hfree := rfl); exact do_load rfl (by exact ext_get_old (by assumption) (by assumption)) rfl (by exact pt_sl0 (by assumption) (by omega)); exact rfl
   iterate 2 (apply sd_plain (hfree := rfl); intro _; exact do_move rfl; exact rfl)
   apply sd_plain (hfree := rfl); intro _; exact do_indexAddrS rfl rfl rfl (by exact idx_nat (by omega)); exact rfl
   apply sd_look (hfree := rfl); exact do_load rfl (by exact ext_get_old (by assumption) (by assumption)) rfl (by exact pt_sl0 (by assumption) (by omega)); exact rfl
   apply sd_plain (hfree := rfl); intro _; exact do_binInt rfl rfl rfl trivial; exact rfl
   apply sd_plain (hfree := rfl); intro _; exact do_move rfl; exact rfl
   rw [← hnn]
   skip
   refine sd_J [(0, .slice (some ⟨b4, o4, none⟩) t.length c), (1, .slice (some ⟨b2, o2, none⟩) l.length d), (2, .slice (some ⟨b3, o3, none⟩) A.length e), (7, I i), (8, I m), (66, .bool Y)] (h := ext H H.fresh L) ?_ ?_
   ·refine sd_gsplit rfl rfl (fun u => ?_) (fun u => ?_)
    ·have u : (A[m] == (k : Int)) = true := u
     have e2 : Y = meetB l[m] l[i] := by rw [hY, decide_eq_true (by simpa using u)]; rfl
     rw [e2]
     iterate 2 (apply sd_guard (hfree := rfl) (hg := rfl) (hl := rfl); intro _; exact do_move rfl; exact rfl)
     apply sd_guard (hfree := rfl) (hg := rfl) (hl := rfl); intro _; exact do_indexAddrS rfl rfl rfl (by exact idx_nat (by omega)); exact rfl
     apply sd_guardL (hfree := rfl) (hg := rfl) (hl := rfl); exact do_load rfl (by exact ext_get_old (by assumption) (by assumption)) rfl (by exact pt_sl (by assumption) (by omega)); exact rfl
     iterate 2 (apply sd_guard (hfree := rfl) (hg := rfl) (hl := rfl); intro _; exact do_move rfl; exact rfl)
     apply sd_guard (hfree := rfl) (hg := rfl) (hl := rfl); intro _; exact do_indexAddrS rfl rfl rfl (by exact idx_nat (by omega)); exact rfl
     apply sd_guardL (hfree := rfl) (hg := rfl) (hl := rfl); exact do_load rfl (by exact ext_get_old (by assumption) (by assumption)) rfl (by exact pt_sl (by assumption) (by omega)); exact rfl
     apply sd_gcall (hg := rfl) (hl := rfl) (ht := rfl); exact overlap_c; exact rfl
     apply sd_plain (hfree := rfl); intro _; exact do_pick_t rfl rfl; exact rfl
     apply sd_nil
     simp only [List.map_nil, List.append_nil]
     exact jp_of (by repeat (first | exact sub_nil | apply sub_cons rfl))
    ·have u : (A[m] == (k : Int)) = false := u
     have e2 : Y = false := by rw [hY, decide_eq_false (by simpa using u)]; rfl
     rw [e2]
     iterate 9 (apply sd_passed (hg := rfl) (hl := rfl) (hb := rfl); exact rfl)
     apply sd_plain (hfree := rfl); intro _; exact do_pick_f rfl rfl; exact rfl
     apply sd_nil
     simp only [List.map_nil, List.append_nil]
     exact jp_of (by repeat (first | exact sub_nil | apply sub_cons rfl))
   refine ct_cond rfl (fun u => ?_) (fun u => ?_)
   ·have u : Y = true := u
    rw [hY, Bool.and_eq_true, decide_eq_true_eq] at u
    rw [if_pos (List.any_eq_true.2 ⟨m, List.mem_range.2 h3, by rw [List.getElem?_eq_getElem hmA, List.getElem?_eq_getElem hml, u.1]; simp [u.2]⟩)] at hci
    rw [bad (by rw [hci]; decide), hci]
    apply ct_seq
    apply ct_region
    apply seq_plain; exact do_assign rfl; exact rfl
    apply seq_nil
    apply ct_ret
    exact fin_flat hc rfl rfl ⟨rfl, rfl⟩
   ·have u : Y = false := u
    apply ct_skip
    apply ct_region
    apply seq_plain; exact do_move rfl; exact rfl
    apply seq_plain; exact do_succ rfl (by omega); exact rfl
    apply seq_plain; exact do_assign rfl; exact rfl
    apply seq_nil
    refine lt_to (by repeat (first | exact sub_nil | apply sub_cons rfl)) (.refl _) (ih2' (m + 1) _ (by omega) (by omega) fun m' h h' hlt => ?_)
    rcases Nat.lt_or_ge m' m with e3 | e3
    ·exact hM m' h h' e3
    ·obtain rfl : m' = m := by omega
     rintro ⟨a1, a2⟩
     rw [hY, a1, a2] at u; simp at u
  have h3 : m = i := by simp at h3; omega
  rw [h3] at hM
  rw [if_neg (fun hx => by
   obtain ⟨k', hk', e'⟩ := List.any_eq_true.1 hx
   have hk' := List.mem_range.1 hk'
   rw [List.getElem?_eq_getElem (by omega : k' < A.length), List.getElem?_eq_getElem (by omega : k' < l.length)] at e'
   simp only [Bool.and_eq_true, decide_eq_true_eq, Option.some.injEq, Option.elim_some] at e'
   exact hM k' (by omega) (by omega) hk' e')] at hci
  apply ct_exit
  apply exit_eq; exact rfl
  apply ct_region
  apply seq_plain; exact do_move rfl; exact rfl
  apply seq_plain; exact do_succ rfl (by omega); exact rfl
  apply seq_plain; exact do_assign rfl; exact rfl
  apply seq_nil
  refine lt_to (by repeat (first | exact sub_nil | apply sub_cons rfl)) (.refl _) (ih' (i + 1) L (by omega) (by omega) fun j hj => ?_)
  rcases Nat.lt_or_ge j i with e3 | e3
  ·exact hJ j e3
  ·obtain rfl : j = i := by omega
   exact hci
 have h1 : i = A.length := by simp at h1; omega
 subst h1
 rw [chkA_none hJ]
 apply ct_exit
 apply exit_eq; exact rfl
 apply ct_seq
 apply ct_region
 apply seq_plain; exact do_assign rfl; exact rfl
 apply seq_nil
 apply ct_ret
 exact fin_flat hc rfl rfl ⟨rfl, rfl⟩
end Go.Proofs.YtmcecjplgalcgaaGreatDoor
/- Contracts: the program's fixtures and the double ones; the reference's double ones. -/
noncomputable section
namespace Go.Proofs.YtmcecjplgalcgaaGreatDoor
open Go Go.Den
set_option maxRecDepth 100000
/-! ### the double ones, run for each number of teams on top of it -/
theorem lies_nil {H : AHeap} : Lies H [] [] := ⟨rfl, by simp, .nil, fun k x h => by simp at h⟩
end Go.Proofs.YtmcecjplgalcgaaGreatDoor
