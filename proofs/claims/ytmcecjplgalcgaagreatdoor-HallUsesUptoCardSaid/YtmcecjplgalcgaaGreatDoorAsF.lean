/- Contract: CheckAssign. -/
import Derived.Test.YtmcecjplgalcgaaGreatDoorAsC
import Derived.Test.YtmcecjplgalcgaaGreatDoorHaB
import Derived.Test.YtmcecjplgalcgaaGreatDoorSrL
import Derived.Test.YtmcecjplgalcgaaGreatDoorSxK
import Derived.Test.YtmcecjplgalcgaaGreatDoorPrL
noncomputable section
namespace Go.Proofs.YtmcecjplgalcgaaGreatDoor
open Go Go.Den
set_option maxRecDepth 100000
def chkI (t : List Tb) (l : List Bk) (A : List Int) (i : Nat) : Int := match l[i]?, A[i]? with
 | some x, some n => if n < 0 ∨ n ≥ t.length then 10 else if (t[n.toNat]?.elim false fun y => decide (y.kind = x.kind)) = false then 13 else if ((List.range i).any fun k => decide (A[k]? = some n) && l[k]?.elim false fun o => meetB o x) = true then 17 else 0
 | _, _ => 0
def chkA (t : List Tb) (l : List Bk) (A : List Int) : Int := firstL ((List.range A.length).map (chkI t l A))
def casE (t : List Tb) (l : List Bk) (A : List Int) : Int := firstL [bothE t l, whenL ((A.length : Int) != l.length) 2, chkA t l A]
section
variable {t : List Tb} {l : List Bk} {A : List Int} {i : Nat}
theorem chkA_at (hi : i < A.length) (h : ∀ j, j < i → chkI t l A j = 0) (hne : chkI t l A i ≠ 0) : chkA t l A = chkI t l A i := by
 unfold chkA
 have := firstL_at (l := (List.range A.length).map (chkI t l A)) (i := i) (by simpa using hi) (fun j hj hji => by simp; exact h j hji) (by simpa using hne)
 simpa using this
theorem chkA_none (h : ∀ j, j < A.length → chkI t l A j = 0) : chkA t l A = 0 := by
 unfold chkA
 exact firstL_none fun j hj => by simp; exact h j (by simpa using hj)
theorem chkI_at (h : i < l.length) (hA : i < A.length) : chkI t l A i = if A[i] < 0 ∨ A[i] ≥ t.length then 10 else if (t[A[i].toNat]?.elim false fun y => decide (y.kind = l[i].kind)) = false then 13 else if ((List.range i).any fun k => decide (A[k]? = some A[i]) && l[k]?.elim false fun o => meetB o l[i]) = true then 17 else 0 := by
 unfold chkI
 rw [List.getElem?_eq_getElem h, List.getElem?_eq_getElem hA]
end
set_option maxHeartbeats 16000000 in
theorem CheckAssign_c {H : AHeap} {q r w : Option Addr} {c d e : Nat} {t : List Tb} {l : List Bk} {A : List Int} (hs : SlAt H 2 tb q t) (hlow : LowS q c t.length) (hn : t.length < 1000000) (hr : SlAt H 4 bk r l) (hlow2 : LowS r d l.length) (hm : l.length < 1000000) (hw : SlAt H 1 i1 w A) (hA : A.length < 1000000) :
  Ret Tryz.prog 38 [.slice q t.length c, .slice r l.length d, .slice w A.length e] H (I (casE t l A)) H := by
 refine fn_start Tryz.func38 rfl rfl rfl fun hc => ?_
 apply ct_seq
 apply ct_region
 apply seq_plain; exact do_assign rfl; exact rfl
 apply seq_nil
 iterate 2 (apply ct_seq)
 apply ct_region
 iterate 2 (apply seq_plain; exact do_move rfl; exact rfl)
 apply seq_call (ht := rfl); exact checkBoth_c (hs.ext (ext_Ext hc)) hlow (by omega) (hr.ext (ext_Ext hc)) hlow2 (by omega); exact rfl
 apply seq_plain; exact do_move rfl; exact rfl
 apply seq_plain; exact do_lenS rfl rfl rfl; exact rfl
 apply seq_plain; exact do_move rfl; exact rfl
 apply seq_plain; exact do_lenS rfl rfl rfl; exact rfl
 apply seq_plain; exact do_binInt rfl rfl rfl trivial; exact rfl
 apply seq_call (ht := rfl); exact when85; exact rfl
 apply seq_newS; exact do_buildSlice rfl rfl rfl rfl rfl rfl rfl; exact rfl
 apply seq_call (ht := rfl); exact first84 (l := [_, _]) (slAt_map (ext_get_new rfl)) (by simp); exact rfl
 apply seq_plain; exact do_assign rfl; exact rfl
 apply seq_nil
 apply ct_seq
 apply ct_region
 apply seq_plain; exact do_move rfl; exact rfl
 apply seq_plain; exact do_binInt rfl rfl rfl trivial; exact rfl
 apply seq_nil
 refine ct_cond rfl (fun h1 => ?_) (fun h1 => ?_)
 ·have h1 : firstL [bothE t l, whenL ((A.length : Int) != l.length) 2] ≠ 0 := by simpa using h1
  have e : casE t l A = firstL [bothE t l, whenL ((A.length : Int) != l.length) 2] := by
   unfold casE
   unfold firstL at h1 ⊢
   by_cases k1 : bothE t l = 0
   ·by_cases k2 : whenL ((A.length : Int) != l.length) 2 = 0
    ·simp [k1, k2] at h1
    ·simp [k1, k2]
   ·simp [k1]
  rw [e]
  apply ct_seq
  apply ct_region
  apply seq_plain; exact do_move rfl; exact rfl
  apply seq_plain; exact do_assign rfl; exact rfl
  apply seq_nil
  apply ct_ret
  exact fin_flat hc rfl rfl ⟨rfl, rfl⟩
 have h1 : firstL [bothE t l, whenL ((A.length : Int) != l.length) 2] = 0 := by simpa using h1
 have hz := firstL_allZ h1
 have k1 : bothE t l = 0 := hz _ (by simp)
 have k2 := hz (whenL ((A.length : Int) != l.length) 2) (by simp)
 have hAl : A.length = l.length := by
  have k2 := whenL_z k2 (by decide)
  have : (A.length : Int) = l.length := by simpa using k2
  omega
 have e : casE t l A = chkA t l A := by
  unfold casE
  rw [k1, k2]
  unfold firstL
  by_cases k : chkA t l A = 0 <;> simp [k]
 rw [e]
 clear e hz h1 k1 k2
 have hcap := hlow2.cap
 apply ct_skip
 iterate 2 (apply ct_seq)
 apply ct_region
 apply seq_plain; exact do_move rfl; exact rfl
 apply seq_plain; exact do_lenS rfl rfl rfl; exact rfl
 apply seq_plain; exact do_move rfl; exact rfl
 apply seq_nil
 apply ct_block
 apply ct_loop
 refine lt_meas (α := Nat × List (Option ABlk)) (fun a => [(0, .slice q t.length c), (1, .slice r l.length d), (2, .slice w A.length e), (26, .slice w A.length e), (27, I A.length), (28, I a.1)]) (fun a => ext H H.fresh a.2) (fun a => a.1 ≤ A.length ∧ ∀ j, j < a.1 → chkI t l A j = 0) (fun a => A.length - a.1) (fun a ha ih => ?_) (0, _) ⟨Nat.zero_le _, fun j h => absurd h (Nat.not_lt_zero _)⟩ (by repeat (first | exact sub_nil | apply sub_cons rfl)) (.refl _)
 obtain ⟨i, L⟩ := a
 obtain ⟨hi, hJ⟩ := ha
 simp only at hi hJ ih ⊢
 have ih' := fun i' L' a1 a2 a3 => ih (i', L') a1 ⟨a2, a3⟩
 simp only at ih'
 clear ih
 apply ct_seq
 apply ct_region
 apply seq_plain; exact do_binInt rfl rfl rfl trivial; exact rfl
 apply seq_nil
 apply ct_seq
 refine ct_cond rfl (fun h1 => ?_) (fun h1 => ?_)
 ·simp only [decide_eq_true_eq, Int.ofNat_lt] at h1
  have hil : i < l.length := by omega
  obtain ⟨b2, o2, cs2, z2, st2, ro2, rfl, hg2, hw2⟩ := hr.out (by intro e; rw [e] at hil; simp at hil)
  obtain ⟨b3, o3, cs3, z3, st3, ro3, rfl, hg3, hw3⟩ := hw.out (by intro e; rw [e] at h1; simp at h1)
  have hci := chkI_at (t := t) hil h1
  have bad : chkI t l A i ≠ 0 → chkA t l A = chkI t l A i := chkA_at h1 hJ
  obtain ⟨Z, hZ⟩ : ∃ Z, Z = (decide (A[i] < 0) || decide (A[i] ≥ t.length)) := ⟨_, rfl⟩
  obtain ⟨n, hnn⟩ : ∃ n, n = A[i] := ⟨_, rfl⟩
  rw [← hnn] at hZ hci
  apply ct_skip
  apply ct_seq
  apply ct_block
  apply ct_seq
  apply ct_region
  apply seq_plain; exact do_move rfl; exact rfl
  apply seq_plain; exact do_indexAddrS rfl rfl rfl (by exact idx_nat (by omega)); exact rfl
  apply seq_plain; exact do_load rfl (by exact ext_get_old (by assumption) (by assumption)) rfl (by exact pt_sl0 (by assumption) (by omega)); exact rfl
  iterate 2 (apply seq_plain; exact do_assign rfl; exact rfl)
  apply seq_nil
  iterate 2 (apply ct_seq)
  apply ct_region
  apply seq_plain; exact do_move rfl; exact rfl
  apply seq_plain; exact do_binInt rfl rfl rfl trivial; exact rfl
  apply seq_plain; exact do_move rfl; exact rfl
  rw [← hnn]
  refine seq_J [(0, .slice q t.length c), (1, .slice (some ⟨b2, o2, none⟩) l.length d), (2, .slice (some ⟨b3, o3, none⟩) A.length e), (8, I i), (9, I n), (26, .slice (some ⟨b3, o3, none⟩) A.length e), (27, I A.length), (28, I i), (40, .bool Z)] (ds := []) (h := ext H H.fresh L) ?_ ?_
  ·refine seq_gsplit rfl rfl (fun u => ?_) (fun u => ?_)
   ·have u : decide (n < 0) = true := u
    have e2 : Z = true := by rw [hZ, u]; rfl
    rw [e2]
    iterate 4 (apply seq_passed (hd := rfl) (hl := rfl) (hb := rfl); exact rfl)
    apply seq_plain; exact do_pick_t rfl rfl; exact rfl
    apply seq_nil
    exact jp_of (by repeat (first | exact sub_nil | apply sub_cons rfl))
   ·have u : decide (n < 0) = false := u
    have e2 : Z = decide (n ≥ t.length) := by rw [hZ, u]; rfl
    rw [e2]
    iterate 2 (apply seq_guard (hd := rfl) (hl := rfl); exact do_move rfl; exact rfl)
    apply seq_guard (hd := rfl) (hl := rfl); exact do_lenS rfl rfl rfl; exact rfl
    apply seq_guard (hd := rfl) (hl := rfl); exact do_binInt rfl rfl rfl trivial; exact rfl
    apply seq_plain; exact do_pick_f rfl rfl; exact rfl
    apply seq_nil
    exact jp_of (by repeat (first | exact sub_nil | apply sub_cons rfl))
  refine ct_cond rfl (fun u => ?_) (fun u => ?_)
  ·have u : Z = true := u
   rw [hZ, Bool.or_eq_true, decide_eq_true_eq, decide_eq_true_eq] at u
   rw [if_pos u] at hci
   rw [bad (by rw [hci]; decide), hci]
   apply ct_seq
   apply ct_region
   apply seq_plain; exact do_assign rfl; exact rfl
   apply seq_nil
   apply ct_ret
   exact fin_flat hc rfl rfl ⟨rfl, rfl⟩
  have u : Z = false := u
  rw [hZ, Bool.or_eq_false_iff, decide_eq_false_iff_not, decide_eq_false_iff_not] at u
  rw [if_neg (by omega)] at hci
  obtain ⟨k, rfl⟩ : ∃ k : Nat, n = k := ⟨n.toNat, by omega⟩
  have hkt : k < t.length := by omega
  obtain ⟨b4, o4, cs4, z4, st4, ro4, rfl, hg4, hw4⟩ := hs.out (by intro e; rw [e] at hkt; simp at hkt)
  rw [Int.toNat_natCast, List.getElem?_eq_getElem hkt, Option.elim_some] at hci
  clear u hZ
  apply ct_skip
  iterate 2 (apply ct_seq)
  apply ct_draw (by assumption); decide +kernel
  iterate 2 (apply sd_plain (hfree := rfl); intro _; exact do_move rfl; exact rfl)
  apply sd_plain (hfree := rfl); intro _; exact do_indexAddrS rfl rfl rfl (by exact idx_nat (by omega)); exact rfl
  apply sd_plain (hfree := rfl); intro _; exact do_fieldAddr rfl rfl; exact rfl
  apply sd_look (hfree := rfl); exact do_load rfl (by exact ext_get_old (by assumption) (by assumption)) rfl (by exact pt_sl1 (by assumption) (by omega) (Nat.le_of_ble_eq_true rfl) rfl); exact rfl
  iterate 2 (apply sd_plain (hfree := rfl); intro _; exact do_move rfl; exact rfl)
  apply sd_plain (hfree := rfl); intro _; exact do_indexAddrS rfl rfl rfl (by exact idx_nat (by omega)); exact rfl
  apply sd_plain (hfree := rfl); intro _; exact do_fieldAddr rfl rfl; exact rfl
  apply sd_look (hfree := rfl); exact do_load rfl (by exact ext_get_old (by assumption) (by assumption)) rfl (by exact pt_sl1 (by assumption) (by omega) (Nat.le_of_ble_eq_true rfl) rfl); exact rfl
  apply sd_plain (hfree := rfl); intro _; exact do_binStr rfl rfl rfl; exact rfl
  apply sd_nil
  refine ct_cond rfl (fun u => ?_) (fun u => ?_)
  ·have u : (!byteL t[k].kind.data.toList l[i].kind.data.toList) = true := u
   rw [bytes_eq] at u
   rw [if_pos (by simpa using u)] at hci
   rw [bad (by rw [hci]; decide), hci]
   apply ct_seq
   apply ct_region
   apply seq_plain; exact do_assign rfl; exact rfl
   apply seq_nil
   apply ct_ret
   exact fin_flat hc rfl rfl ⟨rfl, rfl⟩
  have u : (!byteL t[k].kind.data.toList l[i].kind.data.toList) = false := u
  rw [bytes_eq] at u
  rw [if_neg (by simpa using u)] at hci
  clear u
  apply ct_skip
  apply ct_seq
  apply ct_region
  iterate 2 (apply seq_plain; exact do_move rfl; exact rfl)
  apply seq_plain; exact do_sliceTo rfl rfl rfl (by intro e; cases e) (by rintro _ ⟨⟩; rfl) (by omega); exact rfl
  apply seq_plain; exact do_lenS rfl rfl rfl; exact rfl
  apply seq_plain; exact do_move rfl; exact rfl
  apply seq_nil
  apply ct_block
  apply ct_loop
  refine lt_meas (α := Nat × List (Option ABlk)) (fun a => [(0, .slice (some ⟨b4, o4, none⟩) t.length c), (1, .slice (some ⟨b2, o2, none⟩) l.length d), (2, .slice (some ⟨b3, o3, none⟩) A.length e), (8, I i), (9, I k), (26, .slice (some ⟨b3, o3, none⟩) A.length e), (27, I A.length), (28, I i), (54, .slice (some ⟨b2, o2, none⟩) i d), (55, I i), (56, I a.1)]) (fun a => ext H H.fresh a.2) (fun a => a.1 ≤ i ∧ ∀ m (hm : m < l.length) (hmA : m < A.length), m < a.1 → ¬ (A[m] = (k : Int) ∧ meetB l[m] l[i] = true)) (fun a => i - a.1) (fun a ha ih2 => ?_) (0, L) ⟨Nat.zero_le _, fun m _ _ h => absurd h (Nat.not_lt_zero _)⟩ (by repeat (first | exact sub_nil | apply sub_cons rfl)) (by simp only [List.map_nil, List.append_nil]; exact .refl _)
  clear L
  obtain ⟨m, L⟩ := a
  obtain ⟨hmi, hM⟩ := ha
  simp only at hmi hM ih2 ⊢
  have ih2' := fun m' L' a1 a2 a3 => ih2 (m', L') a1 ⟨a2, a3⟩
  simp only at ih2'
  clear ih2
  apply ct_seq
  apply ct_region
  apply seq_plain; exact do_binInt rfl rfl rfl trivial; exact rfl
  apply seq_nil
  apply ct_seq
  refine ct_cond rfl (fun h3 => ?_) (fun h3 => ?_)
  ·simp only [decide_eq_true_eq, Int.ofNat_lt] at h3
   have hml : m < l.length := by omega
   have hmA : m < A.length := by omega
   obtain ⟨Y, hY⟩ : ∃ Y, Y = (decide (A[m] = (k : Int)) && meetB l[m] l[i]) := ⟨_, rfl⟩
   apply ct_skip
   apply ct_seq
   apply ct_block
   apply ct_seq
   apply ct_region
   apply seq_plain; exact do_move rfl; exact rfl
   apply seq_plain; exact do_indexAddrS rfl rfl rfl (by exact idx_nat (by omega)); exact rfl
   apply seq_plain; exact do_load rfl (by exact ext_get_old (by assumption) (by assumption)) rfl (by exact pt_sl (by assumption) (by omega)); exact rfl
   apply seq_newP; exact do_alloc rfl rfl; exact rfl
   apply seq_plain; exact do_assign rfl; exact rfl
   apply seq_putC (hc := by assumption); rotate_left; exact do_store rfl rfl (by exact ext_get_new List.getElem?_concat_length) rfl rfl (nb_own _); rotate_left; exact (by simp)
   apply ct_seq
   apply ct_draw (by assumption); decide +kernel
   iterate 2 (apply sd_plain (hfree := rfl); intro _; exact do_move rfl; exact rfl)
   apply sd_plain (hfree := rfl); intro _; exact do_indexAddrS rfl rfl rfl (by exact idx_nat (by omega)); exact rfl
   apply sd_look (hfree := rfl); exact do_load rfl (by exact ext_get_old (by assumption) (by assumption)) rfl (by exact pt_sl0 (by assumption) (by omega)); exact rfl
   apply sd_plain (hfree := rfl); intro _; exact do_move rfl; exact rfl
   apply sd_plain (hfree := rfl); intro _; exact do_binInt rfl rfl rfl trivial; exact rfl
   apply sd_plain (hfree := rfl); intro _; exact do_move rfl; exact rfl
   rw [set_mid rfl]
   have hX : (L ++ [some (ABlk.cells (bk l[m]) 0 false false)])[L.length]? = some (some (.cells (bk l[m]) 0 false false)) := List.getElem?_concat_length
   refine sd_J [(0, .slice (some ⟨b4, o4, none⟩) t.length c), (1, .slice (some ⟨b2, o2, none⟩) l.length d), (2, .slice (some ⟨b3, o3, none⟩) A.length e), (8, I i), (9, I k), (26, .slice (some ⟨b3, o3, none⟩) A.length e), (27, I A.length), (28, I i), (54, .slice (some ⟨b2, o2, none⟩) i d), (55, I i), (56, I m), (74, .bool Y)] (h := ext H H.fresh (L ++ [some (.cells (bk l[m]) 0 false false)])) ?_ ?_
   ·refine sd_gsplit rfl rfl (fun u => ?_) (fun u => ?_)
    ·have u : (A[m] == (k : Int)) = true := u
     have e2 : Y = meetB l[m] l[i] := by rw [hY, decide_eq_true (by simpa using u)]; rfl
     rw [e2]
     apply sd_guardL (hfree := rfl) (hg := rfl) (hl := rfl); exact do_load rfl (by exact ext_get_new (getApp (by assumption))) rfl (by exact rfl); exact rfl
     iterate 2 (apply sd_guard (hfree := rfl) (hg := rfl) (hl := rfl); intro _; exact do_move rfl; exact rfl)
     apply sd_guard (hfree := rfl) (hg := rfl) (hl := rfl); intro _; exact do_indexAddrS rfl rfl rfl (by exact idx_nat (by omega)); exact rfl
     apply sd_guardL (hfree := rfl) (hg := rfl) (hl := rfl); exact do_load rfl (by exact ext_get_old (by assumption) (by assumption)) rfl (by exact pt_sl (by assumption) (by omega)); exact rfl
     apply sd_gcall (hg := rfl) (hl := rfl) (ht := rfl); exact meet_c; exact rfl
     apply sd_plain (hfree := rfl); intro _; exact do_pick_t rfl rfl; exact rfl
     apply sd_nil
     simp only [List.map_nil, List.append_nil]
     exact jp_of (by repeat (first | exact sub_nil | apply sub_cons rfl))
    ·have u : (A[m] == (k : Int)) = false := u
     have e2 : Y = false := by rw [hY, decide_eq_false (by simpa using u)]; rfl
     rw [e2]
     iterate 6 (apply sd_passed (hg := rfl) (hl := rfl) (hb := rfl); exact rfl)
     apply sd_plain (hfree := rfl); intro _; exact do_pick_f rfl rfl; exact rfl
     apply sd_nil
     simp only [List.map_nil, List.append_nil]
     exact jp_of (by repeat (first | exact sub_nil | apply sub_cons rfl))
   refine ct_cond rfl (fun u => ?_) (fun u => ?_)
   ·have u : Y = true := u
    rw [hY, Bool.and_eq_true, decide_eq_true_eq] at u
    rw [if_pos (List.any_eq_true.2 ⟨m, List.mem_range.2 h3, by rw [List.getElem?_eq_getElem hmA, List.getElem?_eq_getElem hml, u.1]; simp [u.2]⟩)] at hci
    rw [bad (by rw [hci]; decide), hci]
    apply ct_seq
    apply ct_region
    apply seq_plain; exact do_assign rfl; exact rfl
    apply seq_nil
    apply ct_ret
    exact fin_flat hc rfl rfl ⟨rfl, rfl⟩
   ·have u : Y = false := u
    apply ct_skip
    apply ct_region
    apply seq_plain; exact do_succ rfl (by omega); exact rfl
    apply seq_plain; exact do_move rfl; exact rfl
    apply seq_nil
    refine lt_to (by repeat (first | exact sub_nil | apply sub_cons rfl)) (.refl _) (ih2' (m + 1) _ (by omega) (by omega) fun m' h h' hlt => ?_)
    rcases Nat.lt_or_ge m' m with e3 | e3
    ·exact hM m' h h' e3
    ·obtain rfl : m' = m := by omega
     rintro ⟨a1, a2⟩
     rw [hY, a1, a2] at u; simp at u
  have h3 : m = i := by simp at h3; omega
  rw [h3] at hM
  rw [if_neg (fun hx => by
   obtain ⟨k', hk', e'⟩ := List.any_eq_true.1 hx
   have hk' := List.mem_range.1 hk'
   rw [List.getElem?_eq_getElem (by omega : k' < A.length), List.getElem?_eq_getElem (by omega : k' < l.length)] at e'
   simp only [Bool.and_eq_true, decide_eq_true_eq, Option.some.injEq, Option.elim_some] at e'
   exact hM k' (by omega) (by omega) hk' e')] at hci
  apply ct_exit
  apply exit_eq; exact rfl
  apply ct_region
  apply seq_plain; exact do_succ rfl (by omega); exact rfl
  apply seq_plain; exact do_move rfl; exact rfl
  apply seq_nil
  refine lt_to (by repeat (first | exact sub_nil | apply sub_cons rfl)) (.refl _) (ih' (i + 1) L (by omega) (by omega) fun j hj => ?_)
  rcases Nat.lt_or_ge j i with e3 | e3
  ·exact hJ j e3
  ·obtain rfl : j = i := by omega
   exact hci
 have h1 : i = A.length := by simp at h1; omega
 subst h1
 rw [chkA_none hJ]
 apply ct_exit
 apply exit_eq; exact rfl
 apply ct_seq
 apply ct_region
 apply seq_plain; exact do_assign rfl; exact rfl
 apply seq_nil
 apply ct_ret
 exact fin_flat hc rfl rfl ⟨rfl, rfl⟩
end Go.Proofs.YtmcecjplgalcgaaGreatDoor
