/- Contracts: the reference's Assign and CheckAssign. -/
import Derived.Test.YtflbffhahoblfaaGreatDoorAsF
import Derived.Test.YtflbffhahoblfaaGreatDoorAsH
import Derived.Test.YtflbffhahoblfaaGreatDoorOpsA
noncomputable section
namespace Go.Proofs.YtflbffhahoblfaaGreatDoor
open Go Go.Den
set_option maxRecDepth 100000
structure FndI (t : List Tb) (l : List Bk) (a : List Int) (b : Bk) (O : List Int) (p k : Nat) (f : Bool) (O' : List Int) : Prop where
  no : f = false → O' = O ∧ ∀ j, j < k → freeK t l a b j = false
  yes : f = true → ∃ m : Nat, m < t.length ∧ freeK t l a b m = true ∧ (∀ j, j < m → freeK t l a b j = false) ∧ O' = O.set p (m : Int)
theorem FndI.zero {t : List Tb} {l : List Bk} {a : List Int} {b : Bk} {O : List Int} {p : Nat} : FndI t l a b O p 0 false O := ⟨fun _ => ⟨rfl, fun _ h => absurd h (Nat.not_lt_zero _)⟩, fun e => (by cases e)⟩
theorem FndI.miss {t : List Tb} {l : List Bk} {a : List Int} {b : Bk} {O O' : List Int} {p k : Nat} (h : FndI t l a b O p k false O') (hk : freeK t l a b k = false) : FndI t l a b O p (k + 1) false O' :=
  ⟨fun e => ⟨(h.no e).1, fun j hj => by
    by_cases e2 : j = k
    · rw [e2]; exact hk
    · exact (h.no e).2 j (by omega)⟩, fun e => (by cases e)⟩
theorem FndI.hit {t : List Tb} {l : List Bk} {a : List Int} {b : Bk} {O O' : List Int} {p k : Nat} (h : FndI t l a b O p k false O') (hk : k < t.length) (hf : freeK t l a b k = true) : FndI t l a b O p (k + 1) true (O'.set p (k : Int)) :=
  ⟨fun e => (by cases e), fun _ => ⟨k, hk, hf, (h.no rfl).2, by rw [(h.no rfl).1]⟩⟩
def refAV (H : AHeap) (t : List Tb) (l : List Bk) : Value := .tuple ⟨[if fitB t l = true then .slice (some ⟨H.fresh, 0, none⟩) l.length l.length else .slice none 0 0, .bool (fitB t l)]⟩
def refAH (H : AHeap) (t : List Tb) (l : List Bk) : AHeap := if fitB t l = true then H.add (.cells ((asgV t l).map I) 1 false false) else H
set_option maxHeartbeats 16000000 in
theorem refAssign_c {H : AHeap} {q r : Option Addr} {c d : Nat} {t : List Tb} {l : List Bk} (hs : SlAt H 2 tb q t) (hn : t.length < 1000000) (hr : SlAt H 4 bk r l) (hm : l.length ≤ 24) (hok : bothE t l = 0) :
    Ret Tryz.prog 11 [.slice q t.length c, .slice r l.length d] H (refAV H t l) (refAH H t l) := by
  refine fn_start Tryz.func11 rfl rfl rfl fun hc => ?_
  have ok := both_ok hok
  apply ct_seq
  apply ct_region
  iterate 2 (apply seq_plain; exact do_assign rfl; exact rfl)
  apply seq_nil
  apply ct_seq
  apply ct_region
  apply seq_plain; exact do_move rfl; exact rfl
  apply seq_plain; exact do_lenS rfl rfl rfl; exact rfl
  apply seq_newS; exact mk33 rfl (by omega); exact rfl
  apply seq_plain; exact do_assign rfl; exact rfl
  apply seq_nil
  apply ct_seq
  apply ct_region
  apply seq_plain; exact do_move rfl; exact rfl
  apply seq_plain; exact do_lenS rfl rfl rfl; exact rfl
  apply seq_newS; exact mkBools61 rfl (by omega) rfl rfl rfl rfl; exact rfl
  apply seq_plain; exact do_assign rfl; exact rfl
  apply seq_nil
  iterate 2 (apply ct_seq)
  apply ct_region
  apply seq_plain; exact do_assign rfl; exact rfl
  apply seq_nil
  apply ct_block
  apply ct_loop
  refine lt_meas (α := Nat × List Int × List Bool × List (Option ABlk)) (fun a => [(0, .slice q t.length c), (1, .slice r l.length d), (6, .slice (some ⟨nb H 0, 0, none⟩) l.length l.length), (7, .slice (some ⟨nb H 1, 0, none⟩) l.length l.length), (8, I a.1)]) (fun a => ext H H.fresh a.2.2.2) (fun a => a.1 ≤ l.length ∧ RfS t l a.1 a.2.1 a.2.2.1 ∧ a.2.2.2[0]? = some (some (.cells (a.2.1.map I) 1 false false)) ∧ a.2.2.2[1]? = some (some (.cells (a.2.2.1.map Value.bool) 1 false false))) (fun a => l.length - a.1) (fun a ha ih => ?_) (0, List.replicate l.length 0, List.replicate l.length false, _) ?_ (by repeat (first | exact sub_nil | apply sub_cons rfl)) (.refl _)
  rotate_left
  · exact ⟨Nat.zero_le _, RfS.zero, rfl, rfl⟩
  obtain ⟨n, O, D, L⟩ := a
  obtain ⟨hnl, hR, l0, l1⟩ := ha
  simp only at hnl hR l0 l1 ih ⊢
  have ih' := fun n' O' D' L' a1 a2 a3 a4 a5 => ih (n', O', D', L') a1 ⟨a2, a3, a4, a5⟩
  simp only at ih'
  clear ih
  have hOl := hR.ol
  have hDl := hR.dl
  iterate 2 (apply ct_seq)
  apply ct_region
  iterate 2 (apply seq_plain; exact do_move rfl; exact rfl)
  apply seq_plain; exact do_lenS rfl rfl rfl; exact rfl
  apply seq_plain; exact do_binInt rfl rfl rfl trivial; exact rfl
  apply seq_nil
  refine ct_cond rfl (fun h1 => ?_) (fun h1 => ?_)
  · simp only [decide_eq_true_eq, Int.ofNat_lt] at h1
    have hno : n < (ordL l).length := by rw [ordL_len]; exact h1
    obtain ⟨b1, o1, cs1, z1, st1, ro1, rfl, hg1, hw1⟩ := hr.out (by intro e; rw [e] at h1; simp at h1)
    obtain ⟨S, hS⟩ : ∃ S, S = (ordL l).take n := ⟨_, rfl⟩
    apply ct_skip
    apply ct_seq
    apply ct_block
    apply ct_seq
    apply ct_region
    apply seq_plain; exact do_assign rfl; exact rfl
    apply seq_nil
    iterate 2 (apply ct_seq)
    apply ct_region
    apply seq_plain; exact do_assign rfl; exact rfl
    apply seq_nil
    apply ct_block
    apply ct_loop
    refine lt_meas (α := Nat × Int) (fun a => [(0, .slice q t.length c), (1, .slice (some ⟨b1, o1, none⟩) l.length d), (6, .slice (some ⟨nb H 0, 0, none⟩) l.length l.length), (7, .slice (some ⟨nb H 1, 0, none⟩) l.length l.length), (8, I n), (9, I a.2), (10, I a.1)]) (fun _ => ext H H.fresh L) (fun a => a.1 ≤ l.length ∧ SelI l S a.1 a.2) (fun a => l.length - a.1) (fun a ha ih2 => ?_) (0, -1) ⟨Nat.zero_le _, sel_zero⟩ (by repeat (first | exact sub_nil | apply sub_cons rfl)) (.refl _)
    obtain ⟨k, i⟩ := a
    obtain ⟨hk, hI⟩ := ha
    simp only at hk hI ih2 ⊢
    have ih2' := fun k' i' a1 a2 a3 => ih2 (k', i') a1 ⟨a2, a3⟩
    simp only at ih2'
    clear ih2
    iterate 2 (apply ct_seq)
    apply ct_region
    iterate 2 (apply seq_plain; exact do_move rfl; exact rfl)
    apply seq_plain; exact do_lenS rfl rfl rfl; exact rfl
    apply seq_plain; exact do_binInt rfl rfl rfl trivial; exact rfl
    apply seq_nil
    refine ct_cond rfl (fun h2 => ?_) (fun h2 => ?_)
    · simp only [decide_eq_true_eq, Int.ofNat_lt] at h2
      have hkD : k < D.length := by omega
      have hdk := hR.dn k hkD
      rw [← hS] at hdk
      obtain ⟨dk, edk⟩ : ∃ dk, dk = D[k] := ⟨_, rfl⟩
      rw [← edk] at hdk
      obtain ⟨Y, hY⟩ : ∃ Y, Y = (!dk && (decide (i < 0) || decide (frmI l k < frmI l i.toNat))) := ⟨_, rfl⟩
      apply ct_skip
      apply ct_seq
      apply ct_block
      apply ct_seq
      apply ct_draw (by assumption); decide +kernel
      iterate 2 (apply sd_plain (hfree := rfl); intro _; exact do_move rfl; exact rfl)
      apply sd_plain (hfree := rfl); intro _; exact do_indexAddrS rfl rfl rfl (by exact idx_nat (by omega)); exact rfl
      apply sd_look (hfree := rfl); exact do_load rfl (by exact ext_get_new (getApp (by assumption))) rfl (by exact pt_map (by omega)); exact rfl
      apply sd_plain (hfree := rfl); intro _; exact do_unOp rfl rfl; exact rfl
      apply sd_plain (hfree := rfl); intro _; exact do_move rfl; exact rfl
      rw [← edk]
      refine sd_J [(0, .slice q t.length c), (1, .slice (some ⟨b1, o1, none⟩) l.length d), (6, .slice (some ⟨nb H 0, 0, none⟩) l.length l.length), (7, .slice (some ⟨nb H 1, 0, none⟩) l.length l.length), (8, I n), (9, I i), (10, I k), (54, .bool Y)] (h := ext H H.fresh L) ?_ ?_
      · refine sd_gsplit rfl rfl (fun u => ?_) (fun u => ?_)
        · have u : (!dk) = true := u
          apply sd_guard (hfree := rfl) (hg := rfl) (hl := rfl); intro _; exact do_move rfl; exact rfl
          apply sd_guard (hfree := rfl) (hg := rfl) (hl := rfl); intro _; exact do_binInt rfl rfl rfl trivial; exact rfl
          apply sd_guard (hfree := rfl) (hg := rfl) (hl := rfl); intro _; exact do_move rfl; exact rfl
          refine sd_gsplit rfl rfl (fun u2 => ?_) (fun u2 => ?_)
          · have u2 : decide (i < 0) = true := u2
            have e2 : Y = true := by rw [hY, u, u2]; rfl
            rw [e2]
            iterate 11 (apply sd_passed (hg := rfl) (hl := rfl) (hb := rfl); exact rfl)
            apply sd_guard (hfree := rfl) (hg := rfl) (hl := rfl); intro _; exact do_pick_t rfl rfl; exact rfl
            apply sd_plain (hfree := rfl); intro _; exact do_pick_t rfl rfl; exact rfl
            apply sd_nil
            simp only [List.map_nil, List.append_nil]
            exact jp_of (by repeat (first | exact sub_nil | apply sub_cons rfl))
          · have u2 : decide (i < 0) = false := u2
            rcases hI with ⟨e, _⟩ | ⟨p, rfl, hpk, _, _⟩
            · rw [e] at u2; simp at u2
            have hpl : p < l.length := by omega
            have e2 : Y = decide (l[k].frm < l[p].frm) := by rw [hY, u, u2, Int.toNat_natCast, frmI_at h2, frmI_at hpl]; rfl
            rw [e2]
            iterate 2 (apply sd_guard (hfree := rfl) (hg := rfl) (hl := rfl); intro _; exact do_move rfl; exact rfl)
            apply sd_guard (hfree := rfl) (hg := rfl) (hl := rfl); intro _; exact do_indexAddrS rfl rfl rfl (by exact idx_nat (by omega)); exact rfl
            apply sd_guard (hfree := rfl) (hg := rfl) (hl := rfl); intro _; exact do_fieldAddr rfl rfl; exact rfl
            apply sd_guardL (hfree := rfl) (hg := rfl) (hl := rfl); exact do_load rfl (by exact ext_get_old (by assumption) (by assumption)) rfl (by exact pt_sl1 (by assumption) (by omega) (Nat.le_of_ble_eq_true rfl) rfl); exact rfl
            iterate 2 (apply sd_guard (hfree := rfl) (hg := rfl) (hl := rfl); intro _; exact do_move rfl; exact rfl)
            apply sd_guard (hfree := rfl) (hg := rfl) (hl := rfl); intro _; exact do_indexAddrS rfl rfl rfl (by exact idx_nat (by omega)); exact rfl
            apply sd_guard (hfree := rfl) (hg := rfl) (hl := rfl); intro _; exact do_fieldAddr rfl rfl; exact rfl
            apply sd_guardL (hfree := rfl) (hg := rfl) (hl := rfl); exact do_load rfl (by exact ext_get_old (by assumption) (by assumption)) rfl (by exact pt_sl1 (by assumption) (by omega) (Nat.le_of_ble_eq_true rfl) rfl); exact rfl
            apply sd_guard (hfree := rfl) (hg := rfl) (hl := rfl); intro _; exact do_binInt rfl rfl rfl trivial; exact rfl
            apply sd_guard (hfree := rfl) (hg := rfl) (hl := rfl); intro _; exact do_pick_f rfl rfl; exact rfl
            apply sd_plain (hfree := rfl); intro _; exact do_pick_t rfl rfl; exact rfl
            apply sd_nil
            simp only [List.map_nil, List.append_nil]
            exact jp_of (by repeat (first | exact sub_nil | apply sub_cons rfl))
        · have u : (!dk) = false := u
          have e2 : Y = false := by rw [hY, u]; rfl
          rw [e2]
          iterate 3 (apply sd_passed (hg := rfl) (hl := rfl) (hb := rfl); exact rfl)
          iterate 11 (apply sd_passedU (hg := rfl) (hl := rfl); exact rfl)
          apply sd_passed (hg := rfl) (hl := rfl) (hb := rfl); exact rfl
          apply sd_plain (hfree := rfl); intro _; exact do_pick_f rfl rfl; exact rfl
          apply sd_nil
          simp only [List.map_nil, List.append_nil]
          exact jp_of (by repeat (first | exact sub_nil | apply sub_cons rfl))
      refine ct_cond rfl (fun u => ?_) (fun u => ?_)
      · have u : Y = true := u
        rw [hY, Bool.and_eq_true, Bool.or_eq_true, decide_eq_true_eq, decide_eq_true_eq, Bool.not_eq_true'] at u
        have hkS : k ∉ S := by
          have := hdk.symm.trans u.1
          exact of_decide_eq_false this
        apply ct_region
        apply seq_plain; exact do_move rfl; exact rfl
        apply seq_plain; exact do_assign rfl; exact rfl
        apply seq_nil
        apply ct_region
        apply seq_plain; exact do_move rfl; exact rfl
        apply seq_plain; exact do_succ rfl (by omega); exact rfl
        apply seq_plain; exact do_assign rfl; exact rfl
        apply seq_nil
        exact lt_to (by repeat (first | exact sub_nil | apply sub_cons rfl)) (.refl _) (ih2' (k + 1) (k : Int) (by omega) (by omega) (sel_take hI hkS u.2))
      · have u : Y = false := u
        apply ct_skip
        apply ct_region
        apply seq_plain; exact do_move rfl; exact rfl
        apply seq_plain; exact do_succ rfl (by omega); exact rfl
        apply seq_plain; exact do_assign rfl; exact rfl
        apply seq_nil
        refine lt_to (by repeat (first | exact sub_nil | apply sub_cons rfl)) (.refl _) (ih2' (k + 1) i (by omega) (by omega) ?_)
        by_cases hkS : k ∈ S
        · exact sel_done hI hkS
        · refine sel_keep hI hkS fun hx => ?_
          rw [hY, hdk, decide_eq_false hkS] at u
          simp only [Bool.not_false, Bool.true_and, Bool.or_eq_false_iff, decide_eq_false_iff_not] at u
          rcases hx with hx | hx
          · exact u.1 hx
          · exact u.2 hx
    have h2 : k = l.length := by simp at h2; omega
    subst h2
    clear ih2' hk
    rw [hS] at hI
    have ei := sel_next hI hno
    have hp := ordL_lt hno
    have hfail := AsI.fail hR.asi hno ok.ok
    have hstep := fun k hk h1 h2 => hR.step (k := k) hno ok.ok hk h1 h2
    have hocc := fun (k m : Nat) (hm : m < l.length) (hD : m < D.length) (hO : m < O.length) => hR.occ (k := k) hm hD hO
    obtain ⟨p, epp⟩ : ∃ p, p = (ordL l)[n] := ⟨_, rfl⟩
    obtain ⟨A, hA⟩ : ∃ A, A = asgA t l n := ⟨_, rfl⟩
    simp only [← epp] at ei hp hfail hstep
    simp only [← hA] at hfail hstep hocc
    subst ei
    clear hI
    apply ct_exit
    apply exit_eq; exact rfl
    apply ct_seq
    apply ct_region
    apply seq_plain; exact do_assign rfl; exact rfl
    apply seq_nil
    iterate 2 (apply ct_seq)
    apply ct_region
    apply seq_plain; exact do_assign rfl; exact rfl
    apply seq_nil
    apply ct_block
    apply ct_loop
    refine lt_meas (α := Nat × Bool × List Int × List (Option ABlk)) (fun a => [(0, .slice q t.length c), (1, .slice (some ⟨b1, o1, none⟩) l.length d), (6, .slice (some ⟨nb H 0, 0, none⟩) l.length l.length), (7, .slice (some ⟨nb H 1, 0, none⟩) l.length l.length), (8, I n), (9, I p), (11, .bool a.2.1), (12, I a.1)]) (fun a => ext H H.fresh a.2.2.2) (fun a => a.1 ≤ t.length ∧ FndI t l A l[p] O p a.1 a.2.1 a.2.2.1 ∧ a.2.2.2[0]? = some (some (.cells (a.2.2.1.map I) 1 false false)) ∧ a.2.2.2[1]? = some (some (.cells (D.map Value.bool) 1 false false))) (fun a => t.length - a.1) (fun a ha ih3 => ?_) (0, false, O, L) ⟨Nat.zero_le _, FndI.zero, l0, l1⟩ (by repeat (first | exact sub_nil | apply sub_cons rfl)) (.refl _)
    clear l0 l1
    clear L
    obtain ⟨k, f, O1, L⟩ := a
    obtain ⟨hk, hF, l0, l1⟩ := ha
    simp only at hk hF l0 l1 ih3 ⊢
    have ih3' := fun k' f' O' L' a1 a2 a3 a4 a5 => ih3 (k', f', O', L') a1 ⟨a2, a3, a4, a5⟩
    simp only at ih3'
    clear ih3
    obtain ⟨Z, hZ⟩ : ∃ Z, Z = (decide ((k : Int) < t.length) && !f) := ⟨_, rfl⟩
    iterate 2 (apply ct_seq)
    apply ct_region
    iterate 2 (apply seq_plain; exact do_move rfl; exact rfl)
    apply seq_plain; exact do_lenS rfl rfl rfl; exact rfl
    apply seq_plain; exact do_binInt rfl rfl rfl trivial; exact rfl
    apply seq_plain; exact do_move rfl; exact rfl
    refine seq_J [(0, .slice q t.length c), (1, .slice (some ⟨b1, o1, none⟩) l.length d), (6, .slice (some ⟨nb H 0, 0, none⟩) l.length l.length), (7, .slice (some ⟨nb H 1, 0, none⟩) l.length l.length), (8, I n), (9, I p), (11, .bool f), (12, I k), (63, .bool Z)] (ds := []) (h := ext H H.fresh L) ?_ ?_
    · refine seq_gsplit rfl rfl (fun u => ?_) (fun u => ?_)
      · have u : decide ((k : Int) < t.length) = true := u
        have e2 : Z = !f := by rw [hZ, u]; rfl
        rw [e2]
        apply seq_guard (hd := rfl) (hl := rfl); exact do_move rfl; exact rfl
        apply seq_guard (hd := rfl) (hl := rfl); exact do_unOp rfl rfl; exact rfl
        apply seq_plain; exact do_pick_t rfl rfl; exact rfl
        apply seq_nil
        exact jp_of (by repeat (first | exact sub_nil | apply sub_cons rfl))
      · have u : decide ((k : Int) < t.length) = false := u
        have e2 : Z = false := by rw [hZ, u]; rfl
        rw [e2]
        iterate 2 (apply seq_passed (hd := rfl) (hl := rfl) (hb := rfl); exact rfl)
        apply seq_plain; exact do_pick_f rfl rfl; exact rfl
        apply seq_nil
        exact jp_of (by repeat (first | exact sub_nil | apply sub_cons rfl))
    refine ct_cond rfl (fun h3 => ?_) (fun h3 => ?_)
    · have h3 : Z = true := h3
      rw [hZ, Bool.and_eq_true, decide_eq_true_eq, Int.ofNat_lt, Bool.not_eq_true'] at h3
      obtain ⟨hkt, rfl⟩ := h3
      obtain rfl : O1 = O := (hF.no rfl).1
      obtain ⟨b4, o4, cs4, z4, st4, ro4, rfl, hg4, hw4⟩ := hs.out (by intro e; rw [e] at hkt; simp at hkt)
      have hz := freeP_zero (t := t) (l := l) (a := A) (b := l[p]) hkt
      apply ct_skip
      apply ct_seq
      apply ct_block
      apply ct_seq
      apply ct_draw (by assumption); decide +kernel
      iterate 2 (apply sd_plain (hfree := rfl); intro _; exact do_move rfl; exact rfl)
      apply sd_plain (hfree := rfl); intro _; exact do_indexAddrS rfl rfl rfl (by exact idx_nat (by omega)); exact rfl
      apply sd_plain (hfree := rfl); intro _; exact do_fieldAddr rfl rfl; exact rfl
      apply sd_look (hfree := rfl); exact do_load rfl (by exact ext_get_old (by assumption) (by assumption)) rfl (by exact pt_sl1 (by assumption) (by omega) (Nat.le_of_ble_eq_true rfl) rfl); exact rfl
      iterate 2 (apply sd_plain (hfree := rfl); intro _; exact do_move rfl; exact rfl)
      apply sd_plain (hfree := rfl); intro _; exact do_indexAddrS rfl rfl rfl (by exact idx_nat (by omega)); exact rfl
      apply sd_plain (hfree := rfl); intro _; exact do_fieldAddr rfl rfl; exact rfl
      apply sd_look (hfree := rfl); exact do_load rfl (by exact ext_get_old (by assumption) (by assumption)) rfl (by exact pt_sl1 (by assumption) (by omega) (Nat.le_of_ble_eq_true rfl) rfl); exact rfl
      apply sd_plain (hfree := rfl); intro _; exact do_binStr rfl rfl rfl; exact rfl
      apply sd_plain (hfree := rfl); intro _; exact do_assign rfl; exact rfl
      apply sd_nil
      iterate 2 (apply ct_seq)
      apply ct_region
      apply seq_plain; exact do_assign rfl; exact rfl
      apply seq_nil
      apply ct_block
      apply ct_loop
      simp only [List.map_nil, List.append_nil, bytes_eq]
      rw [← hz]
      skip
      refine lt_meas (α := Nat) (fun m => [(0, .slice (some ⟨b4, o4, none⟩) t.length c), (1, .slice (some ⟨b1, o1, none⟩) l.length d), (6, .slice (some ⟨nb H 0, 0, none⟩) l.length l.length), (7, .slice (some ⟨nb H 1, 0, none⟩) l.length l.length), (8, I n), (9, I p), (11, .bool false), (12, I k), (13, .bool (freeP t l A l[p] k m)), (14, I m)]) (fun _ => ext H H.fresh L) (fun m => m ≤ l.length) (fun m => l.length - m) (fun m hm2 ih4 => ?_) 0 (Nat.zero_le _) (by repeat (first | exact sub_nil | apply sub_cons rfl)) (.refl _)
      iterate 2 (apply ct_seq)
      apply ct_region
      iterate 2 (apply seq_plain; exact do_move rfl; exact rfl)
      apply seq_plain; exact do_lenS rfl rfl rfl; exact rfl
      apply seq_plain; exact do_binInt rfl rfl rfl trivial; exact rfl
      apply seq_nil
      refine ct_cond rfl (fun h4 => ?_) (fun h4 => ?_)
      · simp only [decide_eq_true_eq, Int.ofNat_lt] at h4
        have hmD : m < D.length := by omega
        have hmO : m < O1.length := by omega
        have e4 : freeP t l A l[p] k (m + 1) = (freeP t l A l[p] k m && !((D[m] && (O1[m] == (k : Int))) && meetB l[m] l[p])) := by
          rw [freeP_succ h4, hocc k m h4 hmD hmO, meetB_comm]
        obtain ⟨V, hV⟩ : ∃ V, V = freeP t l A l[p] k (m + 1) := ⟨_, rfl⟩
        have ih5 := ih4 (m + 1) (by omega) (by omega)
        rw [← hV] at e4 ih5
        clear hV ih4
        obtain ⟨F, hFd⟩ : ∃ F, F = freeP t l A l[p] k m := ⟨_, rfl⟩
        obtain ⟨dm, edm⟩ : ∃ dm, dm = D[m] := ⟨_, rfl⟩
        obtain ⟨om, eom⟩ : ∃ om, om = O1[m] := ⟨_, rfl⟩
        rw [← hFd] at e4 ⊢
        rw [← edm, ← eom] at e4
        apply ct_skip
        apply ct_seq
        apply ct_block
        apply ct_draw (by assumption); decide +kernel
        iterate 2 (apply sd_plain (hfree := rfl); intro _; exact do_move rfl; exact rfl)
        refine sd_J [(0, .slice (some ⟨b4, o4, none⟩) t.length c), (1, .slice (some ⟨b1, o1, none⟩) l.length d), (6, .slice (some ⟨nb H 0, 0, none⟩) l.length l.length), (7, .slice (some ⟨nb H 1, 0, none⟩) l.length l.length), (8, I n), (9, I p), (11, .bool false), (12, I k), (13, .bool V), (14, I m)] (h := ext H H.fresh L) ?_ ?_
        · refine sd_gsplit rfl rfl (fun u => ?_) (fun u => ?_)
          · have u : F = true := u
            rw [u] at e4
            iterate 2 (apply sd_guard (hfree := rfl) (hg := rfl) (hl := rfl); intro _; exact do_move rfl; exact rfl)
            apply sd_guard (hfree := rfl) (hg := rfl) (hl := rfl); intro _; exact do_indexAddrS rfl rfl rfl (by exact idx_nat (by omega)); exact rfl
            apply sd_guardL (hfree := rfl) (hg := rfl) (hl := rfl); exact do_load rfl (by exact ext_get_new (getApp (by assumption))) rfl (by exact pt_map (by omega)); exact rfl
            apply sd_guard (hfree := rfl) (hg := rfl) (hl := rfl); intro _; exact do_move rfl; exact rfl
            rw [← edm]
            refine sd_gsplit rfl rfl (fun u2 => ?_) (fun u2 => ?_)
            · have u2 : dm = true := u2
              rw [u2] at e4
              iterate 2 (apply sd_guard (hfree := rfl) (hg := rfl) (hl := rfl); intro _; exact do_move rfl; exact rfl)
              apply sd_guard (hfree := rfl) (hg := rfl) (hl := rfl); intro _; exact do_indexAddrS rfl rfl rfl (by exact idx_nat (by omega)); exact rfl
              apply sd_guardL (hfree := rfl) (hg := rfl) (hl := rfl); exact do_load rfl (by exact ext_get_new (getApp (by assumption))) rfl (by exact pt_map (by omega)); exact rfl
              apply sd_guard (hfree := rfl) (hg := rfl) (hl := rfl); intro _; exact do_move rfl; exact rfl
              apply sd_guard (hfree := rfl) (hg := rfl) (hl := rfl); intro _; exact do_binInt rfl rfl rfl trivial; exact rfl
              apply sd_guard (hfree := rfl) (hg := rfl) (hl := rfl); intro _; exact do_pick_t rfl rfl; exact rfl
              apply sd_guard (hfree := rfl) (hg := rfl) (hl := rfl); intro _; exact do_move rfl; exact rfl
              rw [← eom]
              refine sd_gsplit rfl rfl (fun u3 => ?_) (fun u3 => ?_)
              · have u3 : (om == (k : Int)) = true := u3
                rw [u3] at e4
                have e4 : V = !meetB l[m] l[p] := e4
                rw [e4]
                iterate 2 (apply sd_guard (hfree := rfl) (hg := rfl) (hl := rfl); intro _; exact do_move rfl; exact rfl)
                apply sd_guard (hfree := rfl) (hg := rfl) (hl := rfl); intro _; exact do_indexAddrS rfl rfl rfl (by exact idx_nat (by omega)); exact rfl
                apply sd_guardL (hfree := rfl) (hg := rfl) (hl := rfl); exact do_load rfl (by exact ext_get_old (by assumption) (by assumption)) rfl (by exact pt_sl (by assumption) (by omega)); exact rfl
                iterate 2 (apply sd_guard (hfree := rfl) (hg := rfl) (hl := rfl); intro _; exact do_move rfl; exact rfl)
                apply sd_guard (hfree := rfl) (hg := rfl) (hl := rfl); intro _; exact do_indexAddrS rfl rfl rfl (by exact idx_nat (by omega)); exact rfl
                apply sd_guardL (hfree := rfl) (hg := rfl) (hl := rfl); exact do_load rfl (by exact ext_get_old (by assumption) (by assumption)) rfl (by exact pt_sl (by assumption) (by omega)); exact rfl
                apply sd_gcall (hg := rfl) (hl := rfl) (ht := rfl); exact overlap_c; exact rfl
                apply sd_guard (hfree := rfl) (hg := rfl) (hl := rfl); intro _; exact do_pick_t rfl rfl; exact rfl
                apply sd_guard (hfree := rfl) (hg := rfl) (hl := rfl); intro _; exact do_unOp rfl rfl; exact rfl
                apply sd_plain (hfree := rfl); intro _; exact do_pick_t rfl rfl; exact rfl
                apply sd_plain (hfree := rfl); intro _; exact do_assign rfl; exact rfl
                apply sd_nil
                simp only [List.map_nil, List.append_nil]
                exact jp_of (by repeat (first | exact sub_nil | apply sub_cons rfl))
              · have u3 : (om == (k : Int)) = false := u3
                rw [u3] at e4
                have e4 : V = true := e4
                rw [e4]
                iterate 9 (apply sd_passed (hg := rfl) (hl := rfl) (hb := rfl); exact rfl)
                apply sd_guard (hfree := rfl) (hg := rfl) (hl := rfl); intro _; exact do_pick_f rfl rfl; exact rfl
                apply sd_guard (hfree := rfl) (hg := rfl) (hl := rfl); intro _; exact do_unOp rfl rfl; exact rfl
                apply sd_plain (hfree := rfl); intro _; exact do_pick_t rfl rfl; exact rfl
                apply sd_plain (hfree := rfl); intro _; exact do_assign rfl; exact rfl
                apply sd_nil
                simp only [List.map_nil, List.append_nil]
                exact jp_of (by repeat (first | exact sub_nil | apply sub_cons rfl))
            · have u2 : dm = false := u2
              rw [u2] at e4
              have e4 : V = true := e4
              rw [e4]
              iterate 6 (apply sd_passed (hg := rfl) (hl := rfl) (hb := rfl); exact rfl)
              apply sd_guard (hfree := rfl) (hg := rfl) (hl := rfl); intro _; exact do_pick_f rfl rfl; exact rfl
              apply sd_guard (hfree := rfl) (hg := rfl) (hl := rfl); intro _; exact do_move rfl; exact rfl
              iterate 9 (apply sd_passed (hg := rfl) (hl := rfl) (hb := rfl); exact rfl)
              apply sd_guard (hfree := rfl) (hg := rfl) (hl := rfl); intro _; exact do_pick_f rfl rfl; exact rfl
              apply sd_guard (hfree := rfl) (hg := rfl) (hl := rfl); intro _; exact do_unOp rfl rfl; exact rfl
              apply sd_plain (hfree := rfl); intro _; exact do_pick_t rfl rfl; exact rfl
              apply sd_plain (hfree := rfl); intro _; exact do_assign rfl; exact rfl
              apply sd_nil
              simp only [List.map_nil, List.append_nil]
              exact jp_of (by repeat (first | exact sub_nil | apply sub_cons rfl))
          · have u : F = false := u
            rw [u] at e4
            have e4 : V = false := e4
            rw [e4]
            iterate 5 (apply sd_passed (hg := rfl) (hl := rfl) (hb := rfl); exact rfl)
            iterate 6 (apply sd_passedU (hg := rfl) (hl := rfl); exact rfl)
            iterate 2 (apply sd_passed (hg := rfl) (hl := rfl) (hb := rfl); exact rfl)
            iterate 9 (apply sd_passedU (hg := rfl) (hl := rfl); exact rfl)
            iterate 2 (apply sd_passed (hg := rfl) (hl := rfl) (hb := rfl); exact rfl)
            apply sd_plain (hfree := rfl); intro _; exact do_pick_f rfl rfl; exact rfl
            apply sd_plain (hfree := rfl); intro _; exact do_assign rfl; exact rfl
            apply sd_nil
            simp only [List.map_nil, List.append_nil]
            exact jp_of (by repeat (first | exact sub_nil | apply sub_cons rfl))
        apply ct_region
        apply seq_plain; exact do_move rfl; exact rfl
        apply seq_plain; exact do_succ rfl (by omega); exact rfl
        apply seq_plain; exact do_assign rfl; exact rfl
        apply seq_nil
        exact lt_to (by repeat (first | exact sub_nil | apply sub_cons rfl)) (.refl _) ih5
      have h4 : m = l.length := by simp at h4; omega
      rw [h4, freeP_all]
      clear ih4 hz
      apply ct_exit
      apply exit_eq; exact rfl
      apply ct_seq
      apply ct_region
      apply seq_plain; exact do_move rfl; exact rfl
      apply seq_nil
      refine ct_cond rfl (fun h5 => ?_) (fun h5 => ?_)
      · have h5 : freeK t l A l[p] k = true := h5
        have hpO : p < O1.length := by omega
        apply ct_region
        iterate 3 (apply seq_plain; exact do_move rfl; exact rfl)
        apply seq_plain; exact do_indexAddrS rfl rfl rfl (by exact idx_nat (by omega)); exact rfl
        refine seq_putQ (k := 0) hc (List.getElem?_eq_some_iff.1 l0).1 (do_store rfl rfl (ext_get_new l0) rfl (stl_map (g := I) (v := (k : Int)) hpO rfl rfl) (nb_own _)) (fun M hl2 ho2 hk2 => ?_)
        apply seq_plain; exact do_assign rfl; exact rfl
        apply seq_nil
        apply ct_region
        apply seq_plain; exact do_move rfl; exact rfl
        apply seq_plain; exact do_succ rfl (by omega); exact rfl
        apply seq_plain; exact do_assign rfl; exact rfl
        apply seq_nil
        exact lt_to (by repeat (first | exact sub_nil | apply sub_cons rfl)) (.refl _) (ih3' (k + 1) true (O1.set p (k : Int)) M (by omega) (by omega) (hF.hit hkt h5) hk2 (by rw [ho2 1 (by decide)]; exact l1))
      · have h5 : freeK t l A l[p] k = false := h5
        apply ct_skip
        apply ct_region
        apply seq_plain; exact do_move rfl; exact rfl
        apply seq_plain; exact do_succ rfl (by omega); exact rfl
        apply seq_plain; exact do_assign rfl; exact rfl
        apply seq_nil
        exact lt_to (by repeat (first | exact sub_nil | apply sub_cons rfl)) (.refl _) (ih3' (k + 1) false O1 L (by omega) (by omega) (hF.miss h5) l0 l1)
    have h3 : Z = false := h3
    clear ih3'
    apply ct_exit
    apply exit_eq; exact rfl
    iterate 2 (apply ct_seq)
    apply ct_region
    apply seq_plain; exact do_move rfl; exact rfl
    apply seq_plain; exact do_unOp rfl rfl; exact rfl
    apply seq_nil
    cases f with
    | false =>
      have hkt : k = t.length := by
        rw [hZ] at h3
        simp at h3; omega
      have hfb : fitB t l = false := by
        have := hfail (fun j hj => (hF.no rfl).2 j (by omega))
        cases e : fitB t l
        · rfl
        · exact absurd (ok.fit.1 e) this
      have e1 : refAV H t l = .tuple ⟨[.slice none 0 0, .bool false]⟩ := by unfold refAV; rw [hfb]; rfl
      have e2 : refAH H t l = H := by unfold refAH; rw [hfb]; rfl
      rw [e1, e2]
      refine ct_cond_t rfl rfl ?_
      apply ct_seq
      apply ct_region
      iterate 2 (apply seq_plain; exact do_assign rfl; exact rfl)
      apply seq_nil
      apply ct_ret
      exact fin_flat hc rfl rfl ⟨rfl, rfl⟩
    | true =>
      obtain ⟨m, hm1, hm2, hm3, rfl⟩ := hF.yes rfl
      have hpD : p < D.length := by omega
      refine ct_cond_f rfl rfl ?_
      apply ct_skip
      apply ct_region
      iterate 2 (apply seq_plain; exact do_move rfl; exact rfl)
      apply seq_plain; exact do_indexAddrS rfl rfl rfl (by exact idx_nat (by omega)); exact rfl
      refine seq_putQC (k := 1) hc (List.getElem?_eq_some_iff.1 l1).1 (do_store rfl rfl (ext_get_new l1) rfl (stl_map (g := Value.bool) (v := true) hpD rfl rfl) (nb_own _)) (fun M hl2 ho2 hk2 => ?_)
      apply ct_region
      apply seq_plain; exact do_move rfl; exact rfl
      apply seq_plain; exact do_succ rfl (by omega); exact rfl
      apply seq_plain; exact do_assign rfl; exact rfl
      apply seq_nil
      exact lt_to (by repeat (first | exact sub_nil | apply sub_cons rfl)) (.refl _) (ih' (n + 1) (O.set p (m : Int)) (D.set p true) M (by omega) (by omega) (hstep m hm1 hm2 hm3) (by rw [ho2 0 (by decide)]; exact l0) hk2)
  have h1 : n = l.length := by simp at h1; omega
  subst h1
  obtain ⟨rfl, hP⟩ := hR.all
  have hfb : fitB t l = true := ok.fit.2 hP.fit
  have e1 : refAV H t l = .tuple ⟨[.slice (some ⟨H.fresh, 0, none⟩) l.length l.length, .bool true]⟩ := by unfold refAV; rw [hfb]; rfl
  have e2 : refAH H t l = H.add (.cells ((asgV t l).map I) 1 false false) := by unfold refAH; rw [hfb]; rfl
  rw [e1, e2]
  apply ct_exit
  apply exit_eq; exact rfl
  apply ct_seq
  apply ct_region
  apply seq_plain; exact do_move rfl; exact rfl
  iterate 2 (apply seq_plain; exact do_assign rfl; exact rfl)
  apply seq_nil
  apply ct_ret
  refine fin_one hc rfl l0 (in_flat _) (v := .tuple ⟨[.slice (some ⟨H.fresh, 0, none⟩) l.length l.length, .bool true]⟩) ?_ ⟨rfl, rfl⟩
  simp [packA, renV, renL, renOf_one (H := H) ⟨own_iff.1 (nb_own 0), nb_ge 0⟩]
end Go.Proofs.YtflbffhahoblfaaGreatDoor
