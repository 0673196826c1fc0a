/- Contract: what is short enough for the reference. -/
import Derived.Test.YtmcecjplgalcgaaGreatDoorAsC
noncomputable section
namespace Go.Proofs.YtmcecjplgalcgaaGreatDoor
open Go Go.Den
set_option maxRecDepth 100000
def longB (a b : ByteArray) : Bool := decide ((a.size : Int) > 40) || decide ((b.size : Int) > 40)
def shortH (t : List Tb) (l : List Bk) (r : List Rq) : Bool := ((t.take 65).all fun x => !longB x.name x.kind) && (((l.take 257).all fun x => !longB x.name x.kind) && (((r.take 257).all fun x => !longB x.name x.kind) && (decide ((t.length : Int) ≤ 67) && (decide ((l.length : Int) ≤ 259) && decide ((r.length : Int) ≤ 259)))))
theorem all_bad {α : Type} {l : List α} {p : α → Bool} {n i : Nat} (h : i < l.length) (hn : i < n) (hp : p l[i] = false) : (l.take n).all p = false := by
 rw [List.all_eq_false]
 refine ⟨l[i], ?_, by simp [hp]⟩
 rw [List.mem_take_iff_getElem]
 exact ⟨i, by omega, rfl⟩
theorem all_good {α : Type} {l : List α} {p : α → Bool} {n : Nat} (h : ∀ j (hj : j < l.length), j < min l.length n → p l[j] = true) : (l.take n).all p = true := by
 rw [List.all_eq_true]
 intro x hx
 rw [List.mem_take_iff_getElem] at hx
 obtain ⟨j, hj, rfl⟩ := hx
 exact h j (by omega) (by omega)
set_option maxHeartbeats 8000000 in
theorem short_c {H : AHeap} {q p u : Option Addr} {c d e : Nat} {t : List Tb} {l : List Bk} {r : List Rq} (hs : SlAt H 2 tb q t) (hn : t.length < 1000000000) (hp : SlAt H 4 bk p l) (hm : l.length < 1000000000) (hu : SlAt H 4 rq u r) (hk : r.length < 1000000000) :
  Ret Tryz.prog 6 [.slice q t.length c, .slice p l.length d, .slice u r.length e] H (.bool (shortH t l r)) H := by
 refine fn_start Tryz.func6 rfl rfl rfl fun hc => ?_
 apply ct_seq
 apply ct_region
 apply seq_plain; exact do_assign rfl; exact rfl
 apply seq_nil
 iterate 2 (apply ct_seq)
 apply ct_region
 apply seq_plain; exact do_assign rfl; exact rfl
 apply seq_nil
 apply ct_block
 apply ct_loop
 refine lt_up (fun i => [(0, .slice q t.length c), (1, .slice p l.length d), (2, .slice u r.length e), (7, I i)]) (fun i => ∀ j (hj : j < t.length), j < i → longB t[j].name t[j].kind = false) (min t.length 65) (fun i hi hJ ih => ?_) 0 (by omega) (by intros; omega) (by repeat (first | exact sub_nil | apply sub_cons rfl))
 iterate 2 (apply ct_seq)
 apply ct_region
 iterate 2 (apply seq_plain; exact do_move rfl; exact rfl)
 apply seq_plain; exact do_lenS rfl rfl rfl; exact rfl
 apply seq_plain; exact do_binInt rfl rfl rfl trivial; exact rfl
 apply seq_plain; exact do_move rfl; exact rfl
 refine seq_J [(0, .slice q t.length c), (1, .slice p l.length d), (2, .slice u r.length e), (7, I i), (17, .bool (decide (i < t.length ∧ i ≤ 64)))] (ds := []) (h := ext H H.fresh []) ?_ ?_
 ·refine seq_gsplit rfl rfl (fun u1 => ?_) (fun u1 => ?_)
  ·have u1' : (i : Int) < t.length := of_decide_eq_true u1
   have e1 : decide (i < t.length ∧ i ≤ 64) = decide ((i : Int) ≤ 64) := by apply decide_eq_decide.2; omega
   rw [e1]
   apply seq_guard (hd := rfl) (hl := rfl); exact do_move rfl; exact rfl
   apply seq_guard (hd := rfl) (hl := rfl); exact do_binInt rfl rfl rfl trivial; exact rfl
   apply seq_plain; exact do_pick_t rfl rfl; exact rfl
   apply seq_nil
   exact jp_of (by repeat (first | exact sub_nil | apply sub_cons rfl))
  ·have u1' : ¬ (i : Int) < t.length := of_decide_eq_false u1
   have e1 : decide (i < t.length ∧ i ≤ 64) = false := by apply decide_eq_false; omega
   rw [e1]
   iterate 2 (apply seq_passed (hd := rfl) (hl := rfl) (hb := rfl); exact rfl)
   apply seq_plain; exact do_pick_f rfl rfl; exact rfl
   apply seq_nil
   exact jp_of (by repeat (first | exact sub_nil | apply sub_cons rfl))
 refine ct_cond rfl (fun h1 => ?_) (fun h1 => ?_)
 ·have h1 : i < t.length ∧ i ≤ 64 := of_decide_eq_true h1
  obtain ⟨h1, h1m⟩ := h1
  obtain ⟨b, o, cs, z, s, ro, rfl, hg, hw⟩ := hs.out (by intro e; rw [e] at h1; simp at h1)
  obtain ⟨Z, hZ⟩ : ∃ Z, Z = longB t[i].name t[i].kind := ⟨_, rfl⟩
  apply ct_skip
  apply ct_seq
  apply ct_block
  apply ct_seq
  apply ct_region
  iterate 2 (apply seq_plain; exact do_move rfl; exact rfl)
  apply seq_plain; exact do_indexAddrS rfl rfl rfl (by exact idx_nat (by omega)); exact rfl
  apply seq_plain; exact do_fieldAddr rfl rfl; exact rfl
  apply seq_plain; exact do_load rfl (by exact ext_get_old (by assumption) (by assumption)) rfl (by exact pt_sl1 (by assumption) (by omega) (Nat.le_of_ble_eq_true rfl) rfl); exact rfl
  apply seq_plain; exact do_lenStr rfl rfl rfl; exact rfl
  apply seq_plain; exact do_binInt rfl rfl rfl trivial; exact rfl
  apply seq_plain; exact do_move rfl; exact rfl
  refine seq_J [(0, .slice (some ⟨b, o, none⟩) t.length c), (1, .slice p l.length d), (2, .slice u r.length e), (7, I i), (35, .bool Z)] (ds := []) (h := ext H H.fresh []) ?_ ?_
  ·refine seq_gsplit rfl rfl (fun u1 => ?_) (fun u1 => ?_)
   ·have u1 : decide ((t[i].name.size : Int) > 40) = true := u1
    have e1 : Z = true := by rw [hZ]; unfold longB; rw [u1]; rfl
    rw [e1]
    iterate 7 (apply seq_passed (hd := rfl) (hl := rfl) (hb := rfl); exact rfl)
    apply seq_plain; exact do_pick_t rfl rfl; exact rfl
    apply seq_nil
    exact jp_of (by repeat (first | exact sub_nil | apply sub_cons rfl))
   ·have u1 : decide ((t[i].name.size : Int) > 40) = false := u1
    have e1 : Z = decide ((t[i].kind.size : Int) > 40) := by rw [hZ]; unfold longB; rw [u1]; rfl
    rw [e1]
    iterate 2 (apply seq_guard (hd := rfl) (hl := rfl); exact do_move rfl; exact rfl)
    apply seq_guard (hd := rfl) (hl := rfl); exact do_indexAddrS rfl rfl rfl (by exact idx_nat (by omega)); exact rfl
    apply seq_guard (hd := rfl) (hl := rfl); exact do_fieldAddr rfl rfl; exact rfl
    apply seq_guard (hd := rfl) (hl := rfl); exact do_load rfl (by exact ext_get_old (by assumption) (by assumption)) rfl (by exact pt_sl1 (by assumption) (by omega) (Nat.le_of_ble_eq_true rfl) rfl); exact rfl
    apply seq_guard (hd := rfl) (hl := rfl); exact do_lenStr rfl rfl rfl; exact rfl
    apply seq_guard (hd := rfl) (hl := rfl); exact do_binInt rfl rfl rfl trivial; exact rfl
    apply seq_plain; exact do_pick_f rfl rfl; exact rfl
    apply seq_nil
    exact jp_of (by repeat (first | exact sub_nil | apply sub_cons rfl))
  refine ct_cond rfl (fun h2 => ?_) (fun h2 => ?_)
  ·have bad : ((t.take 65).all fun x => !longB x.name x.kind) = false := all_bad h1 (by omega) (by rw [← hZ, h2]; rfl)
   apply ct_seq
   apply ct_region
   apply seq_plain; exact do_assign rfl; exact rfl
   apply seq_nil
   apply ct_ret
   refine fin_flat hc rfl rfl ⟨?_, rfl⟩
   have e : shortH t l r = false := by unfold shortH; rw [bad]; rfl
   rw [e]; rfl
  ·apply ct_skip
   apply ct_region
   apply seq_plain; exact do_move rfl; exact rfl
   apply seq_plain; exact do_succ rfl (by omega); exact rfl
   apply seq_plain; exact do_assign rfl; exact rfl
   apply seq_nil
   refine lt_to (by repeat (first | exact sub_nil | apply sub_cons rfl)) (.refl _) (ih (i + 1) (by omega) (by omega) fun j hj hlt => ?_)
   rcases Nat.lt_or_ge j i with h | h
   ·exact hJ j hj h
   ·obtain rfl : j = i := by omega
    rw [← hZ]; exact h2
 have h1 : ¬ (i < t.length ∧ i ≤ 64) := of_decide_eq_false h1
 have h1 : i = min t.length 65 := by omega
 subst h1
 have g0 : ((t.take 65).all fun x => !longB x.name x.kind) = true := all_good fun j hj hlt => by rw [hJ j hj hlt]; rfl
 clear ih hJ hi
 apply ct_exit
 apply exit_eq; exact rfl
 iterate 2 (apply ct_seq)
 apply ct_region
 apply seq_plain; exact do_assign rfl; exact rfl
 apply seq_nil
 apply ct_block
 apply ct_loop
 refine lt_up (fun i => [(0, .slice q t.length c), (1, .slice p l.length d), (2, .slice u r.length e), (8, I i)]) (fun i => ∀ j (hj : j < l.length), j < i → longB l[j].name l[j].kind = false) (min l.length 257) (fun i hi hJ ih => ?_) 0 (by omega) (by intros; omega) (by repeat (first | exact sub_nil | apply sub_cons rfl))
 iterate 2 (apply ct_seq)
 apply ct_region
 iterate 2 (apply seq_plain; exact do_move rfl; exact rfl)
 apply seq_plain; exact do_lenS rfl rfl rfl; exact rfl
 apply seq_plain; exact do_binInt rfl rfl rfl trivial; exact rfl
 apply seq_plain; exact do_move rfl; exact rfl
 refine seq_J [(0, .slice q t.length c), (1, .slice p l.length d), (2, .slice u r.length e), (8, I i), (43, .bool (decide (i < l.length ∧ i ≤ 256)))] (ds := []) (h := ext H H.fresh []) ?_ ?_
 ·refine seq_gsplit rfl rfl (fun u1 => ?_) (fun u1 => ?_)
  ·have u1' : (i : Int) < l.length := of_decide_eq_true u1
   have e1 : decide (i < l.length ∧ i ≤ 256) = decide ((i : Int) ≤ 256) := by apply decide_eq_decide.2; omega
   rw [e1]
   apply seq_guard (hd := rfl) (hl := rfl); exact do_move rfl; exact rfl
   apply seq_guard (hd := rfl) (hl := rfl); exact do_binInt rfl rfl rfl trivial; exact rfl
   apply seq_plain; exact do_pick_t rfl rfl; exact rfl
   apply seq_nil
   exact jp_of (by repeat (first | exact sub_nil | apply sub_cons rfl))
  ·have u1' : ¬ (i : Int) < l.length := of_decide_eq_false u1
   have e1 : decide (i < l.length ∧ i ≤ 256) = false := by apply decide_eq_false; omega
   rw [e1]
   iterate 2 (apply seq_passed (hd := rfl) (hl := rfl) (hb := rfl); exact rfl)
   apply seq_plain; exact do_pick_f rfl rfl; exact rfl
   apply seq_nil
   exact jp_of (by repeat (first | exact sub_nil | apply sub_cons rfl))
 refine ct_cond rfl (fun h1 => ?_) (fun h1 => ?_)
 ·have h1 : i < l.length ∧ i ≤ 256 := of_decide_eq_true h1
  obtain ⟨h1, h1m⟩ := h1
  obtain ⟨b, o, cs, z, s, ro, rfl, hg, hw⟩ := hp.out (by intro e; rw [e] at h1; simp at h1)
  obtain ⟨Z, hZ⟩ : ∃ Z, Z = longB l[i].name l[i].kind := ⟨_, rfl⟩
  apply ct_skip
  apply ct_seq
  apply ct_block
  apply ct_seq
  apply ct_region
  iterate 2 (apply seq_plain; exact do_move rfl; exact rfl)
  apply seq_plain; exact do_indexAddrS rfl rfl rfl (by exact idx_nat (by omega)); exact rfl
  apply seq_plain; exact do_fieldAddr rfl rfl; exact rfl
  apply seq_plain; exact do_load rfl (by exact ext_get_old (by assumption) (by assumption)) rfl (by exact pt_sl1 (by assumption) (by omega) (Nat.le_of_ble_eq_true rfl) rfl); exact rfl
  apply seq_plain; exact do_lenStr rfl rfl rfl; exact rfl
  apply seq_plain; exact do_binInt rfl rfl rfl trivial; exact rfl
  apply seq_plain; exact do_move rfl; exact rfl
  refine seq_J [(0, .slice q t.length c), (1, .slice (some ⟨b, o, none⟩) l.length d), (2, .slice u r.length e), (8, I i), (61, .bool Z)] (ds := []) (h := ext H H.fresh []) ?_ ?_
  ·refine seq_gsplit rfl rfl (fun u1 => ?_) (fun u1 => ?_)
   ·have u1 : decide ((l[i].name.size : Int) > 40) = true := u1
    have e1 : Z = true := by rw [hZ]; unfold longB; rw [u1]; rfl
    rw [e1]
    iterate 7 (apply seq_passed (hd := rfl) (hl := rfl) (hb := rfl); exact rfl)
    apply seq_plain; exact do_pick_t rfl rfl; exact rfl
    apply seq_nil
    exact jp_of (by repeat (first | exact sub_nil | apply sub_cons rfl))
   ·have u1 : decide ((l[i].name.size : Int) > 40) = false := u1
    have e1 : Z = decide ((l[i].kind.size : Int) > 40) := by rw [hZ]; unfold longB; rw [u1]; rfl
    rw [e1]
    iterate 2 (apply seq_guard (hd := rfl) (hl := rfl); exact do_move rfl; exact rfl)
    apply seq_guard (hd := rfl) (hl := rfl); exact do_indexAddrS rfl rfl rfl (by exact idx_nat (by omega)); exact rfl
    apply seq_guard (hd := rfl) (hl := rfl); exact do_fieldAddr rfl rfl; exact rfl
    apply seq_guard (hd := rfl) (hl := rfl); exact do_load rfl (by exact ext_get_old (by assumption) (by assumption)) rfl (by exact pt_sl1 (by assumption) (by omega) (Nat.le_of_ble_eq_true rfl) rfl); exact rfl
    apply seq_guard (hd := rfl) (hl := rfl); exact do_lenStr rfl rfl rfl; exact rfl
    apply seq_guard (hd := rfl) (hl := rfl); exact do_binInt rfl rfl rfl trivial; exact rfl
    apply seq_plain; exact do_pick_f rfl rfl; exact rfl
    apply seq_nil
    exact jp_of (by repeat (first | exact sub_nil | apply sub_cons rfl))
  refine ct_cond rfl (fun h2 => ?_) (fun h2 => ?_)
  ·have bad : ((l.take 257).all fun x => !longB x.name x.kind) = false := all_bad h1 (by omega) (by rw [← hZ, h2]; rfl)
   apply ct_seq
   apply ct_region
   apply seq_plain; exact do_assign rfl; exact rfl
   apply seq_nil
   apply ct_ret
   refine fin_flat hc rfl rfl ⟨?_, rfl⟩
   have e : shortH t l r = false := by unfold shortH; simp [g0, bad]
   rw [e]; rfl
  ·apply ct_skip
   apply ct_region
   apply seq_plain; exact do_move rfl; exact rfl
   apply seq_plain; exact do_succ rfl (by omega); exact rfl
   apply seq_plain; exact do_assign rfl; exact rfl
   apply seq_nil
   refine lt_to (by repeat (first | exact sub_nil | apply sub_cons rfl)) (.refl _) (ih (i + 1) (by omega) (by omega) fun j hj hlt => ?_)
   rcases Nat.lt_or_ge j i with h | h
   ·exact hJ j hj h
   ·obtain rfl : j = i := by omega
    rw [← hZ]; exact h2
 have h1 : ¬ (i < l.length ∧ i ≤ 256) := of_decide_eq_false h1
 have h1 : i = min l.length 257 := by omega
 subst h1
 have g1 : ((l.take 257).all fun x => !longB x.name x.kind) = true := all_good fun j hj hlt => by rw [hJ j hj hlt]; rfl
 clear ih hJ hi
 apply ct_exit
 apply exit_eq; exact rfl
 iterate 2 (apply ct_seq)
 apply ct_region
 apply seq_plain; exact do_assign rfl; exact rfl
 apply seq_nil
 apply ct_block
 apply ct_loop
 refine lt_up (fun i => [(0, .slice q t.length c), (1, .slice p l.length d), (2, .slice u r.length e), (9, I i)]) (fun i => ∀ j (hj : j < r.length), j < i → longB r[j].name r[j].kind = false) (min r.length 257) (fun i hi hJ ih => ?_) 0 (by omega) (by intros; omega) (by repeat (first | exact sub_nil | apply sub_cons rfl))
 iterate 2 (apply ct_seq)
 apply ct_region
 iterate 2 (apply seq_plain; exact do_move rfl; exact rfl)
 apply seq_plain; exact do_lenS rfl rfl rfl; exact rfl
 apply seq_plain; exact do_binInt rfl rfl rfl trivial; exact rfl
 apply seq_plain; exact do_move rfl; exact rfl
 refine seq_J [(0, .slice q t.length c), (1, .slice p l.length d), (2, .slice u r.length e), (9, I i), (69, .bool (decide (i < r.length ∧ i ≤ 256)))] (ds := []) (h := ext H H.fresh []) ?_ ?_
 ·refine seq_gsplit rfl rfl (fun u1 => ?_) (fun u1 => ?_)
  ·have u1' : (i : Int) < r.length := of_decide_eq_true u1
   have e1 : decide (i < r.length ∧ i ≤ 256) = decide ((i : Int) ≤ 256) := by apply decide_eq_decide.2; omega
   rw [e1]
   apply seq_guard (hd := rfl) (hl := rfl); exact do_move rfl; exact rfl
   apply seq_guard (hd := rfl) (hl := rfl); exact do_binInt rfl rfl rfl trivial; exact rfl
   apply seq_plain; exact do_pick_t rfl rfl; exact rfl
   apply seq_nil
   exact jp_of (by repeat (first | exact sub_nil | apply sub_cons rfl))
  ·have u1' : ¬ (i : Int) < r.length := of_decide_eq_false u1
   have e1 : decide (i < r.length ∧ i ≤ 256) = false := by apply decide_eq_false; omega
   rw [e1]
   iterate 2 (apply seq_passed (hd := rfl) (hl := rfl) (hb := rfl); exact rfl)
   apply seq_plain; exact do_pick_f rfl rfl; exact rfl
   apply seq_nil
   exact jp_of (by repeat (first | exact sub_nil | apply sub_cons rfl))
 refine ct_cond rfl (fun h1 => ?_) (fun h1 => ?_)
 ·have h1 : i < r.length ∧ i ≤ 256 := of_decide_eq_true h1
  obtain ⟨h1, h1m⟩ := h1
  obtain ⟨b, o, cs, z, s, ro, rfl, hg, hw⟩ := hu.out (by intro e; rw [e] at h1; simp at h1)
  obtain ⟨Z, hZ⟩ : ∃ Z, Z = longB r[i].name r[i].kind := ⟨_, rfl⟩
  apply ct_skip
  apply ct_seq
  apply ct_block
  apply ct_seq
  apply ct_region
  iterate 2 (apply seq_plain; exact do_move rfl; exact rfl)
  apply seq_plain; exact do_indexAddrS rfl rfl rfl (by exact idx_nat (by omega)); exact rfl
  apply seq_plain; exact do_fieldAddr rfl rfl; exact rfl
  apply seq_plain; exact do_load rfl (by exact ext_get_old (by assumption) (by assumption)) rfl (by exact pt_sl1 (by assumption) (by omega) (Nat.le_of_ble_eq_true rfl) rfl); exact rfl
  apply seq_plain; exact do_lenStr rfl rfl rfl; exact rfl
  apply seq_plain; exact do_binInt rfl rfl rfl trivial; exact rfl
  apply seq_plain; exact do_move rfl; exact rfl
  refine seq_J [(0, .slice q t.length c), (1, .slice p l.length d), (2, .slice (some ⟨b, o, none⟩) r.length e), (9, I i), (87, .bool Z)] (ds := []) (h := ext H H.fresh []) ?_ ?_
  ·refine seq_gsplit rfl rfl (fun u1 => ?_) (fun u1 => ?_)
   ·have u1 : decide ((r[i].name.size : Int) > 40) = true := u1
    have e1 : Z = true := by rw [hZ]; unfold longB; rw [u1]; rfl
    rw [e1]
    iterate 7 (apply seq_passed (hd := rfl) (hl := rfl) (hb := rfl); exact rfl)
    apply seq_plain; exact do_pick_t rfl rfl; exact rfl
    apply seq_nil
    exact jp_of (by repeat (first | exact sub_nil | apply sub_cons rfl))
   ·have u1 : decide ((r[i].name.size : Int) > 40) = false := u1
    have e1 : Z = decide ((r[i].kind.size : Int) > 40) := by rw [hZ]; unfold longB; rw [u1]; rfl
    rw [e1]
    iterate 2 (apply seq_guard (hd := rfl) (hl := rfl); exact do_move rfl; exact rfl)
    apply seq_guard (hd := rfl) (hl := rfl); exact do_indexAddrS rfl rfl rfl (by exact idx_nat (by omega)); exact rfl
    apply seq_guard (hd := rfl) (hl := rfl); exact do_fieldAddr rfl rfl; exact rfl
    apply seq_guard (hd := rfl) (hl := rfl); exact do_load rfl (by exact ext_get_old (by assumption) (by assumption)) rfl (by exact pt_sl1 (by assumption) (by omega) (Nat.le_of_ble_eq_true rfl) rfl); exact rfl
    apply seq_guard (hd := rfl) (hl := rfl); exact do_lenStr rfl rfl rfl; exact rfl
    apply seq_guard (hd := rfl) (hl := rfl); exact do_binInt rfl rfl rfl trivial; exact rfl
    apply seq_plain; exact do_pick_f rfl rfl; exact rfl
    apply seq_nil
    exact jp_of (by repeat (first | exact sub_nil | apply sub_cons rfl))
  refine ct_cond rfl (fun h2 => ?_) (fun h2 => ?_)
  ·have bad : ((r.take 257).all fun x => !longB x.name x.kind) = false := all_bad h1 (by omega) (by rw [← hZ, h2]; rfl)
   apply ct_seq
   apply ct_region
   apply seq_plain; exact do_assign rfl; exact rfl
   apply seq_nil
   apply ct_ret
   refine fin_flat hc rfl rfl ⟨?_, rfl⟩
   have e : shortH t l r = false := by unfold shortH; simp [g0, g1, bad]
   rw [e]; rfl
  ·apply ct_skip
   apply ct_region
   apply seq_plain; exact do_move rfl; exact rfl
   apply seq_plain; exact do_succ rfl (by omega); exact rfl
   apply seq_plain; exact do_assign rfl; exact rfl
   apply seq_nil
   refine lt_to (by repeat (first | exact sub_nil | apply sub_cons rfl)) (.refl _) (ih (i + 1) (by omega) (by omega) fun j hj hlt => ?_)
   rcases Nat.lt_or_ge j i with h | h
   ·exact hJ j hj h
   ·obtain rfl : j = i := by omega
    rw [← hZ]; exact h2
 have h1 : ¬ (i < r.length ∧ i ≤ 256) := of_decide_eq_false h1
 have h1 : i = min r.length 257 := by omega
 subst h1
 have g2 : ((r.take 257).all fun x => !longB x.name x.kind) = true := all_good fun j hj hlt => by rw [hJ j hj hlt]; rfl
 clear ih hJ hi
 have e : shortH t l r = (decide ((t.length : Int) ≤ 67) && (decide ((l.length : Int) ≤ 259) && decide ((r.length : Int) ≤ 259))) := by unfold shortH; rw [g0, g1, g2]; rfl
 rw [e]
 apply ct_exit
 apply exit_eq; exact rfl
 apply ct_seq
 apply ct_region
 apply seq_plain; exact do_move rfl; exact rfl
 apply seq_plain; exact do_lenS rfl rfl rfl; exact rfl
 apply seq_plain; exact do_binInt rfl rfl rfl trivial; exact rfl
 apply seq_plain; exact do_move rfl; exact rfl
 refine seq_gsplit rfl rfl (fun u1 => ?_) (fun u1 => ?_)
 ·have u1 : decide ((t.length : Int) ≤ 67) = true := u1
  rw [u1]
  apply seq_guard (hd := rfl) (hl := rfl); exact do_move rfl; exact rfl
  apply seq_guard (hd := rfl) (hl := rfl); exact do_lenS rfl rfl rfl; exact rfl
  apply seq_guard (hd := rfl) (hl := rfl); exact do_binInt rfl rfl rfl trivial; exact rfl
  apply seq_plain; exact do_pick_t rfl rfl; exact rfl
  apply seq_plain; exact do_move rfl; exact rfl
  refine seq_gsplit rfl rfl (fun u2 => ?_) (fun u2 => ?_)
  ·have u2 : decide ((l.length : Int) ≤ 259) = true := u2
   rw [u2]
   apply seq_guard (hd := rfl) (hl := rfl); exact do_move rfl; exact rfl
   apply seq_guard (hd := rfl) (hl := rfl); exact do_lenS rfl rfl rfl; exact rfl
   apply seq_guard (hd := rfl) (hl := rfl); exact do_binInt rfl rfl rfl trivial; exact rfl
   apply seq_plain; exact do_pick_t rfl rfl; exact rfl
   apply seq_plain; exact do_assign rfl; exact rfl
   apply seq_nil
   apply ct_ret
   exact fin_flat hc rfl rfl ⟨rfl, rfl⟩
  ·have u2 : decide ((l.length : Int) ≤ 259) = false := u2
   rw [u2]
   iterate 3 (apply seq_passed (hd := rfl) (hl := rfl) (hb := rfl); exact rfl)
   apply seq_plain; exact do_pick_f rfl rfl; exact rfl
   apply seq_plain; exact do_assign rfl; exact rfl
   apply seq_nil
   apply ct_ret
   exact fin_flat hc rfl rfl ⟨rfl, rfl⟩
 ·have u1 : decide ((t.length : Int) ≤ 67) = false := u1
  rw [u1]
  iterate 3 (apply seq_passed (hd := rfl) (hl := rfl) (hb := rfl); exact rfl)
  apply seq_plain; exact do_pick_f rfl rfl; exact rfl
  apply seq_plain; exact do_move rfl; exact rfl
  iterate 3 (apply seq_passed (hd := rfl) (hl := rfl) (hb := rfl); exact rfl)
  apply seq_plain; exact do_pick_f rfl rfl; exact rfl
  apply seq_plain; exact do_assign rfl; exact rfl
  apply seq_nil
  apply ct_ret
  exact fin_flat hc rfl rfl ⟨rfl, rfl⟩
end Go.Proofs.YtmcecjplgalcgaaGreatDoor
