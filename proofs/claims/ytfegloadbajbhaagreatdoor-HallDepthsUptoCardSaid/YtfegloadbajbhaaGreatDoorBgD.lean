/- Contracts: the greatest depth and the first kind with too many bookings, as the reference has them. -/
import Derived.Test.YtfegloadbajbhaaGreatDoorBgC
import Derived.Test.YtfegloadbajbhaaGreatDoorHkC
noncomputable section
namespace Go.Proofs.YtfegloadbajbhaaGreatDoor
open Go Go.Den
set_option maxRecDepth 100000
/-- is a beginning better than what was found -/
def rdB (l : List Bk) (k : ByteArray) (a : Int × Int) (x : Bk) : Bool := decide ((cntD l k x.frm : Int) > a.1) || ((decide ((cntD l k x.frm : Int) = a.1) && decide ((cntD l k x.frm : Int) > 0)) && decide (x.frm < a.2))
def rdS (l : List Bk) (k : ByteArray) (a : Int × Int) (x : Bk) : Int × Int := if rdB l k a x = true then ((cntD l k x.frm : Int), x.frm) else a
def rdA (l : List Bk) (k : ByteArray) (i : Nat) : Int × Int := (l.take i).foldl (rdS l k) (0, 0)
theorem rdA_succ {l : List Bk} {k : ByteArray} {i : Nat} (h : i < l.length) : rdA l k (i + 1) = rdS l k (rdA l k i) l[i] := by
  unfold rdA
  rw [take_snoc h, List.foldl_append]; rfl
set_option maxHeartbeats 4000000 in
theorem refDepth_c {H : AHeap} {q : Option Addr} {c : Nat} {l : List Bk} {k : ByteArray} (hs : SlAt H 4 bk q l) (hn : l.length < 1000000000) :
    Ret Tryz.prog 28 [.slice q l.length c, .string k] H (.tuple ⟨[I (rdA l k l.length).1, I (rdA l k l.length).2]⟩) H := by
  refine fn_start Tryz.func28 rfl rfl rfl fun hc => ?_
  apply ct_seq
  apply ct_region
  apply seq_plain; exact do_assign rfl; exact rfl
  apply seq_plain; exact do_assign rfl; exact rfl
  apply seq_nil
  apply ct_seq
  apply ct_region
  apply seq_plain; exact do_assign rfl; exact rfl
  apply seq_plain; exact do_assign rfl; exact rfl
  apply seq_nil
  apply ct_seq
  apply ct_seq
  apply ct_region
  apply seq_plain; exact do_assign rfl; exact rfl
  apply seq_nil
  apply ct_block
  apply ct_loop
  refine lt_up (fun i => [(0, .slice q l.length c), (1, .string k), (6, I (rdA l k i).1), (7, I (rdA l k i).2), (8, I i)]) (fun _ => True) l.length (fun i hi _ ih => ?_) 0 (by omega) trivial (by repeat (first | exact sub_nil | apply sub_cons rfl))
  have hse := hs.ext (ext_Ext (lo := H.fresh) (L := []) hc)
  apply ct_seq
  apply ct_seq
  apply ct_region
  apply seq_plain; exact do_move rfl; exact rfl
  apply seq_plain; exact do_move rfl; exact rfl
  apply seq_plain; exact do_lenS rfl rfl rfl; exact rfl
  apply seq_plain; exact do_binInt rfl rfl rfl trivial; exact rfl
  apply seq_nil
  refine ct_cond rfl (fun h1 => ?_) (fun h1 => ?_)
  · simp only [decide_eq_true_eq, Int.ofNat_lt] at h1
    obtain ⟨b, o, cs, z, s, ro, rfl, hg, hw⟩ := hs.out (by intro e; rw [e] at h1; simp at h1)
    have se := rdA_succ (k := k) h1
    obtain ⟨a1, ha1⟩ : ∃ a1, a1 = (rdA l k i).1 := ⟨_, rfl⟩
    obtain ⟨a2, ha2⟩ : ∃ a2, a2 = (rdA l k i).2 := ⟨_, rfl⟩
    have ep : rdA l k i = (a1, a2) := by rw [ha1, ha2]
    rw [ep] at se
    simp only [ep] at ih ⊢
    obtain ⟨n, hnn⟩ : ∃ n, n = cntD l k l[i].frm := ⟨_, rfl⟩
    obtain ⟨Z, hZ⟩ : ∃ Z, Z = rdB l k (a1, a2) l[i] := ⟨_, rfl⟩
    have hZ' : Z = (decide ((n : Int) > a1) || ((decide ((n : Int) = a1) && decide ((n : Int) > 0)) && decide (l[i].frm < a2))) := by rw [hZ, hnn]; rfl
    have se' : rdA l k (i + 1) = if Z = true then ((n : Int), l[i].frm) else (a1, a2) := by rw [se, hZ, hnn]; rfl
    apply ct_skip
    apply ct_seq
    apply ct_block
    apply ct_seq
    apply ct_region
    apply seq_plain; exact do_move rfl; exact rfl
    apply seq_plain; exact do_move rfl; exact rfl
    apply seq_plain; exact do_move rfl; exact rfl
    apply seq_plain; exact do_move rfl; exact rfl
    apply seq_plain; exact do_indexAddrS rfl rfl rfl (by exact idx_nat (by omega)); exact rfl
    apply seq_plain; exact do_fieldAddr rfl rfl; exact rfl
    apply seq_plain; exact do_load rfl (by exact ext_get_old (by assumption) (by assumption)) rfl (by exact pt_sl1 (by assumption) (by omega) (Nat.le_of_ble_eq_true rfl) rfl); exact rfl
    apply seq_call (ht := rfl); exact refAt_c (by assumption) (by assumption); exact rfl
    apply seq_plain; exact do_assign rfl; exact rfl
    apply seq_nil
    apply ct_seq
    apply ct_region
    apply seq_plain; exact do_move rfl; exact rfl
    apply seq_plain; exact do_move rfl; exact rfl
    apply seq_plain; exact do_binInt rfl rfl rfl trivial; exact rfl
    apply seq_plain; exact do_move rfl; exact rfl
    rw [← hnn]
    clear hnn hZ se ep ha1 ha2
    refine seq_J [(0, .slice (some ⟨b, o, none⟩) l.length c), (1, .string k), (6, I a1), (7, I a2), (8, I i), (9, I n), (44, .bool Z)] (ds := []) (h := ext H H.fresh []) ?_ ?_
    · refine seq_gsplit rfl rfl (fun u1 => ?_) (fun u1 => ?_)
      · have u1 : decide ((n : Int) > a1) = true := u1
        have e : Z = true := by rw [hZ', u1]; rfl
        rw [e]
        clear e hZ' se'
        apply seq_passed (hd := rfl) (hl := rfl) (hb := rfl); exact rfl
        apply seq_passed (hd := rfl) (hl := rfl) (hb := rfl); exact rfl
        apply seq_passed (hd := rfl) (hl := rfl) (hb := rfl); exact rfl
        apply seq_passed (hd := rfl) (hl := rfl) (hb := rfl); exact rfl
        apply seq_passedU (hd := rfl) (hl := rfl); exact rfl
        apply seq_passedU (hd := rfl) (hl := rfl); exact rfl
        apply seq_passed (hd := rfl) (hl := rfl) (hb := rfl); exact rfl
        apply seq_passed (hd := rfl) (hl := rfl) (hb := rfl); exact rfl
        apply seq_passedU (hd := rfl) (hl := rfl); exact rfl
        apply seq_passedU (hd := rfl) (hl := rfl); exact rfl
        apply seq_passedU (hd := rfl) (hl := rfl); exact rfl
        apply seq_passedU (hd := rfl) (hl := rfl); exact rfl
        apply seq_passedU (hd := rfl) (hl := rfl); exact rfl
        apply seq_passedU (hd := rfl) (hl := rfl); exact rfl
        apply seq_passedU (hd := rfl) (hl := rfl); exact rfl
        apply seq_passed (hd := rfl) (hl := rfl) (hb := rfl); exact rfl
        apply seq_plain; exact do_pick_t rfl rfl; exact rfl
        apply seq_nil
        exact jp_of (by repeat (first | exact sub_nil | apply sub_cons rfl))
      · have u1 : decide ((n : Int) > a1) = false := u1
        rw [u1] at hZ'
        apply seq_guard (hd := rfl) (hl := rfl); exact do_move rfl; exact rfl
        apply seq_guard (hd := rfl) (hl := rfl); exact do_move rfl; exact rfl
        apply seq_guard (hd := rfl) (hl := rfl); exact do_binInt rfl rfl rfl trivial; exact rfl
        apply seq_guard (hd := rfl) (hl := rfl); exact do_move rfl; exact rfl
        refine seq_gsplit rfl rfl (fun u2 => ?_) (fun u2 => ?_)
        · have u2 : decide ((n : Int) = a1) = true := u2
          rw [u2] at hZ'
          apply seq_guard (hd := rfl) (hl := rfl); exact do_move rfl; exact rfl
          apply seq_guard (hd := rfl) (hl := rfl); exact do_binInt rfl rfl rfl trivial; exact rfl
          apply seq_guard (hd := rfl) (hl := rfl); exact do_pick_t rfl rfl; exact rfl
          apply seq_guard (hd := rfl) (hl := rfl); exact do_move rfl; exact rfl
          refine seq_gsplit rfl rfl (fun u3 => ?_) (fun u3 => ?_)
          · have u3 : decide ((n : Int) > 0) = true := u3
            have e : Z = decide (l[i].frm < a2) := by rw [hZ', u3]; rfl
            rw [e]
            clear e hZ' se'
            apply seq_guard (hd := rfl) (hl := rfl); exact do_move rfl; exact rfl
            apply seq_guard (hd := rfl) (hl := rfl); exact do_move rfl; exact rfl
            apply seq_guard (hd := rfl) (hl := rfl); exact do_indexAddrS rfl rfl rfl (by exact idx_nat (by omega)); exact rfl
            apply seq_guard (hd := rfl) (hl := rfl); exact do_fieldAddr rfl rfl; exact rfl
            apply seq_guard (hd := rfl) (hl := rfl); exact do_load rfl (by exact ext_get_old (by assumption) (by assumption)) rfl (by exact pt_sl1 (by assumption) (by omega) (Nat.le_of_ble_eq_true rfl) rfl); exact rfl
            apply seq_guard (hd := rfl) (hl := rfl); exact do_move rfl; exact rfl
            apply seq_guard (hd := rfl) (hl := rfl); exact do_binInt rfl rfl rfl trivial; exact rfl
            apply seq_guard (hd := rfl) (hl := rfl); exact do_pick_t rfl rfl; exact rfl
            apply seq_plain; exact do_pick_f rfl rfl; exact rfl
            apply seq_nil
            exact jp_of (by repeat (first | exact sub_nil | apply sub_cons rfl))
          · have u3 : decide ((n : Int) > 0) = false := u3
            have e : Z = false := by rw [hZ', u3]; rfl
            rw [e]
            clear e hZ' se'
            apply seq_passed (hd := rfl) (hl := rfl) (hb := rfl); exact rfl
            apply seq_passed (hd := rfl) (hl := rfl) (hb := rfl); exact rfl
            apply seq_passed (hd := rfl) (hl := rfl) (hb := rfl); exact rfl
            apply seq_passed (hd := rfl) (hl := rfl) (hb := rfl); exact rfl
            apply seq_passed (hd := rfl) (hl := rfl) (hb := rfl); exact rfl
            apply seq_passed (hd := rfl) (hl := rfl) (hb := rfl); exact rfl
            apply seq_passed (hd := rfl) (hl := rfl) (hb := rfl); exact rfl
            apply seq_guard (hd := rfl) (hl := rfl); exact do_pick_f rfl rfl; exact rfl
            apply seq_plain; exact do_pick_f rfl rfl; exact rfl
            apply seq_nil
            exact jp_of (by repeat (first | exact sub_nil | apply sub_cons rfl))
        · have u2 : decide ((n : Int) = a1) = false := u2
          have e : Z = false := by rw [hZ', u2]; rfl
          rw [e]
          clear e hZ' se'
          apply seq_passed (hd := rfl) (hl := rfl) (hb := rfl); exact rfl
          apply seq_passed (hd := rfl) (hl := rfl) (hb := rfl); exact rfl
          apply seq_guard (hd := rfl) (hl := rfl); exact do_pick_f rfl rfl; exact rfl
          apply seq_guard (hd := rfl) (hl := rfl); exact do_move rfl; exact rfl
          apply seq_passed (hd := rfl) (hl := rfl) (hb := rfl); exact rfl
          apply seq_passed (hd := rfl) (hl := rfl) (hb := rfl); exact rfl
          apply seq_passed (hd := rfl) (hl := rfl) (hb := rfl); exact rfl
          apply seq_passed (hd := rfl) (hl := rfl) (hb := rfl); exact rfl
          apply seq_passed (hd := rfl) (hl := rfl) (hb := rfl); exact rfl
          apply seq_passed (hd := rfl) (hl := rfl) (hb := rfl); exact rfl
          apply seq_passed (hd := rfl) (hl := rfl) (hb := rfl); exact rfl
          apply seq_guard (hd := rfl) (hl := rfl); exact do_pick_f rfl rfl; exact rfl
          apply seq_plain; exact do_pick_f rfl rfl; exact rfl
          apply seq_nil
          exact jp_of (by repeat (first | exact sub_nil | apply sub_cons rfl))
    obtain ⟨N, hN⟩ : ∃ N, N = rdA l k (i + 1) := ⟨_, rfl⟩
    rw [← hN] at se'
    refine ct_JE [(0, .slice (some ⟨b, o, none⟩) l.length c), (1, .string k), (6, I N.1), (7, I N.2), (8, I i)] (ds := []) (h := ext H H.fresh []) ?_ ?_
    · refine ct_cond rfl (fun h2 => ?_) (fun h2 => ?_)
      · rw [se', if_pos h2]
        apply ct_draw (by assumption); decide +kernel
        apply sd_plain (hfree := rfl); intro _; exact do_move rfl; exact rfl
        apply sd_plain (hfree := rfl); intro _; exact do_move rfl; exact rfl
        apply sd_plain (hfree := rfl); intro _; exact do_move rfl; exact rfl
        apply sd_plain (hfree := rfl); intro _; exact do_indexAddrS rfl rfl rfl (by exact idx_nat (by omega)); exact rfl
        apply sd_plain (hfree := rfl); intro _; exact do_fieldAddr rfl rfl; exact rfl
        apply sd_look (hfree := rfl); exact do_load rfl (by exact ext_get_old (by assumption) (by assumption)) rfl (by exact pt_sl1 (by assumption) (by omega) (Nat.le_of_ble_eq_true rfl) rfl); exact rfl
        apply sd_plain (hfree := rfl); intro _; exact do_assign rfl; exact rfl
        apply sd_plain (hfree := rfl); intro _; exact do_assign rfl; exact rfl
        apply sd_nil
        exact jp_of (by repeat (first | exact sub_nil | apply sub_cons rfl))
      · rw [se', if_neg (by rw [h2]; simp)]
        apply ct_skip
        exact jp_of (by repeat (first | exact sub_nil | apply sub_cons rfl))
    rw [hN]
    apply ct_region
    apply seq_plain; exact do_move rfl; exact rfl
    apply seq_plain; exact do_succ rfl (by omega); exact rfl
    apply seq_plain; exact do_assign rfl; exact rfl
    apply seq_nil
    exact lt_to (by repeat (first | exact sub_nil | apply sub_cons rfl)) (.refl _) (ih (i + 1) (by omega) (by omega) trivial)
  · have h1 : i = l.length := by simp at h1; omega
    subst h1
    apply ct_exit
    apply exit_eq; exact rfl
    apply ct_seq
    apply ct_region
    apply seq_plain; exact do_move rfl; exact rfl
    apply seq_plain; exact do_move rfl; exact rfl
    apply seq_plain; exact do_assign rfl; exact rfl
    apply seq_plain; exact do_assign rfl; exact rfl
    apply seq_nil
    apply ct_ret
    exact fin_flat hc rfl rfl ⟨rfl, rfl⟩
end Go.Proofs.YtfegloadbajbhaaGreatDoor
