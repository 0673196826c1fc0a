/- Contracts: the first kind with too many bookings, as the reference has it. -/
import Derived.Test.YtfegloadbajbhaaGreatDoorBgC
import Derived.Test.YtfegloadbajbhaaGreatDoorHkC
noncomputable section
namespace Go.Proofs.YtfegloadbajbhaaGreatDoor
open Go Go.Den
set_option maxRecDepth 100000
abbrev Ovb := ByteArray × Int × Bool
def roB (a : Ovb) (x : Bk) : Bool := (!a.2.2 || Op.bytesLess x.kind.data.toList a.1.data.toList) || (decide (x.kind = a.1) && decide (x.frm < a.2.1))
def roS (t : List Tb) (l : List Bk) (a : Ovb) (x : Bk) : Ovb := if (cntD l x.kind x.frm : Int) ≤ cntK t x.kind then a else if roB a x = true then (x.kind, x.frm, true) else a
def roA (t : List Tb) (l : List Bk) (i : Nat) : Ovb := (l.take i).foldl (roS t l) (strB [], 0, false)
theorem roA_succ {t : List Tb} {l : List Bk} {i : Nat} (h : i < l.length) : roA t l (i + 1) = roS t l (roA t l i) l[i] := by
  unfold roA
  rw [take_snoc h, List.foldl_append]; rfl
theorem ct_gen {P : Program} {rd : Option Nat} {nt : Nat} {e : Env} {H : AHeap} {ds : List Nat} {lo : Nat} {L : List (Option ABlk)} {b : Code} {Qn Qr : St → Prop} {Qe : Nat → St → Prop} {j : Nat} {x : ABlk} (h0 : L[j]? = some (some x))
    (hk : ∀ L' : List (Option ABlk), L'[j]? = some (some x) → CT P rd nt b ⟨e, ds, ext H lo L'⟩ Qn Qe Qr) : CT P rd nt b ⟨e, ds, ext H lo L⟩ Qn Qe Qr := hk L h0
set_option maxHeartbeats 8000000 in
theorem refOverbooked_c {H : AHeap} {q r : Option Addr} {c d : Nat} {t : List Tb} {l : List Bk} (hs : SlAt H 2 tb q t) (hn : t.length < 1000000000) (hr : SlAt H 4 bk r l) (hm : l.length < 1000000000) :
    Ret Tryz.prog 31 [.slice q t.length c, .slice r l.length d] H (.tuple ⟨[.string (roA t l l.length).1, I (roA t l l.length).2.1, .bool (roA t l l.length).2.2]⟩) H := by
  refine fn_start Tryz.func31 rfl rfl rfl fun hc => ?_
  have hsE : ∀ lo L, SlAt (ext H lo L) 2 tb q t := fun lo L => hs.ext (ext_Ext hc)
  have hrE : ∀ lo L, SlAt (ext H lo L) 4 bk r l := fun lo L => hr.ext (ext_Ext hc)
  apply ct_seq
  apply ct_region
  apply seq_plain; exact do_assign rfl; exact rfl
  apply seq_plain; exact do_assign rfl; exact rfl
  apply seq_plain; exact do_assign rfl; exact rfl
  apply seq_nil
  apply ct_seq
  apply ct_region
  apply seq_plain; exact do_assign rfl; exact rfl
  apply seq_plain; exact do_assign rfl; exact rfl
  apply seq_plain; exact do_assign rfl; exact rfl
  apply seq_nil
  apply ct_seq
  apply ct_seq
  apply ct_region
  apply seq_plain; exact do_assign rfl; exact rfl
  apply seq_nil
  apply ct_block
  apply ct_loop
  refine lt_meas (α := Nat × List (Option ABlk)) (fun a => [(0, .slice q t.length c), (1, .slice r l.length d), (7, .string (roA t l a.1).1), (8, I (roA t l a.1).2.1), (9, .bool (roA t l a.1).2.2), (10, I a.1)]) (fun a => ext H H.fresh a.2) (fun a => a.1 ≤ l.length) (fun a => l.length - a.1) (fun a ha ih => ?_) (0, []) (by simp) (by repeat (first | exact sub_nil | apply sub_cons rfl)) (.refl _)
  obtain ⟨i, L⟩ := a
  simp only at ha ih ⊢
  have ih' := fun i' L' a1 a2 => ih (i', L') a1 a2
  simp only at ih'
  clear ih
  apply ct_seq
  apply ct_seq
  apply ct_region
  apply seq_plain; exact do_move rfl; exact rfl
  apply seq_plain; exact do_move rfl; exact rfl
  apply seq_plain; exact do_lenS rfl rfl rfl; exact rfl
  apply seq_plain; exact do_binInt rfl rfl rfl trivial; exact rfl
  apply seq_nil
  refine ct_cond rfl (fun h1 => ?_) (fun h1 => ?_)
  · simp only [decide_eq_true_eq, Int.ofNat_lt] at h1
    obtain ⟨b, o, cs, z, s, ro, rfl, hg, hw⟩ := hr.out (by intro e; rw [e] at h1; simp at h1)
    have se := roA_succ (t := t) h1
    obtain ⟨a1, ha1⟩ : ∃ a1, a1 = (roA t l i).1 := ⟨_, rfl⟩
    obtain ⟨a2, ha2⟩ : ∃ a2, a2 = (roA t l i).2.1 := ⟨_, rfl⟩
    obtain ⟨a3, ha3⟩ : ∃ a3, a3 = (roA t l i).2.2 := ⟨_, rfl⟩
    have ep : roA t l i = (a1, a2, a3) := by rw [ha1, ha2, ha3]
    rw [ep] at se
    simp only [ep] at ih' ⊢
    clear ha1 ha2 ha3 ep
    obtain ⟨Z, hZ⟩ : ∃ Z, Z = roB (a1, a2, a3) l[i] := ⟨_, rfl⟩
    have hZ' : Z = ((!a3 || Op.bytesLess l[i].kind.data.toList a1.data.toList) || (decide (l[i].kind = a1) && decide (l[i].frm < a2))) := hZ
    have se' : roA t l (i + 1) = if (cntD l l[i].kind l[i].frm : Int) ≤ cntK t l[i].kind then (a1, a2, a3) else if Z = true then (l[i].kind, l[i].frm, true) else (a1, a2, a3) := by rw [se, hZ]; rfl
    obtain ⟨N, hN⟩ : ∃ N, N = roA t l (i + 1) := ⟨_, rfl⟩
    rw [← hN] at se'
    clear se hZ
    apply ct_skip
    apply ct_seq
    refine ct_JXE (ds := []) (α := List (Option ABlk)) (fun _ => [(0, .slice q t.length c), (1, .slice (some ⟨b, o, none⟩) l.length d), (7, .string N.1), (8, I N.2.1), (9, .bool N.2.2), (10, I i)]) (fun L => ext H H.fresh L) (fun _ => True) ?_ (fun L2 _ => ?_)
    · apply ct_block
      apply ct_seq
      apply ct_region
      apply seq_plain; exact do_move rfl; exact rfl
      apply seq_plain; exact do_move rfl; exact rfl
      apply seq_plain; exact do_indexAddrS rfl rfl rfl (by exact idx_nat (by omega)); exact rfl
      apply seq_plain; exact do_load rfl (by exact ext_get_old (by assumption) (by assumption)) rfl (by exact pt_sl (by assumption) (by omega)); exact rfl
      apply seq_newP; exact do_alloc rfl rfl; exact rfl
      apply seq_putC (hc := by assumption); rotate_left; exact do_store rfl rfl (by exact ext_get_new List.getElem?_concat_length) rfl rfl (nb_own _); rotate_left; exact (by simp)
      apply ct_seq
      apply ct_seq
      apply ct_draw (by assumption); decide +kernel
      apply sd_plain (hfree := rfl); intro _; exact do_move rfl; exact rfl
      apply sd_plain (hfree := rfl); intro _; exact do_fieldAddr rfl rfl; exact rfl
      apply sd_look (hfree := rfl); exact do_load rfl (by exact ext_get_new (getApp getSetLast)) rfl (by exact rfl); exact rfl
      apply sd_plain (hfree := rfl); intro _; exact do_fieldAddr rfl rfl; exact rfl
      apply sd_look (hfree := rfl); exact do_load rfl (by exact ext_get_new (getApp getSetLast)) rfl (by exact rfl); exact rfl
      apply sd_call (ht := rfl); exact refAt_c (hrE _ _) hm; exact rfl
      apply sd_plain (hfree := rfl); intro _; exact do_move rfl; exact rfl
      apply sd_plain (hfree := rfl); intro _; exact do_fieldAddr rfl rfl; exact rfl
      apply sd_look (hfree := rfl); exact do_load rfl (by exact ext_get_new (getApp getSetLast)) rfl (by exact rfl); exact rfl
      apply sd_call (ht := rfl); exact refTables1_c (hsE _ _) hn; exact rfl
      apply sd_plain (hfree := rfl); intro _; exact do_binInt rfl rfl rfl trivial; exact rfl
      apply sd_nil
      refine ct_cond rfl (fun u0 => ?_) (fun u0 => ?_)
      · have u0 : (cntD l l[i].kind l[i].frm : Int) ≤ cntK t l[i].kind := by simpa using u0
        rw [if_pos u0] at se'
        rw [se']
        apply ct_exit
        apply exit_eq; exact rfl
        exact jx_of _ trivial (by repeat (first | exact sub_nil | apply sub_cons rfl)) rfl
      have u0 : ¬ (cntD l l[i].kind l[i].frm : Int) ≤ cntK t l[i].kind := by simpa using u0
      rw [if_neg u0] at se'
      refine ct_gen (j := L.length) (x := .cells (bk l[i]) 0 false false) (by simp [bk]) (fun M hM => ?_)
      apply ct_skip
      apply ct_seq
      apply ct_region
      apply seq_plain; exact do_move rfl; exact rfl
      apply seq_plain; exact do_unOp rfl rfl; exact rfl
      apply seq_plain; exact do_move rfl; exact rfl
      refine seq_J [(0, .slice q t.length c), (1, .slice (some ⟨b, o, none⟩) l.length d), (7, .string a1), (8, I a2), (9, .bool a3), (10, I i), (11, .pointer (some ⟨nb H L.length, 0, none⟩)), (52, .bool Z)] (ds := []) (h := ext H H.fresh M) ?_ ?_
      · refine seq_gsplit rfl rfl (fun u1 => ?_) (fun u1 => ?_)
        · have u1 : (!a3) = true := u1
          have e : Z = true := by rw [hZ', u1]; rfl
          rw [e]
          clear e hZ' se'
          apply seq_passed (hd := rfl) (hl := rfl) (hb := rfl); exact rfl
          apply seq_passed (hd := rfl) (hl := rfl) (hb := rfl); exact rfl
          apply seq_passed (hd := rfl) (hl := rfl) (hb := rfl); exact rfl
          apply seq_passed (hd := rfl) (hl := rfl) (hb := rfl); exact rfl
          apply seq_plain; exact do_pick_t rfl rfl; exact rfl
          apply seq_plain; exact do_move rfl; exact rfl
          apply seq_passed (hd := rfl) (hl := rfl) (hb := rfl); exact rfl
          apply seq_passed (hd := rfl) (hl := rfl) (hb := rfl); exact rfl
          apply seq_passed (hd := rfl) (hl := rfl) (hb := rfl); exact rfl
          apply seq_passed (hd := rfl) (hl := rfl) (hb := rfl); exact rfl
          apply seq_passed (hd := rfl) (hl := rfl) (hb := rfl); exact rfl
          apply seq_passedU (hd := rfl) (hl := rfl); exact rfl
          apply seq_passedU (hd := rfl) (hl := rfl); exact rfl
          apply seq_passedU (hd := rfl) (hl := rfl); exact rfl
          apply seq_passedU (hd := rfl) (hl := rfl); exact rfl
          apply seq_passed (hd := rfl) (hl := rfl) (hb := rfl); exact rfl
          apply seq_plain; exact do_pick_t rfl rfl; exact rfl
          apply seq_nil
          exact jp_of (by repeat (first | exact sub_nil | apply sub_cons rfl))
        · have u1 : (!a3) = false := u1
          rw [u1] at hZ'
          apply seq_guard (hd := rfl) (hl := rfl); exact do_fieldAddr rfl rfl; exact rfl
          apply seq_guard (hd := rfl) (hl := rfl); exact do_load rfl (by exact ext_get_new (by assumption)) rfl (by exact rfl); exact rfl
          apply seq_guard (hd := rfl) (hl := rfl); exact do_move rfl; exact rfl
          apply seq_guard (hd := rfl) (hl := rfl); exact do_binStr rfl rfl rfl; exact rfl
          apply seq_plain; exact do_pick_f rfl rfl; exact rfl
          apply seq_plain; exact do_move rfl; exact rfl
          refine seq_gsplit rfl rfl (fun u2 => ?_) (fun u2 => ?_)
          · have u2 : Op.bytesLess l[i].kind.data.toList a1.data.toList = true := u2
            have e : Z = true := by rw [hZ', u2]; rfl
            rw [e]
            clear e hZ' se'
            apply seq_passed (hd := rfl) (hl := rfl) (hb := rfl); exact rfl
            apply seq_passed (hd := rfl) (hl := rfl) (hb := rfl); exact rfl
            apply seq_passed (hd := rfl) (hl := rfl) (hb := rfl); exact rfl
            apply seq_passed (hd := rfl) (hl := rfl) (hb := rfl); exact rfl
            apply seq_passed (hd := rfl) (hl := rfl) (hb := rfl); exact rfl
            apply seq_passedU (hd := rfl) (hl := rfl); exact rfl
            apply seq_passedU (hd := rfl) (hl := rfl); exact rfl
            apply seq_passedU (hd := rfl) (hl := rfl); exact rfl
            apply seq_passedU (hd := rfl) (hl := rfl); exact rfl
            apply seq_passed (hd := rfl) (hl := rfl) (hb := rfl); exact rfl
            apply seq_plain; exact do_pick_t rfl rfl; exact rfl
            apply seq_nil
            exact jp_of (by repeat (first | exact sub_nil | apply sub_cons rfl))
          · have u2 : Op.bytesLess l[i].kind.data.toList a1.data.toList = false := u2
            rw [u2] at hZ'
            apply seq_guard (hd := rfl) (hl := rfl); exact do_fieldAddr rfl rfl; exact rfl
            apply seq_guard (hd := rfl) (hl := rfl); exact do_load rfl (by exact ext_get_new (by assumption)) rfl (by exact rfl); exact rfl
            apply seq_guard (hd := rfl) (hl := rfl); exact do_move rfl; exact rfl
            apply seq_guard (hd := rfl) (hl := rfl); exact do_binStr rfl rfl rfl; exact rfl
            apply seq_guard (hd := rfl) (hl := rfl); exact do_move rfl; exact rfl
            refine seq_gsplit rfl rfl (fun u3 => ?_) (fun u3 => ?_)
            · have u3 : byteL l[i].kind.data.toList a1.data.toList = true := u3
              rw [bytes_eq] at u3
              have e : Z = decide (l[i].frm < a2) := by rw [hZ', u3]; rfl
              rw [e]
              clear e hZ' se'
              apply seq_guard (hd := rfl) (hl := rfl); exact do_fieldAddr rfl rfl; exact rfl
              apply seq_guard (hd := rfl) (hl := rfl); exact do_load rfl (by exact ext_get_new (by assumption)) rfl (by exact rfl); exact rfl
              apply seq_guard (hd := rfl) (hl := rfl); exact do_move rfl; exact rfl
              apply seq_guard (hd := rfl) (hl := rfl); exact do_binInt rfl rfl rfl trivial; exact rfl
              apply seq_guard (hd := rfl) (hl := rfl); exact do_pick_t rfl rfl; exact rfl
              apply seq_plain; exact do_pick_f rfl rfl; exact rfl
              apply seq_nil
              exact jp_of (by repeat (first | exact sub_nil | apply sub_cons rfl))
            · have u3 : byteL l[i].kind.data.toList a1.data.toList = false := u3
              rw [bytes_eq] at u3
              have e : Z = false := by rw [hZ', u3]; rfl
              rw [e]
              clear e hZ' se'
              apply seq_passed (hd := rfl) (hl := rfl) (hb := rfl); exact rfl
              apply seq_passed (hd := rfl) (hl := rfl) (hb := rfl); exact rfl
              apply seq_passed (hd := rfl) (hl := rfl) (hb := rfl); exact rfl
              apply seq_passed (hd := rfl) (hl := rfl) (hb := rfl); exact rfl
              apply seq_guard (hd := rfl) (hl := rfl); exact do_pick_f rfl rfl; exact rfl
              apply seq_plain; exact do_pick_f rfl rfl; exact rfl
              apply seq_nil
              exact jp_of (by repeat (first | exact sub_nil | apply sub_cons rfl))
      refine ct_cond rfl (fun u4 => ?_) (fun u4 => ?_)
      · rw [if_pos u4] at se'
        rw [se']
        apply ct_draw (by assumption); decide +kernel
        apply sd_plain (hfree := rfl); intro _; exact do_fieldAddr rfl rfl; exact rfl
        apply sd_look (hfree := rfl); exact do_load rfl (by exact ext_get_new (getApp (by assumption))) rfl (by exact rfl); exact rfl
        apply sd_plain (hfree := rfl); intro _; exact do_fieldAddr rfl rfl; exact rfl
        apply sd_look (hfree := rfl); exact do_load rfl (by exact ext_get_new (getApp (by assumption))) rfl (by exact rfl); exact rfl
        apply sd_plain (hfree := rfl); intro _; exact do_assign rfl; exact rfl
        apply sd_plain (hfree := rfl); intro _; exact do_assign rfl; exact rfl
        apply sd_plain (hfree := rfl); intro _; exact do_assign rfl; exact rfl
        apply sd_nil
        exact jx_of M trivial (by repeat (first | exact sub_nil | apply sub_cons rfl)) (by simp)
      · rw [if_neg (by rw [u4]; simp)] at se'
        rw [se']
        apply ct_skip
        exact jx_of _ trivial (by repeat (first | exact sub_nil | apply sub_cons rfl)) rfl
    · rw [hN]
      apply ct_region
      apply seq_plain; exact do_move rfl; exact rfl
      apply seq_plain; exact do_succ rfl (by omega); exact rfl
      apply seq_plain; exact do_assign rfl; exact rfl
      apply seq_nil
      exact lt_to (by repeat (first | exact sub_nil | apply sub_cons rfl)) (.refl _) (ih' (i + 1) L2 (by omega) (by omega))
  · have h1 : i = l.length := by simp at h1; omega
    subst h1
    apply ct_exit
    apply exit_eq; exact rfl
    apply ct_seq
    apply ct_region
    apply seq_plain; exact do_move rfl; exact rfl
    apply seq_plain; exact do_move rfl; exact rfl
    apply seq_plain; exact do_move rfl; exact rfl
    apply seq_plain; exact do_assign rfl; exact rfl
    apply seq_plain; exact do_assign rfl; exact rfl
    apply seq_plain; exact do_assign rfl; exact rfl
    apply seq_nil
    apply ct_ret
    exact fin_flat hc rfl rfl ⟨rfl, rfl⟩
end Go.Proofs.YtfegloadbajbhaaGreatDoor
