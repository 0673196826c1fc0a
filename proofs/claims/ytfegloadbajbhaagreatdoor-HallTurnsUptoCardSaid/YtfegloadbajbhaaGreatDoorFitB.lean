/- Contracts: whether a booking fits, as the program has it. -/
import Derived.Test.YtfegloadbajbhaaGreatDoorOpnD
import Derived.Test.YtfegloadbajbhaaGreatDoorOpnL
import Derived.Test.YtfegloadbajbhaaGreatDoorHkO
import Derived.Test.YtfegloadbajbhaaGreatDoorPrL
import Derived.Test.YtfegloadbajbhaaGreatDoorSxX
import Derived.ChangeMaps5
noncomputable section
namespace Go.Proofs.YtfegloadbajbhaaGreatDoor
open Go Go.Den
set_option maxRecDepth 100000
/-- the error of Fits -/
def fitsE (t : List Tb) (l : List Bk) (b : Bk) : Int := firstL [bothE t l, bookE b, whenL ((cntK t b.kind : Int) == 0) 10]
def fitsV (t : List Tb) (l : List Bk) (b : Bk) : Bool := if fitsE t l b ≠ 0 then false else fitB t (l ++ [b])
set_option maxHeartbeats 8000000 in
theorem Fits_c {H : AHeap} {q r : Option Addr} {c d : Nat} {t : List Tb} {l : List Bk} {b : Bk} (hs : SlAt H 2 tb q t) (hlow : LowS q c t.length) (hn : t.length < 1000000) (hr : SlAt H 4 bk r l) (hlow2 : LowS r d l.length) (hq : OldS H r) (hb : BlkS H r) (hd : r = none → d = 0) (hm : l.length < 900000) :
    Ret Tryz.prog 37 [.slice q t.length c, .slice r l.length d, .agg ⟨bk b⟩] H (.tuple ⟨[.bool (fitsV t l b), I (fitsE t l b)]⟩) H := by
  refine fn_start Tryz.func37 rfl rfl rfl fun hc => ?_
  apply ct_seq
  apply ct_region
  apply seq_newP; exact do_box rfl rfl rfl; exact rfl
  apply seq_plain; exact do_assign rfl; exact rfl
  apply seq_plain; exact do_assign rfl; exact rfl
  apply seq_nil
  apply ct_seq
  apply ct_seq
  apply ct_draw (by assumption); decide +kernel
  apply sd_plain (hfree := rfl); intro _; exact do_move rfl; exact rfl
  apply sd_plain (hfree := rfl); intro _; exact do_move rfl; exact rfl
  apply sd_call (ht := rfl); exact checkBoth_c (hs.ext (ext_Ext hc)) hlow (by omega) (hr.ext (ext_Ext hc)) hlow2 (by omega); exact rfl
  apply sd_look (hfree := rfl); exact do_load rfl (by exact ext_get_new rfl) rfl (by exact rfl); exact rfl
  apply sd_call (ht := rfl); exact book_c; exact rfl
  apply sd_plain (hfree := rfl); intro _; exact do_move rfl; exact rfl
  apply sd_plain (hfree := rfl); intro _; exact do_fieldAddr rfl rfl; exact rfl
  apply sd_look (hfree := rfl); exact do_load rfl (by exact ext_get_new rfl) rfl (by exact rfl); exact rfl
  apply sd_call (ht := rfl); exact count_c (hs.ext (ext_Ext hc)) (by omega); exact rfl
  apply sd_plain (hfree := rfl); intro _; exact do_binInt rfl rfl rfl trivial; exact rfl
  apply sd_call (ht := rfl); exact when85; exact rfl
  apply sd_newS (hfree := rfl); exact do_buildSlice rfl rfl rfl rfl rfl rfl rfl; exact rfl
  apply sd_callM (ht := rfl) (hw := rfl); decide +kernel; exact first84 (l := [_, _, _]) (slAt_map (ext_get_new rfl)) (by simp); exact rfl
  apply sd_plain (hfree := rfl); intro _; exact do_assign rfl; exact rfl
  apply sd_nil
  apply ct_seq
  apply ct_region
  apply seq_plain; exact do_move rfl; exact rfl
  apply seq_plain; exact do_binInt rfl rfl rfl trivial; exact rfl
  apply seq_nil
  refine ct_cond rfl (fun h1 => ?_) (fun h1 => ?_)
  · have h1 : fitsE t l b ≠ 0 := by simpa [fitsE] using h1
    have e : fitsV t l b = false := if_pos h1
    rw [e]
    apply ct_seq
    apply ct_region
    apply seq_plain; exact do_move rfl; exact rfl
    apply seq_plain; exact do_assign rfl; exact rfl
    apply seq_plain; exact do_assign rfl; exact rfl
    apply seq_nil
    apply ct_ret
    exact fin_flat hc rfl rfl ⟨rfl, rfl⟩
  have h1 : fitsE t l b = 0 := by simpa [fitsE] using h1
  have e : fitsV t l b = fitB t (l ++ [b]) := if_neg (by rw [h1]; simp)
  rw [e, h1]
  clear e
  have hll : (l ++ [b]).length = l.length + 1 := by simp
  apply ct_skip
  apply ct_seq
  apply ct_draw (by assumption); decide +kernel
  apply sd_plain (hfree := rfl); intro _; exact do_move rfl; exact rfl
  apply sd_plain (hfree := rfl); intro _; exact do_move rfl; exact rfl
  cases r with
  | none =>
    have hl0 : l = [] := by
      apply Classical.byContradiction
      intro hne
      obtain ⟨_, _, _, _, _, _, e, _⟩ := hr.out hne
      cases e
    subst hl0
    obtain rfl := hd rfl
    apply sd_call (ht := rfl); exact clone0_c; exact rfl
    apply sd_look (hfree := rfl); exact do_load rfl (by exact ext_get_new rfl) rfl (by exact rfl); exact rfl
    apply sd_newS (hfree := rfl); exact do_buildSlice rfl rfl rfl rfl rfl rfl rfl; exact rfl
    refine sd_newSS rfl (by decide +kernel) hc (do_append0 rfl rfl rfl rfl rfl rfl (ext_get_new rfl) rfl (Nat.le_of_ble_eq_true rfl) (Nat.ne_of_beq_eq_false rfl) (Nat.ne_of_beq_eq_false rfl) (by omega)) rfl ?_
    refine sd_call rfl (fit_c (l := [b]) (hs.ext (ext_Ext hc)) (by omega) (slAt_flat bk_len (ext_get_new rfl)) (OldS.new (Nat.lt_of_sub_eq_succ rfl)) (by simp)) rfl ?_
    apply sd_plain (hfree := rfl); intro _; exact do_assign rfl; exact rfl
    apply sd_plain (hfree := rfl); intro _; exact do_assign rfl; exact rfl
    apply sd_nil
    apply ct_ret
    exact fin_flat hc rfl rfl ⟨rfl, rfl⟩
  | some x =>
    refine sd_callN (v := fun b' => .slice (some ⟨b', 0, none⟩) l.length l.length) rfl rfl (by decide +kernel) (clone_c (hr.ext (ext_Ext hc)) (hb.ext (ext_Ext hc)) (by omega)) rfl ?_
    apply sd_look (hfree := rfl); exact do_load rfl (by exact ext_get_new rfl) rfl (by exact rfl); exact rfl
    apply sd_newS (hfree := rfl); exact do_buildSlice rfl rfl rfl rfl rfl rfl rfl; exact rfl
    by_cases hne : l = []
    · subst hne
      refine sd_newSS rfl (by decide +kernel) hc (do_appendY rfl rfl rfl rfl rfl rfl (ext_get_new rfl) rfl (ext_get_new rfl) (Nat.le_of_ble_eq_true rfl) (Nat.ne_of_beq_eq_false rfl) (Nat.ne_of_beq_eq_false rfl) (by omega)) rfl ?_
      refine sd_call rfl (fit_c (l := [b]) (hs.ext (ext_Ext hc)) (by omega) (slAt_flat bk_len (ext_get_new rfl)) (OldS.new (Nat.lt_of_sub_eq_succ rfl)) (by simp)) rfl ?_
      apply sd_plain (hfree := rfl); intro _; exact do_assign rfl; exact rfl
      apply sd_plain (hfree := rfl); intro _; exact do_assign rfl; exact rfl
      apply sd_nil
      apply ct_ret
      exact fin_flat hc rfl rfl ⟨rfl, rfl⟩
    · have ed : decide (l ≠ []) = true := decide_eq_true hne
      rw [ed]
      refine sd_pushK (k := 2) hc rfl (by decide +kernel) (Nat.lt_of_sub_eq_succ rfl) (do_append1 rfl rfl rfl rfl rfl rfl (ext_get_new rfl) rfl (ext_get_new rfl) bks_len (nb_own _) rfl (app_bd1 (by omega)) (Nat.ne_of_beq_eq_false rfl) (Nat.ne_of_beq_eq_false rfl) (by omega)) rfl ?_
      rw [← hll]
      refine sd_call rfl (fit_c (l := l ++ [b]) (hs.ext (ext_Ext hc)) (by omega) (slAt_flat bk_len (ext_get_new (by rw [bks_app]; rfl))) (OldS.new (Nat.lt_of_sub_eq_succ rfl)) (by rw [hll]; omega)) rfl ?_
      apply sd_plain (hfree := rfl); intro _; exact do_assign rfl; exact rfl
      apply sd_plain (hfree := rfl); intro _; exact do_assign rfl; exact rfl
      apply sd_nil
      apply ct_ret
      exact fin_flat hc rfl rfl ⟨rfl, rfl⟩
end Go.Proofs.YtfegloadbajbhaaGreatDoor
/- HallFits: the law's own walk. -/
noncomputable section
namespace Go.Proofs.YtfegloadbajbhaaGreatDoor
open Go Go.Den
set_option maxRecDepth 100000
theorem books_one {b : Bk} : booksE [b] = bookE b := by
  unfold booksE
  rw [if_neg (by simp)]
  by_cases h : bookE b = 0
  · simp [restG, errG, firstL, h]
  · simp [restG, errG, firstL, h]
theorem seq_anyLo {P : Program} {rd : Option Nat} {nt : Nat} {ops : Array Oper} {r : List Oper} {i : Nat} {ds : List Nat} {e : Env} {H : AHeap} {lo : Nat} {L : List (Option ABlk)} {K : St → Prop} (hk : ∀ lo' : Nat, SeqL P rd nt ops r i ⟨e, ds, ext H lo' L⟩ K) : SeqL P rd nt ops r i ⟨e, ds, ext H lo L⟩ K := hk lo
end Go.Proofs.YtfegloadbajbhaaGreatDoor
/- HallFits: the contract over every input of bulk at most 1048576. -/
noncomputable section
namespace Go.Proofs.YtfegloadbajbhaaGreatDoor
open Go Go.Den Go.ChangeShapes Go.WideShapes Go.ChangeAt Go.RowKit Go.Deep
set_option maxRecDepth 10000
/-- a slice argument told by a block of its own, which is there -/
theorem OpS.useB {W : World} {α : Type} {f : α → List Value} {w : Nat} {v : Value} (hf : ∀ x, (f x).length = w) (hfl : ∀ x, (f x).all flatC = true) (h : OpS W f w v) : ∃ o p c l, OpU W f w v o p c l ∧ ∀ B k, 1000 ≤ k → B k = o → BlkS (heapOf B) (p k) := by
  rcases h.out with rfl | ⟨b, sh, ob, len, cap, m, rc, ty, fz, rfl, hle, hm, hh, hsz, hob, hc⟩
  · exact ⟨none, fun _ => none, 0, [], ⟨fun x hx => (by cases hx), fun _ _ _ _ => VR.sliceN _ _, fun _ _ _ _ => .nil, Nat.le_refl _, fun _ _ => ⟨rfl, rfl⟩, fun _ _ e => (by cases e)⟩, fun _ _ _ _ => .nil⟩
  · subst hm
    have hfm : (m.flatMap f).all flatC = true := by
      rw [List.all_eq_true]
      intro x hx
      obtain ⟨y, _, hy⟩ := List.mem_flatMap.1 hx
      exact List.all_eq_true.1 (hfl y) x hy
    have hl : (m.take len).length = len := by rw [List.length_take]; omega
    refine ⟨some ⟨⟨b, rc.size, sh, m.length * w, w, false⟩, m.flatMap f⟩, fun k => some ⟨2 * k + 1, ob, none⟩, m.length, m.take len, ⟨fun x hx B => ?_, fun B k hk hB => ?_, fun B k hk hB => ?_, by omega, fun _ e => (by cases e), fun _ _ e => (by cases e; rfl)⟩, fun B k hk hB => .at_ (heapOf_get (k := k) hB)⟩
    · cases hx
      exact ⟨rc, ty, fz, hh, (len_flat hf m).symm, rfl, by rw [len_flat hf]; exact hsz, rfl, fun j v hv => ⟨v, hc j v hv, flatVR hfm hv⟩⟩
    · rw [hl]
      have := gaOf_at (k := k) hB
      exact .slice this (.inl rfl)
    · have hg := heapOf_get (k := k) hB
      refine ⟨fun hne => ?_⟩
      have h0 : m.length ≠ 0 := fun e => hne (by rw [List.length_eq_zero_iff.1 e]; simp)
      simp only [hob h0]
      exact ((slAt_flat hf hg).take len).out hne
end Go.Proofs.YtfegloadbajbhaaGreatDoor
