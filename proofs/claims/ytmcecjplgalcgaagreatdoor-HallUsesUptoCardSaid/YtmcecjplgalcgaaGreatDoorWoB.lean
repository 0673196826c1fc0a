/- Contracts: worn, Used, Worn (up to 12 bookings). -/
import Derived.Test.YtmcecjplgalcgaaGreatDoorWoA
import Derived.Test.YtmcecjplgalcgaaGreatDoorAsF
import Derived.Test.YtmcecjplgalcgaaGreatDoorPrL
import Derived.Test.YtmcecjplgalcgaaGreatDoorHaB
import Derived.Test.YtmcecjplgalcgaaGreatDoorSrL
import Derived.Test.YtmcecjplgalcgaaGreatDoorSxK
import Derived.Test.YtmcecjplgalcgaaGreatDoorStC
import Derived.Test.YtmcecjplgalcgaaGreatDoorNuF
noncomputable section
namespace Go.Proofs.YtmcecjplgalcgaaGreatDoor
open Go Go.Den
set_option maxRecDepth 100000
def lenB (x : Bk) : Int := x.to - x.frm
def wornL : List Bk → Int → Int
 | [], _ => -1
 | x :: r, lim => if lim ≤ lenB x then x.frm + lim - 1 else wornL r (lim - lenB x)
def ltB (x y : Bk) : Bool := decide (x.frm - y.frm < 0)
theorem ltB_iff {x y : Bk} : ltB x y = true ↔ x.frm < y.frm := by unfold ltB; rw [decide_eq_true_eq]; omega
theorem ltB_f {x y : Bk} : ltB x y = false ↔ ¬ x.frm < y.frm := by unfold ltB; rw [decide_eq_false_iff_not]; omega
theorem weakB : Weak ltB := ⟨fun a b h => by rw [ltB_iff] at h; rw [ltB_f]; omega, fun a b c h1 h2 => by rw [ltB_f] at h1 h2 ⊢; omega⟩
theorem insB_sort {T : List Bk} (h : T ≠ []) : insA (fun x y : Bk => decide (x.frm - y.frm < 0)) 0 T (T.length - 1) = isort ltB T := by
 have := insA_isort weakB (q := []) (m := T) (r := []) h
 simp only [List.nil_append, List.append_nil, List.length_nil] at this
 exact this
structure BkIn (x : Bk) : Prop where
 f0 : 0 ≤ x.frm
 f1 : x.frm ≤ 99999
 t0 : 0 ≤ x.to
 t1 : x.to ≤ 99999
 lt : x.frm < x.to
theorem worn1_c {H : AHeap} {x y : Bk} (hx : BkIn x) (hy : BkIn y) : Ret Tryz.prog 91 [.agg ⟨bk x⟩, .agg ⟨bk y⟩] H (I (x.frm - y.frm)) H := by
 have h1 := hx.f0
 have h2 := hx.f1
 have h3 := hy.f0
 have h4 := hy.f1
 refine fn_start Tryz.func91 rfl rfl rfl fun hc => ?_
 apply ct_seq
 apply ct_region
 iterate 2 (apply seq_newP; exact do_box rfl rfl rfl; exact rfl)
 apply seq_plain; exact do_assign rfl; exact rfl
 apply seq_nil
 apply ct_seq
 apply ct_region
 apply seq_plain; exact do_fieldAddr rfl rfl; exact rfl
 apply seq_plain; exact do_load rfl (by exact ext_get_new rfl) rfl (by exact rfl); exact rfl
 apply seq_plain; exact do_fieldAddr rfl rfl; exact rfl
 apply seq_plain; exact do_load rfl (by exact ext_get_new rfl) rfl (by exact rfl); exact rfl
 apply seq_plain; exact do_sub rfl rfl (by omega); exact rfl
 apply seq_plain; exact do_assign rfl; exact rfl
 apply seq_nil
 apply ct_ret
 exact fin_flat hc rfl rfl ⟨rfl, rfl⟩
set_option maxHeartbeats 8000000 in
theorem worn_c {H : AHeap} {T : List Bk} {b z c : Nat} {s : Bool} {lim : Int} (hb : own b = true) (hlt : b < H.fresh) (hg : H.get b = some (bkB T z s)) (hn : T.length ≤ 12) (hne : T ≠ []) (hT : ∀ x ∈ T, BkIn x) (h1 : 0 ≤ lim) (h9 : lim ≤ 999999999) :
  Ret Tryz.prog 41 [.slice (some ⟨b, 0, none⟩) T.length c, I lim] H (I (wornL (isort ltB T) lim)) (H.put b (bkB (isort ltB T) z s)) := by
 refine fn_start Tryz.func41 rfl rfl rfl fun hc => ?_
 have cS := sortFuncB_c (H := ext H H.fresh []) (c := c) (g := 91) (caps := []) (cm := fun x y => x.frm - y.frm) hb (by rw [ext_fresh]; exact Nat.lt_of_lt_of_le hlt (nb_ge _)) (ext_get_old hc hg) hn fun x hx y hy H' _ => worn1_c (hT x hx) (hT y hy)
 rw [insB_sort hne] at cS
 obtain ⟨S, hS⟩ : ∃ S, S = isort ltB T := ⟨_, rfl⟩
 have hp : S.Perm T := by rw [hS]; exact isort_perm T
 have hSl := hp.length_eq
 have hSb : ∀ x ∈ S, BkIn x := fun x hx => hT x (hp.mem_iff.1 hx)
 rw [← hS] at cS ⊢
 apply ct_seq
 apply ct_region
 apply seq_plain; exact do_assign rfl; exact rfl
 apply seq_nil
 apply ct_seq
 apply ct_region
 apply seq_plain; exact do_move rfl; exact rfl
 refine seq_callPOC hc hb hlt rfl cS rfl ?_
 clear cS
 have k1 := (Cg.refl hc hg).put (z := z) (s := s) (ro := false) hb hlt (bkB_flat S)
 have hc1 := k1.puts.closed
 have hg1 := k1.at_
 obtain ⟨H1, hH1⟩ : ∃ H1, H1 = H.put b (bkB S z s) := ⟨_, rfl⟩
 rw [← hH1] at k1 hc1 hg1 ⊢
 iterate 2 (apply ct_seq)
 apply ct_region
 apply seq_plain; exact do_move rfl; exact rfl
 apply seq_plain; exact do_lenS rfl rfl rfl; exact rfl
 apply seq_plain; exact do_move rfl; exact rfl
 apply seq_nil
 apply ct_block
 apply ct_loop
 refine lt_meas (α := Nat × Int × List (Option ABlk)) (fun a => [(1, I a.2.1), (9, .slice (some ⟨b, 0, none⟩) T.length c), (10, I T.length), (11, I a.1)]) (fun a => ext H1 (min H.fresh b) a.2.2) (fun a => a.1 ≤ T.length ∧ wornL (S.drop a.1) a.2.1 = wornL S lim ∧ (0 ≤ a.2.1 ∧ a.2.1 ≤ 999999999)) (fun a => T.length - a.1) (fun a ha ih => ?_) (0, lim, []) ⟨Nat.zero_le _, rfl, h1, h9⟩ (by repeat (first | exact sub_nil | apply sub_cons rfl)) (.refl _)
 obtain ⟨i, l2, L⟩ := a
 obtain ⟨hi, hw, hl⟩ := ha
 simp only at hi hw hl ih ⊢
 have ih' := fun i' l' L' a1 a2 a3 a4 => ih (i', l', L') a1 ⟨a2, a3, a4⟩
 simp only at ih'
 clear ih
 apply ct_seq
 apply ct_region
 apply seq_plain; exact do_binInt rfl rfl rfl trivial; exact rfl
 apply seq_nil
 apply ct_seq
 refine ct_cond rfl (fun u => ?_) (fun u => ?_)
 ·have u : i < S.length := by
   have u : decide ((i : Int) < (T.length : Int)) = true := u
   have u := of_decide_eq_true u
   omega
  have hx := hSb _ (List.getElem_mem u)
  have x0 := hx.f0
  have x1 := hx.f1
  have x2 := hx.t0
  have x3 := hx.t1
  have x4 := hx.lt
  have hd : S.drop i = S[i] :: S.drop (i + 1) := List.drop_eq_getElem_cons u
  rw [hd] at hw
  apply ct_skip
  apply ct_seq
  apply ct_block
  apply ct_seq
  apply ct_region
  apply seq_plain; exact do_indexAddrS rfl rfl rfl (by exact idx_nat (by omega)); exact rfl
  apply seq_plain; exact do_load rfl (by exact ext_get_old (by assumption) (by assumption)) rfl (by exact pt_flat bk_len (by omega)); exact rfl
  apply seq_newP; exact do_alloc rfl rfl; exact rfl
  apply seq_putC (hc := by assumption); rotate_left; exact do_store rfl rfl (by exact ext_get_new List.getElem?_concat_length) rfl rfl (nb_own _); rotate_left; exact (by simp)
  iterate 2 (apply ct_seq)
  apply ct_region
  apply seq_plain; exact do_move rfl; exact rfl
  apply seq_plain; exact do_fieldAddr rfl rfl; exact rfl
  apply seq_plain; exact do_load rfl (by exact ext_get_new getSetLast) rfl (by exact rfl); exact rfl
  apply seq_plain; exact do_fieldAddr rfl rfl; exact rfl
  apply seq_plain; exact do_load rfl (by exact ext_get_new getSetLast) rfl (by exact rfl); exact rfl
  apply seq_plain; exact do_sub rfl rfl (by omega); exact rfl
  apply seq_plain; exact do_binInt rfl rfl rfl trivial; exact rfl
  apply seq_nil
  refine ct_cond rfl (fun w => ?_) (fun w => ?_)
  ·have w : l2 ≤ S[i].to - S[i].frm := of_decide_eq_true w
   apply ct_seq
   apply ct_region
   apply seq_plain; exact do_fieldAddr rfl rfl; exact rfl
   apply seq_plain; exact do_load rfl (by exact ext_get_new getSetLast) rfl (by exact rfl); exact rfl
   apply seq_plain; exact do_move rfl; exact rfl
   apply seq_plain; exact do_add rfl rfl (by omega); exact rfl
   apply seq_plain; exact do_sub rfl rfl (by omega); exact rfl
   apply seq_plain; exact do_assign rfl; exact rfl
   apply seq_nil
   apply ct_ret
   refine fin_cg hb hlt ⟨_, _, _, _, rfl, bkB_flat _⟩ k1 rfl rfl ⟨?_, hH1.symm⟩
   rw [show wornL (S[i] :: S.drop (i + 1)) l2 = if l2 ≤ lenB S[i] then S[i].frm + l2 - 1 else wornL (S.drop (i + 1)) (l2 - lenB S[i]) from rfl, if_pos (show l2 ≤ lenB S[i] from w)] at hw
   rw [← hw]; rfl
  ·have w : ¬ l2 ≤ S[i].to - S[i].frm := of_decide_eq_false w
   rw [show wornL (S[i] :: S.drop (i + 1)) l2 = if l2 ≤ lenB S[i] then S[i].frm + l2 - 1 else wornL (S.drop (i + 1)) (l2 - lenB S[i]) from rfl, if_neg (show ¬ l2 ≤ lenB S[i] from w)] at hw
   apply ct_skip
   apply ct_region
   apply seq_plain; exact do_move rfl; exact rfl
   apply seq_plain; exact do_fieldAddr rfl rfl; exact rfl
   apply seq_plain; exact do_load rfl (by exact ext_get_new getSetLast) rfl (by exact rfl); exact rfl
   apply seq_plain; exact do_fieldAddr rfl rfl; exact rfl
   apply seq_plain; exact do_load rfl (by exact ext_get_new getSetLast) rfl (by exact rfl); exact rfl
   iterate 2 (apply seq_plain; exact do_sub rfl rfl (by omega); exact rfl)
   apply seq_plain; exact do_assign rfl; exact rfl
   apply seq_nil
   apply ct_region
   apply seq_plain; exact do_succ rfl (by omega); exact rfl
   apply seq_plain; exact do_move rfl; exact rfl
   apply seq_nil
   have e5 : lenB S[i] = S[i].to - S[i].frm := rfl
   rw [e5] at hw
   exact lt_to (by repeat (first | exact sub_nil | apply sub_cons rfl)) (.refl _) (ih' (i + 1) _ _ (by omega) (by omega) hw (by omega))
 ·have u : i = S.length := by
   have u : decide ((i : Int) < (T.length : Int)) = false := u
   have u := of_decide_eq_false u
   omega
  subst u
  rw [List.drop_length] at hw
  apply ct_exit
  apply exit_eq; exact rfl
  apply ct_seq
  apply ct_region
  apply seq_plain; exact do_assign rfl; exact rfl
  apply seq_nil
  apply ct_ret
  refine fin_cg hb hlt ⟨_, _, _, _, rfl, bkB_flat _⟩ k1 rfl rfl ⟨?_, hH1.symm⟩
  rw [← hw]; rfl
theorem worn0_c {H : AHeap} {lim : Int} : Ret Tryz.prog 41 [.slice none 0 0, I lim] H (I (wornL [] lim)) H := by
 refine fn_start Tryz.func41 rfl rfl rfl fun hc => ?_
 apply ct_seq
 apply ct_region
 apply seq_plain; exact do_assign rfl; exact rfl
 apply seq_nil
 apply ct_seq
 apply ct_region
 apply seq_plain; exact do_move rfl; exact rfl
 apply seq_call (ht := rfl); exact sort0B_c; exact rfl
 apply seq_nil
 iterate 2 (apply ct_seq)
 apply ct_region
 apply seq_plain; exact do_move rfl; exact rfl
 apply seq_plain; exact do_lenS rfl rfl rfl; exact rfl
 apply seq_plain; exact do_move rfl; exact rfl
 apply seq_nil
 apply ct_block
 apply ct_loop
 apply lt_step
 apply ct_seq
 apply ct_region
 apply seq_plain; exact do_binInt rfl rfl rfl trivial; exact rfl
 apply seq_nil
 apply ct_seq
 refine ct_cond_f rfl rfl ?_
 apply ct_exit
 apply exit_eq; exact rfl
 apply ct_seq
 apply ct_region
 apply seq_plain; exact do_assign rfl; exact rfl
 apply seq_nil
 apply ct_ret
 exact fin_flat hc rfl rfl ⟨rfl, rfl⟩
end Go.Proofs.YtmcecjplgalcgaaGreatDoor
