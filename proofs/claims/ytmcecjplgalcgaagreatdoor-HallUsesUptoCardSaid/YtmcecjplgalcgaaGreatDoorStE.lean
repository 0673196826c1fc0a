/- Quotients of integers, as texts. -/
import Derived.Test.YtmcecjplgalcgaaGreatDoorNuG
import Derived.Test.YtmcecjplgalcgaaGreatDoorStC
import Derived.Test.YtmcecjplgalcgaaGreatDoorHaB
noncomputable section
namespace Go.Proofs.YtmcecjplgalcgaaGreatDoor
open Go Go.Den
set_option maxRecDepth 100000
theorem mk_gcd_pos {n d : Int} (h0 : d ≠ 0) : 0 < mkG n d := by
 unfold mkG
 have := Nat.gcd_pos_of_pos_right n.natAbs (show 0 < d.natAbs by omega)
 omega
theorem mkD_pos {n d : Int} (h0 : d ≠ 0) : 1 ≤ mkD n d := by
 have hg := mk_gcd_pos (n := n) h0
 have : mkG n d ≤ (d.natAbs : Int) := by
  unfold mkG
  have := Nat.gcd_le_right n.natAbs (show 0 < d.natAbs by omega)
  omega
 unfold mkD
 exact (Int.le_ediv_iff_mul_le hg).2 (by omega)
theorem mkD_le {n d : Int} : mkD n d ≤ (d.natAbs : Int) := by
 unfold mkD mkG
 exact Int.ediv_le_self _ (by omega)
theorem mkN_abs {n d : Int} : (mkN n d).natAbs ≤ n.natAbs := by
 have e : (sgnN n d).natAbs = n.natAbs := by unfold sgnN; split <;> omega
 unfold mkN
 rw [← e]
 exact Int.natAbs_ediv_le_natAbs _ _
theorem itoa_len {n : Int} (h1 : -9223372036854775808 < n) (h2 : n ≤ 9223372036854775807) : (Lib.itoa n).length ≤ 20 := by
 unfold Lib.itoa
 split
 ·have := decDigits_len n.natAbs 19 (Nat.lt_of_le_of_lt (show n.natAbs ≤ 9223372036854775807 by omega) (by decide)) (by omega)
  simp only [List.length_cons]; omega
 ·have := decDigits_len n.toNat 19 (Nat.lt_of_le_of_lt (show n.toNat ≤ 9223372036854775807 by omega) (by decide)) (by omega)
  omega
def ofS (n d : Int) : List UInt8 := ratS (mkN n d) (mkD n d).toNat
theorem text_c {H : AHeap} {n d : Int} (hG : Glo B0 H) (h1 : -9223372036854775808 < n) (h2 : n ≤ 9223372036854775807) (h3 : 1 ≤ d) (h4 : d ≤ 9223372036854775807) :
  Ret Tryz.prog 142 [.agg ⟨fF n d⟩] H (.string (tx (ratS n d.toNat))) H := by
 refine fn_start Tryz.func142 rfl rfl rfl fun hc => ?_
 have cn := fun lo L => string_c (H := ext H lo L) (n := n) (Glo.ext hG) (by omega) h2
 have cd := fun lo L => string_c (H := ext H lo L) (n := d) (Glo.ext hG) (by omega) h4
 apply ct_seq
 apply ct_region
 apply seq_newP; exact do_box rfl rfl rfl; exact rfl
 apply seq_plain; exact do_assign rfl; exact rfl
 apply seq_nil
 iterate 2 (apply ct_seq)
 apply ct_region
 apply seq_plain; exact do_load rfl (by exact ext_get_new rfl) rfl (by exact rfl); exact rfl
 apply seq_call (ht := rfl); exact isWhole_c; exact rfl
 apply seq_nil
 refine ct_cond rfl (fun u => ?_) (fun u => ?_)
 ·have u : d = 1 := of_decide_eq_true u
  subst u
  apply ct_seq
  apply ct_region
  apply seq_plain; exact do_fieldAddr rfl rfl; exact rfl
  apply seq_plain; exact do_load rfl (by exact ext_get_new rfl) rfl (by exact rfl); exact rfl
  apply seq_call (ht := rfl); exact cn _ _; exact rfl
  apply seq_plain; exact do_assign rfl; exact rfl
  apply seq_nil
  apply ct_ret
  exact fin_flat hc rfl rfl ⟨by rw [show (1 : Int).toNat = 1 from rfl, ratS_one]; rfl, rfl⟩
 ·have u : d ≠ 1 := of_decide_eq_false u
  apply ct_skip
  apply ct_seq
  apply ct_draw (by assumption); decide +kernel
  apply sd_plain (hfree := rfl); intro _; exact do_fieldAddr rfl rfl; exact rfl
  apply sd_look (hfree := rfl); exact do_load rfl (by exact ext_get_new rfl) rfl (by exact rfl); exact rfl
  apply sd_call (ht := rfl); exact cn _ _; exact rfl
  skip
  have l1 := itoa_len h1 h2
  have l2 := itoa_len (n := d) (by omega) h4
  apply sd_plain (hfree := rfl); intro _; exact do_strCat (a := Lib.itoa n) (b := [47]) rfl rfl (by simp only [List.length_singleton]; omega); exact rfl
  apply sd_plain (hfree := rfl); intro _; exact do_fieldAddr rfl rfl; exact rfl
  apply sd_look (hfree := rfl); exact do_load rfl (by exact ext_get_new rfl) rfl (by exact rfl); exact rfl
  apply sd_call (ht := rfl); exact cd _ _; exact rfl
  skip
  apply sd_plain (hfree := rfl); intro _; exact do_strCat (a := Lib.itoa n ++ [47]) (b := Lib.itoa d) rfl rfl (by simp only [List.length_append, List.length_singleton]; omega); exact rfl
  apply sd_plain (hfree := rfl); intro _; exact do_assign rfl; exact rfl
  apply sd_nil
  apply ct_ret
  refine fin_flat hc rfl rfl ⟨?_, rfl⟩
  rw [ratS_more n (show d.toNat ≠ 1 by omega), show (d.toNat : Int) = d by omega]
  simp [packA]
theorem result_c {H : AHeap} {n d : Int} (hG : Glo B0 H) (h1 : -9223372036854775808 < n) (h2 : n ≤ 9223372036854775807) (h3 : 1 ≤ d) (h4 : d ≤ 9223372036854775807) :
  Ret Tryz.prog 92 [.agg ⟨fF n d⟩] H (.tuple ⟨[.string (tx (ratS n d.toNat)), I 0]⟩) H := by
 refine fn_start Tryz.func92 rfl rfl rfl fun hc => ?_
 have ct := fun lo L => text_c (H := ext H lo L) (n := n) (d := d) (Glo.ext hG) h1 h2 h3 h4
 have cl := fun lo L => large_c (H := ext H lo L) (n := n) (d := d) h1 h2 (by omega) h4
 apply ct_seq
 apply ct_region
 apply seq_newP; exact do_box rfl rfl rfl; exact rfl
 iterate 2 (apply seq_plain; exact do_assign rfl; exact rfl)
 apply seq_nil
 iterate 2 (apply ct_seq)
 apply ct_region
 apply seq_plain; exact do_load rfl (by exact ext_get_new rfl) rfl (by exact rfl); exact rfl
 apply seq_call (ht := rfl); exact cl _ _; exact rfl
 apply seq_nil
 refine ct_cond_f rfl rfl ?_
 apply ct_skip
 apply ct_seq
 apply ct_region
 apply seq_plain; exact do_load rfl (by exact ext_get_new rfl) rfl (by exact rfl); exact rfl
 apply seq_call (ht := rfl); exact ct _ _; exact rfl
 iterate 2 (apply seq_plain; exact do_assign rfl; exact rfl)
 apply seq_nil
 apply ct_ret
 exact fin_flat hc rfl rfl ⟨rfl, rfl⟩
theorem of_c {H : AHeap} {n d : Int} (hG : Glo B0 H) (h1 : -9223372036854775808 < n) (h2 : n ≤ 9223372036854775807) (h3 : -9223372036854775808 < d) (h4 : d ≤ 9223372036854775807) (h0 : d ≠ 0) :
  Ret Tryz.prog 45 [I n, I d] H (.tuple ⟨[.string (tx (ofS n d)), I 0]⟩) H := by
 refine fn_start Tryz.func45 rfl rfl rfl fun hc => ?_
 have ed := mkD_le (n := n) (d := d)
 have en := mkN_abs (n := n) (d := d)
 have ep := mkD_pos (n := n) h0
 have cr := fun lo L => result_c (H := ext H lo L) (n := mkN n d) (d := mkD n d) (Glo.ext hG) (by omega) (by omega) ep (by omega)
 have cm := fun lo L => make_c (H := ext H lo L) h1 h2 h3 h4 h0
 apply ct_seq
 apply ct_region
 iterate 2 (apply seq_plain; exact do_assign rfl; exact rfl)
 apply seq_nil
 iterate 2 (apply ct_seq)
 apply ct_region
 apply seq_plain; exact do_move rfl; exact rfl
 apply seq_plain; exact do_binInt rfl rfl rfl trivial; exact rfl
 apply seq_nil
 refine ct_cond_f rfl (decide_eq_false h0) ?_
 apply ct_skip
 apply ct_seq
 apply ct_region
 apply seq_plain; exact do_move rfl; exact rfl
 apply seq_call (ht := rfl); exact numOf_c; exact rfl
 apply seq_plain; exact do_move rfl; exact rfl
 apply seq_call (ht := rfl); exact numOf_c; exact rfl
 apply seq_call (ht := rfl); exact cm _ _; exact rfl
 skip
 apply seq_call (ht := rfl); exact cr _ _; exact rfl
 iterate 2 (apply seq_plain; exact do_extract rfl rfl; exact rfl)
 iterate 2 (apply seq_plain; exact do_assign rfl; exact rfl)
 apply seq_nil
 apply ct_ret
 exact fin_flat hc rfl rfl ⟨rfl, rfl⟩
end Go.Proofs.YtmcecjplgalcgaaGreatDoor
/- Structs of numbers: they are compared, they are keys. -/
noncomputable section
namespace Go.Proofs.YtmcecjplgalcgaaGreatDoor
open Go Go.Den
set_option maxRecDepth 100000
def intsB (P : Program) (t : TypeId) (n : Nat) : Bool := match tyOf P t with
 | some ti => match ti.und with
  | .struct fs => Nat.beq fs.toList.length n && fs.toList.zipIdx.all fun p => !(p.1.name == "_") && (Nat.beq p.1.type 3 && Nat.beq p.1.offset p.2)
  | _ => false
 | none => false
theorem intsB_out {P : Program} {t : TypeId} {n : Nat} (h : intsB P t n = true) : ∃ ti fs, (ctxOf P).ty.get t = some ti ∧ ti.und = .struct fs ∧ fs.toList.length = n ∧ ∀ k (h : k < fs.toList.length), (fs.toList[k].name == "_") = false ∧ fs.toList[k].type = 3 ∧ fs.toList[k].offset = 0 + k := by
 unfold intsB at h
 split at h
 ·rename_i ti hti
  split at h
  ·rename_i fs hfs
   rw [Bool.and_eq_true] at h
   refine ⟨ti, fs, ctx_ty hti, hfs, Nat.eq_of_beq_eq_true h.1, fun k hk => ?_⟩
   have := List.all_eq_true.1 h.2 (fs.toList[k], k) (by
    rw [List.mem_iff_getElem]
    refine ⟨k, by simpa using hk, by simp⟩)
   simp only [Bool.and_eq_true, Bool.not_eq_true'] at this
   refine ⟨this.1, Nat.eq_of_beq_eq_true this.2.1, ?_⟩
   rw [Nat.zero_add]
   exact Nat.eq_of_beq_eq_true this.2.2
  ·cases h
 ·cases h
section
variable {C : Ctx} {xs ys : List Int} {fi : TI}
theorem partA_ints (h2 : isAggD fi.und = false) {k : Nat} (hk : k < xs.length) : partA fi (xs.map I) k = some (I xs[k]) := by
 simp [partA, h2, hk]
theorem eqFs_ints {rec : TypeId → Value → Value → Option Bool} (hrec : ∀ a b : Int, rec 3 (I a) (I b) = some (a == b)) (h1 : C.ty.get 3 = some fi) (h2 : isAggD fi.und = false) : ∀ (fs : List Field) (o : Nat),
  (∀ k (h : k < fs.length), (fs[k].name == "_") = false ∧ fs[k].type = 3 ∧ fs[k].offset = o + k) → o + fs.length = xs.length → o + fs.length = ys.length → eqFs C rec (xs.map I) (ys.map I) fs = some (decide (xs.drop o = ys.drop o))
 | [], o, _, e1, e2 => by
  rw [List.drop_of_length_le (by simp at e1; omega), List.drop_of_length_le (by simp at e2; omega)]
  simp [eqFs]
 | f :: fs, o, h, e1, e2 => by
  obtain ⟨n0, t0, o0⟩ := h 0 (by simp)
  simp only [List.getElem_cons_zero] at n0 t0 o0
  have l1 : o < xs.length := by simp at e1; omega
  have l2 : o < ys.length := by simp at e2; omega
  have ih := eqFs_ints hrec h1 h2 fs (o + 1) (fun k hk => by
   have := h (k + 1) (by simpa using hk)
   simp only [List.getElem_cons_succ] at this
   exact ⟨this.1, this.2.1, by omega⟩) (by simp at e1; omega) (by simp at e2; omega)
  simp only [eqFs, n0, t0, o0, h1, Nat.add_zero, Bool.false_eq_true, if_false, partA_ints h2 l1, partA_ints h2 l2, hrec]
  rw [List.drop_eq_getElem_cons l1, List.drop_eq_getElem_cons l2]
  by_cases e : xs[o] = ys[o]
  ·simp only [e, beq_self_eq_true, ih, List.cons.injEq, true_and]
  ·have : (xs[o] == ys[o]) = false := by simpa using e
   simp only [this, List.cons.injEq, e, false_and, decide_false]
theorem flat_ints2 : (xs.map I).all flatC = true := by
 rw [List.all_eq_true]
 intro v hv
 obtain ⟨y, _, rfl⟩ := List.mem_map.1 hv
 rfl
end
section
variable {t : TypeId} {n : Nat} {xs ys : List Int}
theorem eqV_ints (h : intsB Tryz.prog t n = true) (hs : Tryz.prog.stoodInHeld t = false) (e1 : xs.length = n) (e2 : ys.length = n) : eqV Tryz.prog (ctxOf Tryz.prog) 20 t (.agg ⟨xs.map I⟩) (.agg ⟨ys.map I⟩) = some (decide (xs = ys)) := by
 obtain ⟨ti, fs, h1, h2, h3, h4⟩ := intsB_out h
 obtain ⟨ei, k1, k2, k3, k4⟩ := tyI
 have one : ∀ a b : Int, eqV Tryz.prog (ctxOf Tryz.prog) 19 3 (I a) (I b) = some (a == b) := by
  intro a b
  simp only [eqV, k1, k2]; simp
 rw [eqV]
 simp only [h1, h2, hs, Bool.false_eq_true, if_false]
 have := eqFs_ints (C := ctxOf Tryz.prog) (xs := xs) (ys := ys) (fi := ei) one k1 k4 fs.toList 0 h4 (by omega) (by omega)
 rw [List.drop_zero, List.drop_zero] at this
 exact this
theorem eqA_ints (h : intsB Tryz.prog t n = true) (hs : Tryz.prog.stoodInHeld t = false) (hg : Tryz.prog.eqGuardType Tryz.prog.depth t = false) (e1 : xs.length = n) (e2 : ys.length = n) : eqA Tryz.prog (ctxOf Tryz.prog) t (.agg ⟨xs.map I⟩) (.agg ⟨ys.map I⟩) = some (decide (xs = ys)) := by
 obtain ⟨ti, fs, h1, h2, _⟩ := intsB_out h
 unfold eqA
 simp only [h1, h2, hg, eqV_ints h hs e1 e2]
 simp only [flat_ints2, Bool.and_self, if_true, Bool.false_eq_true, if_false]
end
end Go.Proofs.YtmcecjplgalcgaaGreatDoor
