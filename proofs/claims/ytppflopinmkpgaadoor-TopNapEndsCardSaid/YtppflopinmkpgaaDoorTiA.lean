/- Contracts: copies, the greatest of a list, what is wrong with points that are to make a team the first one. -/
import Derived.Test.YtppflopinmkpgaaDoorElG
import Derived.Test.YtppflopinmkpgaaDoorSxP
noncomputable section
namespace Go.Proofs.YtppflopinmkpgaaDoor
open Go Go.Den
set_option maxRecDepth 10000

section
variable {P : Program} {l : EL} {h : AHeap}
/-- append to a list that was written without elements -/
theorem do_appendE {args : Array Operand} {tys : Array TypeId} {st : TypeId} {r : List TypeId} {b o n c m by' z z0 b0 : Nat} {ag k ro ro0 : Bool} {e : TypeId} {zs cs new : List Value} (ha : evs l args.toList = some [.slice (some ⟨b0, 0, none⟩) 0 0, .slice (some ⟨b, o, none⟩) n c]) (hty : tys.toList = st :: st :: r)
    (hs : selOf P st = some (m, ag)) (he : (tyOf P st).map (·.und) = some (.slice e)) (hz : zerOf P e = some zs) (hby : (tyOf P e).map (·.bytes) = some by')
    (hb : h.get b = some (.cells cs z k ro)) (hn : sliceIn cs o (n * m) = some new) (h0 : h.get b0 = some (.cells [] z0 false ro0)) (h1 : (2 * (0 + n) + 1000) * by' ≤ 2 ^ 48) (h2 : by' ≠ 0) (h3 : m ≠ 0) (h4 : 0 < n) :
    Does P l (.call ⟨.builtin .append, args, tys⟩) h (.slice (some ⟨h.fresh, 0, none⟩) n n) (h.add (.cells new m true false)) := by
  refine do_builtin ha ?_
  rw [hty]
  obtain ⟨ei, e1, e2⟩ := appendA_of (r := r) (c := c) hs he hz hby hb hn (s := .slice (some ⟨b0, 0, none⟩) 0 0) rfl h1 h2 h3
  simp only [biA, e2, pushA]
  rw [if_neg (by omega)]
  have hold : sliceIn ([] : List Value) 0 0 = some [] := by simp [sliceIn]
  have hx : exactCap h b0 0 0 = true := by simp [exactCap, h0]
  simp [h0, e1, hold, hx]
end
theorem sliceIn_some {cs x : List Value} {o n : Nat} : sliceIn cs o n = some x ↔ (cs.drop o).take n = x ∧ x.length = n := by
  constructor
  · intro h
    simp only [sliceIn] at h
    split at h
    · rename_i hh
      cases h
      exact ⟨rfl, by simpa using hh⟩
    · cases h
  · rintro ⟨rfl, h⟩
    simp [sliceIn, h]
theorem slAt_all {cs : List Value} : ∀ {l : List Int} {o : Nat}, (∀ i (h : i < l.length), sliceIn cs (o + i * 1) 1 = some (i1 l[i])) → sliceIn cs o (l.length * 1) = some (l.map I)
  | [], o, _ => by simp [sliceIn]
  | a :: r, o, hw => by
    have h0 := hw 0 (by simp)
    simp only [Nat.zero_mul, Nat.add_zero, List.getElem_cons_zero] at h0
    have hr := slAt_all (cs := cs) (l := r) (o := o + 1) (fun i hi => by
      have := hw (i + 1) (by simpa using hi)
      rw [show o + (i + 1) * 1 = o + 1 + i * 1 by omega] at this
      simpa using this)
    rw [sliceIn_some] at h0 hr ⊢
    simp only [Nat.mul_one] at hr ⊢
    cases hd : cs.drop o with
    | nil => rw [hd] at h0; simp at h0
    | cons x xs =>
      have hd1 : cs.drop (o + 1) = xs := by rw [← List.drop_drop, hd]; rfl
      rw [hd] at h0
      rw [hd1] at hr
      have hx : x = I a := by simpa using h0.1
      refine ⟨?_, by simp⟩
      rw [List.length_cons, List.take_succ_cons, hr.1, hx]; rfl

theorem clone_c {H : AHeap} {q : Option Addr} {c : Nat} {l : List Int} (hs : SlAt H 1 i1 q l) (hn : l.length < 1000000000000) (hne : l ≠ []) :
    Ret Tryd.prog 46 [.slice q l.length c] H (.slice (some ⟨H.fresh, 0, none⟩) l.length l.length) (H.add (.cells (l.map I) 1 true false)) := by
  have h0 : 0 < l.length := List.length_pos_iff.2 hne
  obtain ⟨b, o, cs, z, s, ro, rfl, hg, hw⟩ := hs.out hne
  refine fn_start Tryd.func46 rfl rfl rfl fun hc => ?_
  apply ct_seq
  apply ct_region
  apply seq_plain; exact do_assign rfl; exact rfl
  apply seq_nil
  apply ct_seq
  apply ct_seq
  apply ct_region
  apply seq_plain; exact do_move rfl; exact rfl
  apply seq_plain; exact do_eqlNilS rfl rfl rfl; exact rfl
  apply seq_nil
  refine ct_cond_f rfl rfl ?_
  apply ct_skip
  apply ct_seq
  apply ct_region
  apply seq_newS; exact do_buildSlice rfl rfl rfl rfl rfl rfl rfl; exact rfl
  apply seq_plain; exact do_move rfl; exact rfl
  apply seq_newS; exact do_appendE rfl rfl rfl rfl rfl rfl (ext_get_old hc hg) (slAt_all hw) (ext_get_new rfl) (Nat.le_trans (Nat.mul_le_mul_right _ (by omega : 2 * (0 + l.length) + 1000 ≤ 3000000000000)) (Nat.le_of_ble_eq_true rfl)) (Nat.ne_of_beq_eq_false rfl) (Nat.ne_of_beq_eq_false rfl) h0; exact rfl
  apply seq_plain; exact do_assign rfl; exact rfl
  apply seq_nil
  apply ct_ret
  exact fin_one (k := 1) hc rfl rfl (flat_ints _) (by simp [packA, renV, renOf_one ⟨own_iff.1 (nb_own 1), nb_ge 1⟩]) ⟨rfl, rfl⟩

def maxL (l : List Int) : Int := l.foldl max (l.headD 0)
theorem foldl_max {x : Int} : ∀ {l : List Int} {a : Int}, x < l.foldl max a ↔ x < a ∨ ∃ y ∈ l, x < y
  | [], a => by simp
  | b :: r, a => by
    rw [List.foldl_cons, foldl_max (l := r)]
    simp only [List.mem_cons, exists_eq_or_imp]
    have : x < max a b ↔ x < a ∨ x < b := by omega
    rw [this, or_assoc]
theorem maxL_gt {l : List Int} {x : Int} (hne : l ≠ []) : decide (maxL l > x) = l.any fun y => decide (y > x) := by
  rw [Bool.eq_iff_iff, decide_eq_true_eq, List.any_eq_true]
  have := foldl_max (x := x) (l := l) (a := l.headD 0)
  unfold maxL
  constructor
  · intro h
    rcases this.1 h with h | ⟨y, h1, h2⟩
    · cases l with
      | nil => exact absurd rfl hne
      | cons a r => exact ⟨a, by simp, by simpa using h⟩
    · exact ⟨y, h1, by simpa using h2⟩
  · rintro ⟨y, h1, h2⟩
    exact this.2 (.inr ⟨y, h1, by simpa using h2⟩)

theorem max_c {H : AHeap} {q : Option Addr} {c : Nat} {l : List Int} (hs : SlAt H 1 i1 q l) (hn : l.length < 1000000000000) (hne : l ≠ []) :
    Ret Tryd.prog 47 [.slice q l.length c] H (I (maxL l)) H := by
  have h0 : 0 < l.length := List.length_pos_iff.2 hne
  obtain ⟨b, o, cs, z, s, ro, rfl, hg, hw⟩ := hs.out hne
  have hhd : l.headD 0 = l[0] := by cases l with | nil => exact absurd rfl hne | cons a r => rfl
  refine fn_start Tryd.func47 rfl rfl rfl fun hc => ?_
  apply ct_seq
  apply ct_region
  apply seq_plain; exact do_assign rfl; exact rfl
  apply seq_nil
  apply ct_seq
  apply ct_seq
  apply ct_region
  apply seq_plain; exact do_move rfl; exact rfl
  apply seq_plain; exact do_lenS rfl rfl rfl; exact rfl
  apply seq_plain; exact do_binInt rfl rfl rfl trivial; exact rfl
  apply seq_nil
  refine ct_cond_f rfl (by simp; omega) ?_
  apply ct_skip
  apply ct_seq
  apply ct_region
  apply seq_plain; exact do_move rfl; exact rfl
  apply seq_plain; exact do_indexAddrS rfl rfl rfl (by exact idx_nat (by omega)); exact rfl
  apply seq_plain; exact do_load rfl (by exact ext_get_old (by assumption) (by assumption)) rfl (by exact pt_sl0 (by assumption) (by omega)); exact rfl
  apply seq_plain; exact do_assign rfl; exact rfl
  apply seq_nil
  apply ct_seq
  apply ct_seq
  apply ct_region
  apply seq_plain; exact do_assign rfl; exact rfl
  apply seq_nil
  apply ct_block
  apply ct_loop
  refine lt_up (fun i => [(0, .slice (some ⟨b, o, none⟩) l.length c), (3, I ((l.take i).foldl max (l.headD 0))), (4, I i)]) (fun i => 1 ≤ i) l.length (fun i hi hJ ih => ?_) 1 (by omega) (Nat.le_refl _) (by rw [show (l.take 1).foldl max (l.headD 0) = l[0] by cases l with | nil => exact absurd rfl hne | cons a r => simp]; (repeat (first | exact sub_nil | apply sub_cons rfl)))
  apply ct_seq
  apply ct_seq
  apply ct_region
  apply seq_plain; exact do_move rfl; exact rfl
  apply seq_plain; exact do_move rfl; exact rfl
  apply seq_plain; exact do_lenS rfl rfl rfl; exact rfl
  apply seq_plain; exact do_binInt rfl rfl rfl trivial; exact rfl
  apply seq_nil
  refine ct_cond rfl (fun h1 => ?_) (fun h1 => ?_)
  · simp only [decide_eq_true_eq, Int.ofNat_lt] at h1
    have e1 : (l.take (i + 1)).foldl max (l.headD 0) = max ((l.take i).foldl max (l.headD 0)) l[i] := by rw [take_snoc h1, List.foldl_append]; rfl
    apply ct_skip
    apply ct_seq
    apply ct_block
    apply ct_region
    apply seq_plain; exact do_move rfl; exact rfl
    apply seq_plain; exact do_move rfl; exact rfl
    apply seq_plain; exact do_move rfl; exact rfl
    apply seq_plain; exact do_indexAddrS rfl rfl rfl (by exact idx_nat (by omega)); exact rfl
    apply seq_plain; exact do_load rfl (by exact ext_get_old (by assumption) (by assumption)) rfl (by exact pt_sl0 (by assumption) (by omega)); exact rfl
    apply seq_plain; exact do_max rfl; exact rfl
    apply seq_plain; exact do_assign rfl; exact rfl
    apply seq_nil
    apply ct_region
    apply seq_plain; exact do_move rfl; exact rfl
    apply seq_plain; exact do_succ rfl (by omega); exact rfl
    apply seq_plain; exact do_assign rfl; exact rfl
    apply seq_nil
    have ih := ih (i + 1) (by omega) (by omega) (by omega)
    rw [e1] at ih
    exact lt_sub (by repeat (first | exact sub_nil | apply sub_cons rfl)) ih
  · simp only [decide_eq_false_iff_not, Int.ofNat_lt] at h1
    rw [take_all (by omega)]
    apply ct_exit
    apply exit_eq; exact rfl
    apply ct_seq
    apply ct_region
    apply seq_plain; exact do_move rfl; exact rfl
    apply seq_plain; exact do_assign rfl; exact rfl
    apply seq_nil
    apply ct_ret
    exact fin_flat hc rfl rfl ⟨rfl, rfl⟩

theorem farT_c {H : AHeap} {k : Int} : Ret Tryd.prog 45 [I k] H (.bool (outL k 0 2)) H := by
  refine fn_start Tryd.func45 rfl rfl rfl fun hc => ?_
  apply ct_seq
  apply ct_region
  apply seq_plain; exact do_assign rfl; exact rfl
  apply seq_nil
  apply ct_seq
  apply ct_region
  apply seq_plain; exact do_move rfl; exact rfl
  apply seq_plain; exact do_binInt rfl rfl rfl trivial; exact rfl
  apply seq_plain; exact do_move rfl; exact rfl
  refine seq_gsplit rfl rfl (fun hb => ?_) (fun hb => ?_)
  · apply seq_passed (hd := rfl) (hl := rfl) (hb := rfl); exact rfl
    apply seq_passed (hd := rfl) (hl := rfl) (hb := rfl); exact rfl
    apply seq_plain; exact do_pick_t rfl rfl; exact rfl
    apply seq_plain; exact do_assign rfl; exact rfl
    apply seq_nil
    apply ct_ret
    refine fin_flat hc rfl rfl ⟨?_, rfl⟩
    simp at hb
    simp [packA, outL, hb]
  · apply seq_guard (hd := rfl) (hl := rfl); exact do_move rfl; exact rfl
    apply seq_guard (hd := rfl) (hl := rfl); exact do_binInt rfl rfl rfl trivial; exact rfl
    apply seq_plain; exact do_pick_f rfl rfl; exact rfl
    apply seq_plain; exact do_assign rfl; exact rfl
    apply seq_nil
    apply ct_ret
    refine fin_flat hc rfl rfl ⟨?_, rfl⟩
    simp at hb
    have : ¬ k < 0 := by omega
    simp [packA, outL, this]
end Go.Proofs.YtppflopinmkpgaaDoor
