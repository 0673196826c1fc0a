/- Contracts: counts of home matches; same lists; copies. -/
import Derived.Test.YtiggikjbknoohaaGreatDoorFnE
noncomputable section
namespace Go.Proofs.YtiggikjbknoohaaGreatDoor
open Go Go.Den
set_option maxRecDepth 10000

theorem take_snoc {α : Type} {l : List α} {i : Nat} (h : i < l.length) : l.take (i + 1) = l.take i ++ [l[i]] := by
  rw [List.take_add_one, List.getElem?_eq_getElem h]; rfl

theorem take_all {α : Type} {l : List α} {i : Nat} (h : l.length ≤ i) : l.take i = l := List.take_of_length_le h
def ownV (H : AHeap) (k : Nat) : Nat → Value
  | 0 => .slice none 0 0
  | i + 1 => .slice (some ⟨nb H k, 0, none⟩) (i + 1) (i + 1)
theorem fx_len (x : Fx) : (fx x).length = 3 := rfl
theorem flat_fx (m : List Fx) : (m.flatMap fx).all (flatD 8) = true := by
  rw [List.all_eq_true]
  intro x hx
  obtain ⟨y, _, hy⟩ := List.mem_flatMap.1 hx
  simp only [fx, List.mem_cons, List.not_mem_nil, or_false] at hy
  rcases hy with rfl | rfl | rfl <;> rfl

theorem own55 {H : AHeap} {q : Option Addr} {c : Nat} {l : List Fx} (hs : SlAt H 3 fx q l) (hn : l.length < 1000000000000) :
    CallT Tryz.prog 55 [.slice q l.length c] H (fun v h => (l = [] ∧ v = .slice none 0 0 ∧ h = H) ∨ (v = .slice (some ⟨H.fresh, 0, none⟩) l.length l.length ∧ h = H.add (.cells (l.flatMap fx) 3 true false))) := by
  refine fn_start Tryz.func55 rfl rfl rfl fun hc => ?_
  apply ct_seq
  apply ct_region
  apply seq_plain; exact do_assign rfl; exact rfl
  apply seq_nil
  apply ct_seq
  apply ct_region
  apply seq_plain; exact do_assign rfl; exact rfl
  apply seq_nil
  apply ct_seq
  apply ct_seq
  apply ct_region
  apply seq_plain; exact do_assign rfl; exact rfl
  apply seq_nil
  apply ct_block
  apply ct_loop
  refine lt_meas (α := Nat × List (Option ABlk) × Nat) (fun a => [(0, .slice q l.length c), (3, ownV H a.2.2 a.1), (4, I a.1)]) (fun a => ext H H.fresh a.2.1) (fun a => a.1 ≤ l.length ∧ (0 < a.1 → a.2.1[a.2.2]? = some (some (.cells ((l.take a.1).flatMap fx) 3 true false)))) (fun a => l.length - a.1) (fun a ha ih => ?_) (0, [], 0) ⟨by omega, fun h => absurd h (by simp)⟩ (by repeat (first | exact sub_nil | apply sub_cons rfl)) (.refl _)
  obtain ⟨i, L, k⟩ := a
  obtain ⟨hi, hJ⟩ := ha
  simp only at hi hJ ih ⊢
  have ih' := fun i' L' k' a1 a2 a3 => ih (i', L', k') a1 ⟨a2, a3⟩
  simp only at ih'
  clear ih
  apply ct_seq
  apply ct_seq
  apply ct_region
  apply seq_plain; exact do_move rfl; exact rfl
  apply seq_plain; exact do_move rfl; exact rfl
  apply seq_plain; exact do_lenS rfl rfl rfl; exact rfl
  apply seq_plain; exact do_binInt rfl rfl rfl trivial; exact rfl
  apply seq_nil
  refine ct_cond rfl (fun h1 => ?_) (fun h1 => ?_)
  · simp only [decide_eq_true_eq, Int.ofNat_lt] at h1
    obtain ⟨b, o, cs, z, s, ro, rfl, hg, hw⟩ := hs.out (by intro e; rw [e] at h1; simp at h1)
    apply ct_skip
    apply ct_seq
    apply ct_block
    apply ct_region
    apply seq_plain; exact do_move rfl; exact rfl
    apply seq_plain; exact do_move rfl; exact rfl
    apply seq_plain; exact do_move rfl; exact rfl
    apply seq_plain; exact do_indexAddrS rfl rfl rfl (by exact idx_nat (by omega)); exact rfl
    apply seq_plain; exact do_load rfl (by exact ext_get_old (by assumption) (by assumption)) rfl (by exact pt_sl (by assumption) (by omega)); exact rfl
    apply seq_newS; exact do_buildSlice rfl rfl rfl rfl rfl rfl rfl; exact rfl
    cases i with
    | zero =>
      apply seq_newS
      refine do_append0 rfl rfl rfl rfl rfl rfl (ext_get_new List.getElem?_concat_length) rfl (Nat.le_of_ble_eq_true rfl) (Nat.ne_of_beq_eq_false rfl) (Nat.ne_of_beq_eq_false rfl) (by omega)
      exact rfl
      apply seq_plain; exact do_assign rfl; exact rfl
      apply seq_nil
      apply ct_region
      apply seq_plain; exact do_move rfl; exact rfl
      apply seq_plain; exact do_succ rfl (by omega); exact rfl
      apply seq_plain; exact do_assign rfl; exact rfl
      apply seq_nil
      exact lt_sub (by repeat (first | exact sub_nil | apply sub_cons rfl)) (ih' 1 _ _ (by omega) (by omega) (by
        intro _
        rw [take_snoc h1]
        exact List.getElem?_concat_length))
    | succ i =>
      have hJ := hJ (by omega)
      have hk : k < L.length := (List.getElem?_eq_some_iff.1 hJ).1
      apply seq_push hc (k := k) (by rw [List.length_append]; omega)
      refine do_append1 rfl rfl rfl rfl rfl rfl (ext_get_new List.getElem?_concat_length) rfl (ext_get_new (by rw [List.getElem?_append_left hk]; exact hJ)) ?_ (nb_own _) rfl ?_ (Nat.ne_of_beq_eq_false rfl) (Nat.ne_of_beq_eq_false rfl) (by omega)
      · rw [len_flat fx_len, List.length_take, Nat.min_eq_left (by omega)]; rfl
      · exact Nat.le_trans (Nat.mul_le_mul_right _ (by omega : 2 * (i + 1 + 1) + 1000 ≤ 3000000000000)) (Nat.le_of_ble_eq_true rfl)
      · rfl
      apply seq_plain; exact do_assign rfl; exact rfl
      apply seq_nil
      apply ct_region
      apply seq_plain; exact do_move rfl; exact rfl
      apply seq_plain; exact do_succ rfl (by omega); exact rfl
      apply seq_plain; exact do_assign rfl; exact rfl
      apply seq_nil
      exact lt_sub (by repeat (first | exact sub_nil | apply sub_cons rfl)) (ih' (i + 1 + 1) _ _ (by omega) (by omega) (by
        intro _
        rw [take_snoc h1, List.flatMap_append]
        rw [List.getElem?_append_right (by simp)]
        simp
        exact ⟨rfl, rfl⟩))
  · simp only [decide_eq_false_iff_not, Int.ofNat_lt] at h1
    have hl : i = l.length := by omega
    subst hl
    apply ct_exit
    apply exit_eq; exact rfl
    apply ct_seq
    apply ct_region
    apply seq_plain; exact do_move rfl; exact rfl
    apply seq_plain; exact do_assign rfl; exact rfl
    apply seq_nil
    apply ct_ret
    cases hz : l.length with
    | zero =>
      have : l = [] := List.length_eq_zero_iff.1 hz
      subst this
      exact fin_flat hc rfl rfl (.inl ⟨rfl, rfl, rfl⟩)
    | succ m =>
      have hJ := hJ (by omega)
      rw [take_all (Nat.le_refl _)] at hJ
      exact fin_one (k := k) hc rfl hJ (flat_fx _) (by simp [packA, ownV, renV, renOf_one ⟨own_iff.1 (nb_own k), nb_ge k⟩]) (.inr ⟨rfl, rfl⟩)
