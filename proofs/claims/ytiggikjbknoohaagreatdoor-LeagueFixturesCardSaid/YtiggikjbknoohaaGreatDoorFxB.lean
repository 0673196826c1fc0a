/- Contracts: the reference's fixtures. -/
import Derived.Test.YtiggikjbknoohaaGreatDoorFxA
import Derived.Test.YtiggikjbknoohaaGreatDoorStB
noncomputable section
namespace Go.Proofs.YtiggikjbknoohaaGreatDoor
open Go Go.Den
set_option maxRecDepth 100000

/-- the k-th pair of a round, but for the first one -/
def pairF (n r k : Nat) : Fx :=
  let c := evenN n - 1
  if k % 2 = 0 then ⟨r, ((r + c - k) % c : Nat), ((r + k) % c : Nat)⟩ else ⟨r, ((r + k) % c : Nat), ((r + c - k) % c : Nat)⟩
def headF (n r : Nat) : List Fx := if n = evenN n then [if r % 2 = 1 then ⟨r, r, (evenN n - 1 : Nat)⟩ else ⟨r, (evenN n - 1 : Nat), r⟩] else []
def rowTo (n r k : Nat) : List Fx := headF n r ++ (List.range (k - 1)).map fun j => pairF n r (j + 1)
def rowF (n r : Nat) : List Fx := rowTo n r (evenN n / 2)
def genF (n : Nat) : List Fx := (List.range (evenN n - 1)).flatMap (rowF n)
theorem tmod_n {a b : Nat} : ((a : Int)).tmod (b : Int) = ((a % b : Nat) : Int) := by
  rw [Int.tmod_eq_emod_of_nonneg (by omega)]; rfl
theorem even_ge {n : Nat} (h : 2 ≤ n) (h2 : n ≤ 24) : 2 ≤ evenN n ∧ evenN n ≤ 24 ∧ n ≤ evenN n ∧ evenN n % 2 = 0 := by
  unfold evenN; omega
theorem quo2 {P : Program} {l : EL} {h : AHeap} {t t' : TypeId} {x y : Operand} {a : Nat} (hx : ev l x = some (.int .i64 (a : Int))) (hy : ev l y = some (.int .i64 2)) (hlt : a < 9223372036854775808) : Does P l (.binOp .quo t x y t') h (.int .i64 ((a / 2 : Nat) : Int)) h := by
  have := do_binInt (P := P) (h := h) (t := t) (t' := t') (op := .quo) (v := wrapI .i64 ((a : Int).tdiv 2)) hx hy rfl trivial
  have e : wrapI .i64 ((a : Int).tdiv 2) = .int .i64 ((a / 2 : Nat) : Int) := by
    have e1 : (a : Int).tdiv 2 = ((a / 2 : Nat) : Int) := by rw [Int.tdiv_eq_ediv_of_nonneg (by omega)]; rfl
    rw [e1]
    show Value.int .i64 (IntKind.i64.wrap _) = _
    rw [wrap_i64 (by omega)]
  rwa [e] at this
theorem row_len {n r k : Nat} (h : evenN n ≤ 24) (hk : k ≤ 24) : (rowTo n r k).length ≤ 30 := by
  unfold rowTo headF
  rw [List.length_append, List.length_map, List.length_range]
  split <;> simp <;> omega
theorem gen_len {n r : Nat} (h : evenN n ≤ 24) (hr : r ≤ 24) : ((List.range r).flatMap (rowF n)).length ≤ 10000 := by
  have : ((List.range r).flatMap (rowF n)).length ≤ r * 30 := by
    clear hr
    induction r with
    | zero => simp
    | succ m ih =>
      rw [List.range_succ, List.flatMap_append, List.length_append]
      have h1 := row_len (n := n) (r := m) (k := evenN n / 2) h (by omega)
      have h2 : ([m].flatMap (rowF n)).length = (rowTo n m (evenN n / 2)).length := by simp [rowF]
      rw [h2]
      omega
  omega

theorem refFixtures_c {H : AHeap} {n : Nat} (h2 : 2 ≤ n) (h24 : n ≤ 24) :
    Ret Tryz.prog 74 [I n] H (lstV H.fresh (genF n)) (lstH H 3 fx (genF n)) := by
  obtain ⟨e1, e2, e3, e4⟩ := even_ge h2 h24
  have ev : (n : Int) + (n : Int).tmod 2 = (evenN n : Nat) := by
    rw [show (2 : Int) = ((2 : Nat) : Int) from rfl, tmod_n]
    simp [evenN]
  refine fn_start Tryz.func74 rfl rfl rfl fun hc => ?_
  apply ct_seq
  apply ct_region
  apply seq_plain; exact do_assign rfl; exact rfl
  apply seq_nil
  apply ct_seq
  apply ct_region
  apply seq_plain; exact do_move rfl; exact rfl
  apply seq_plain; exact do_move rfl; exact rfl
  apply seq_plain; exact do_rem rfl rfl (by decide); exact rfl
  apply seq_plain; exact do_add rfl rfl (by omega); exact rfl
  apply seq_plain; exact do_assign rfl; exact rfl
  apply seq_nil
  apply ct_seq
  apply ct_region
  apply seq_plain; exact do_assign rfl; exact rfl
  apply seq_nil
  apply ct_seq
  apply ct_seq
  apply ct_region
  apply seq_plain; exact do_assign rfl; exact rfl
  apply seq_nil
  apply ct_block
  apply ct_loop
  rw [ev]
  refine lt_meas (α := Nat × Value × List (Option ABlk)) (fun a => [(0, I n), (3, I (evenN n : Nat)), (4, a.2.1), (5, I a.1)]) (fun a => ext H H.fresh a.2.2) (fun a => a.1 ≤ evenN n - 1 ∧ Lst H a.2.2 3 fx 0 a.2.1 ((List.range a.1).flatMap (rowF n))) (fun a => evenN n - 1 - a.1) (fun a ha ih => ?_) (0, .slice none 0 0, []) ⟨by omega, .nil⟩ (by repeat (first | exact sub_nil | apply sub_cons rfl)) (.refl _)
  obtain ⟨r, v, L⟩ := a
  obtain ⟨hr, hv⟩ := ha
  simp only at hr hv ih ⊢
  have ih' := fun r' v' L' a1 a2 a3 => ih (r', v', L') a1 ⟨a2, a3⟩
  simp only at ih'
  clear ih
  have eA : ((evenN n - 1 : Nat) : Int) = (evenN n : Int) - 1 := by omega
  have eL : ∀ (X : List (Option ABlk)) (A B : Option ABlk), (X ++ [A]).set X.length B = X ++ [B] := by intro X A B; simp
  apply ct_seq
  apply ct_seq
  apply ct_region
  apply seq_plain; exact do_move rfl; exact rfl
  apply seq_plain; exact do_move rfl; exact rfl
  apply seq_plain; exact do_predN rfl rfl (by omega) (by omega); exact rfl
  apply seq_plain; exact do_binInt rfl rfl rfl trivial; exact rfl
  apply seq_nil
  refine ct_cond rfl (fun h1 => ?_) (fun h1 => ?_)
  · have h1 : r < evenN n - 1 := by simp at h1; omega
    apply ct_skip
    apply ct_seq
    apply ct_block
    apply ct_seq
    apply ct_seq
    apply ct_region
    apply seq_plain; exact do_move rfl; exact rfl
    apply seq_plain; exact do_move rfl; exact rfl
    apply seq_plain; exact do_binInt rfl rfl rfl trivial; exact rfl
    apply seq_nil
    refine ct_JX (ds := []) (α := Value × List (Option ABlk)) (fun a => [(0, I n), (3, I (evenN n : Nat)), (4, a.1), (5, I r)]) (fun a => ext H H.fresh a.2) (fun a => Lst H a.2 3 fx 0 a.1 ((List.range r).flatMap (rowF n) ++ headF n r)) ?_ (fun a ha => ?_)
    · refine ct_cond rfl (fun h3 => ?_) (fun h3 => ?_)
      · have h3 : n = evenN n := by simp at h3; omega
        obtain ⟨x, hx⟩ : ∃ x : Fx, x = if r % 2 = 1 then ⟨r, r, ((evenN n - 1 : Nat) : Int)⟩ else ⟨r, ((evenN n - 1 : Nat) : Int), r⟩ := ⟨_, rfl⟩
        have hhd : headF n r = [x] := by unfold headF; rw [if_pos h3, hx]
        apply ct_seq
        apply ct_region
        apply seq_plain; exact do_move rfl; exact rfl
        apply seq_plain; exact do_move rfl; exact rfl
        apply seq_plain; exact do_predN rfl rfl (by omega) (by omega); exact rfl
        apply seq_plain; exact do_move rfl; exact rfl
        apply seq_plain; exact do_build rfl rfl rfl rfl; exact rfl
        apply seq_newP; exact do_alloc rfl rfl; exact rfl
        apply seq_putC (hc := by assumption); rotate_left; exact do_store rfl rfl (by exact ext_get_new List.getElem?_concat_length) rfl rfl (nb_own _); rotate_left; exact (by simp)
        apply ct_seq
        apply ct_seq
        apply ct_region
        apply seq_plain; exact do_move rfl; exact rfl
        apply seq_plain; exact do_rem rfl rfl (by decide); exact rfl
        apply seq_plain; exact do_binInt rfl rfl rfl trivial; exact rfl
        apply seq_nil
        rw [eL]
        refine ct_J [(0, I n), (3, I (evenN n : Nat)), (4, v), (5, I r), (6, .pointer (some ⟨nb H L.length, 0, none⟩))] (ds := []) (h := ext H H.fresh (L ++ [some (.cells (fx x) 0 false false)])) ?_ ?_
        · refine ct_cond rfl (fun h5 => ?_) (fun h5 => ?_)
          · have h5 : r % 2 = 1 := by
              have h5 : ((r : Int).tmod 2 == 1) = true := h5
              rw [show (2 : Int) = ((2 : Nat) : Int) from rfl, tmod_n] at h5
              simp at h5; omega
            rw [if_pos h5] at hx
            rw [hx]
            apply ct_region
            apply seq_plain; exact do_move rfl; exact rfl
            apply seq_plain; exact do_move rfl; exact rfl
            apply seq_plain; exact do_move rfl; exact rfl
            apply seq_plain; exact do_predN rfl rfl (by omega) (by omega); exact rfl
            apply seq_plain; exact do_build rfl rfl rfl rfl; exact rfl
            apply seq_plain0
            exact do_store rfl rfl (ext_get_new List.getElem?_concat_length) rfl rfl (nb_own _)
            apply seq_nil
            refine ⟨⟨_, _, rfl, (by repeat (first | exact sub_nil | apply sub_cons rfl)), ?_⟩⟩
            have q := ext_put (lo := H.fresh) (L := L ++ [some (ABlk.cells [I r, I ((evenN n - 1 : Nat) : Int), I r] 0 false false)]) (k := L.length) hc (by simp) (.cells [I r, I r, I ((evenN n - 1 : Nat) : Int)] 0 false false)
            rw [eL] at q
            exact q
          · have h5 : ¬ r % 2 = 1 := by
              have h5 : ((r : Int).tmod 2 == 1) = false := h5
              rw [show (2 : Int) = ((2 : Nat) : Int) from rfl, tmod_n] at h5
              simp at h5; omega
            rw [if_neg h5] at hx
            rw [hx]
            apply ct_skip
            exact jp_of (by repeat (first | exact sub_nil | apply sub_cons rfl))
        have hlen : ((List.range r).flatMap (rowF n)).length ≤ 10000 := gen_len (by omega) (by omega)
        apply ct_region
        apply seq_plain; exact do_move rfl; exact rfl
        apply seq_plain; exact do_load rfl (by exact ext_get_new List.getElem?_concat_length) rfl (by exact rfl); exact rfl
        apply seq_newS; exact do_buildSlice rfl rfl rfl rfl rfl rfl rfl; exact rfl
        refine seq_grow (xs := [x]) hc ((hv.app _).app _) (by omega) (fun _ => rfl) (fun _ => rfl) rfl rfl rfl rfl rfl rfl (ext_get_new List.getElem?_concat_length) rfl (by simp) ?_ (Nat.ne_of_beq_eq_false rfl) (Nat.ne_of_beq_eq_false rfl) rfl (fun v' L3 hv' hst3 hlen3 => ?_)
        · exact Nat.le_trans (Nat.mul_le_mul_right _ (by simp only [List.length_cons, List.length_nil]; omega : _ ≤ 30000)) (Nat.le_of_ble_eq_true rfl)
        apply seq_plain; exact do_assign rfl; exact rfl
        apply seq_nil
        refine jx_of (v', L3) ?_ (by repeat (first | exact sub_nil | apply sub_cons rfl)) rfl
        rw [hhd]; exact hv'
      · have h3 : ¬ n = evenN n := by simp at h3; omega
        have hhd : headF n r = [] := by unfold headF; rw [if_neg h3]
        apply ct_skip
        refine jx_of (v, L) ?_ (by repeat (first | exact sub_nil | apply sub_cons rfl)) rfl
        rw [hhd, List.append_nil]; exact hv
    obtain ⟨v1, L1⟩ := a
    simp only at ha ⊢
    clear hv
    apply ct_seq
    apply ct_region
    apply seq_plain; exact do_assign rfl; exact rfl
    apply seq_nil
    apply ct_block
    apply ct_loop
    refine lt_meas (α := Nat × Value × List (Option ABlk)) (fun a => [(0, I n), (3, I (evenN n : Nat)), (4, a.2.1), (5, I r), (7, I a.1)]) (fun a => ext H H.fresh a.2.2) (fun a => 1 ≤ a.1 ∧ a.1 ≤ evenN n / 2 ∧ Lst H a.2.2 3 fx 0 a.2.1 ((List.range r).flatMap (rowF n) ++ rowTo n r a.1)) (fun a => evenN n - a.1) (fun a hb ih => ?_) (1, v1, L1) ⟨by omega, by omega, by simpa [rowTo] using ha⟩ (by repeat (first | exact sub_nil | apply sub_cons rfl)) (.refl _)
    clear ha
    obtain ⟨k, v, L⟩ := a
    obtain ⟨hk1, hk2, hv⟩ := hb
    simp only at hk1 hk2 hv ih ⊢
    have ih2 := fun k' v' L' a1 a2 a3 a4 => ih (k', v', L') a1 ⟨a2, a3, a4⟩
    simp only at ih2
    clear ih
    apply ct_seq
    apply ct_seq
    apply ct_region
    apply seq_plain; exact do_move rfl; exact rfl
    apply seq_plain; exact do_move rfl; exact rfl
    apply seq_plain; exact quo2 rfl rfl (by omega); exact rfl
    apply seq_plain; exact do_predN rfl rfl (by omega) (by omega); exact rfl
    apply seq_plain; exact do_binInt rfl rfl rfl trivial; exact rfl
    apply seq_nil
    refine ct_cond rfl (fun h3 => ?_) (fun h3 => ?_)
    · have h3 : k ≤ evenN n / 2 - 1 := by simp at h3; omega
      have m1 : (((r : Int) + (k : Int)).tmod ((evenN n - 1 : Nat) : Int) + ((evenN n - 1 : Nat) : Int)).tmod ((evenN n - 1 : Nat) : Int) = (((r + k) % (evenN n - 1) : Nat) : Int) := by
        rw [show (r : Int) + (k : Int) = ((r + k : Nat) : Int) by omega, tmod_n, show (((r + k) % (evenN n - 1) : Nat) : Int) + ((evenN n - 1 : Nat) : Int) = (((r + k) % (evenN n - 1) + (evenN n - 1) : Nat) : Int) by omega, tmod_n, Nat.add_mod_right, Nat.mod_mod]
      have m2 : (((r : Int) - (k : Int)).tmod ((evenN n - 1 : Nat) : Int) + ((evenN n - 1 : Nat) : Int)).tmod ((evenN n - 1 : Nat) : Int) = (((r + (evenN n - 1) - k) % (evenN n - 1) : Nat) : Int) := by
        have e0 : ((r : Int) - (k : Int)).tmod ((evenN n - 1 : Nat) : Int) = (r : Int) - (k : Int) := by
          rcases Int.le_total 0 ((r : Int) - (k : Int)) with hp | hp
          · rw [Int.tmod_eq_emod_of_nonneg hp, Int.emod_eq_of_lt hp (by omega)]
          · have hq : (r : Int) - (k : Int) = -((k : Int) - (r : Int)) := by omega
            rw [hq, Int.neg_tmod, Int.tmod_eq_emod_of_nonneg (by omega), Int.emod_eq_of_lt (by omega) (by omega)]
        rw [e0, show (r : Int) - (k : Int) + ((evenN n - 1 : Nat) : Int) = ((r + (evenN n - 1) - k : Nat) : Int) by omega, tmod_n]
      apply ct_skip
      apply ct_seq
      apply ct_block
      apply ct_seq
      apply ct_region
      apply seq_plain; exact do_move rfl; exact rfl
      apply seq_plain; exact do_move rfl; exact rfl
      apply seq_plain; exact do_add rfl rfl (by omega); exact rfl
      apply seq_plain; exact do_move rfl; exact rfl
      apply seq_plain; exact do_predN rfl rfl (by omega) (by omega); exact rfl
      apply seq_call (ht := rfl); exact modulo_c (by omega) (by omega) (by omega); exact rfl
      rw [m1]
      apply seq_plain; exact do_move rfl; exact rfl
      apply seq_plain; exact do_move rfl; exact rfl
      apply seq_plain; exact do_sub rfl rfl (by omega); exact rfl
      apply seq_plain; exact do_move rfl; exact rfl
      apply seq_plain; exact do_predN rfl rfl (by omega) (by omega); exact rfl
      apply seq_call (ht := rfl); exact modulo_c (by omega) (by omega) (by omega); exact rfl
      rw [m2]
      apply seq_plain; exact do_assign rfl; exact rfl
      apply seq_plain; exact do_assign rfl; exact rfl
      apply seq_nil
      apply ct_seq
      apply ct_seq
      apply ct_region
      apply seq_plain; exact do_move rfl; exact rfl
      apply seq_plain; exact do_rem rfl rfl (by decide); exact rfl
      apply seq_plain; exact do_binInt rfl rfl rfl trivial; exact rfl
      apply seq_nil
      obtain ⟨A, hA⟩ : ∃ A : Nat, A = if k % 2 = 0 then (r + (evenN n - 1) - k) % (evenN n - 1) else (r + k) % (evenN n - 1) := ⟨_, rfl⟩
      obtain ⟨B, hB⟩ : ∃ B : Nat, B = if k % 2 = 0 then (r + k) % (evenN n - 1) else (r + (evenN n - 1) - k) % (evenN n - 1) := ⟨_, rfl⟩
      have hpair : pairF n r k = ⟨r, A, B⟩ := by
        unfold pairF
        rw [hA, hB]
        by_cases h5 : k % 2 = 0 <;> simp [h5]
      refine ct_J [(0, I n), (3, I (evenN n : Nat)), (4, v), (5, I r), (7, I k), (8, I A), (9, I B)] (ds := []) (h := ext H H.fresh L) ?_ ?_
      · refine ct_cond rfl (fun h5 => ?_) (fun h5 => ?_)
        · have h5 : k % 2 = 0 := by
            have h5 : ((k : Int).tmod 2 == 0) = true := h5
            rw [show (2 : Int) = ((2 : Nat) : Int) from rfl, tmod_n] at h5
            simp at h5; omega
          rw [if_pos h5] at hA hB
          rw [hA, hB]
          apply ct_region
          apply seq_plain; exact do_move rfl; exact rfl
          apply seq_plain; exact do_move rfl; exact rfl
          apply seq_plain; exact do_assign rfl; exact rfl
          apply seq_plain; exact do_assign rfl; exact rfl
          apply seq_nil
          exact jp_of (by repeat (first | exact sub_nil | apply sub_cons rfl))
        · have h5 : ¬ k % 2 = 0 := by
            have h5 : ((k : Int).tmod 2 == 0) = false := h5
            rw [show (2 : Int) = ((2 : Nat) : Int) from rfl, tmod_n] at h5
            simp at h5; omega
          rw [if_neg h5] at hA hB
          rw [hA, hB]
          apply ct_skip
          exact jp_of (by repeat (first | exact sub_nil | apply sub_cons rfl))
      have hlen : ((List.range r).flatMap (rowF n)).length ≤ 10000 := gen_len (by omega) (by omega)
      have hlen2 := row_len (n := n) (r := r) (k := k) (by omega) (by omega)
      apply ct_region
      apply seq_plain; exact do_move rfl; exact rfl
      apply seq_plain; exact do_move rfl; exact rfl
      apply seq_plain; exact do_move rfl; exact rfl
      apply seq_plain; exact do_move rfl; exact rfl
      apply seq_plain; exact do_build rfl rfl rfl rfl; exact rfl
      apply seq_newS; exact do_buildSlice rfl rfl rfl rfl rfl rfl rfl; exact rfl
      refine seq_grow (xs := [⟨r, A, B⟩]) hc (hv.app _) (by omega) (fun _ => rfl) (fun _ => rfl) rfl rfl rfl rfl rfl rfl (ext_get_new List.getElem?_concat_length) rfl (by simp) ?_ (Nat.ne_of_beq_eq_false rfl) (Nat.ne_of_beq_eq_false rfl) rfl (fun v' L3 hv' hst3 hlen3 => ?_)
      · exact Nat.le_trans (Nat.mul_le_mul_right _ (by simp only [List.length_cons, List.length_nil, List.length_append]; omega : _ ≤ 30000)) (Nat.le_of_ble_eq_true rfl)
      apply seq_plain; exact do_assign rfl; exact rfl
      apply seq_nil
      apply ct_region
      apply seq_plain; exact do_move rfl; exact rfl
      apply seq_plain; exact do_succ rfl (by omega); exact rfl
      apply seq_plain; exact do_assign rfl; exact rfl
      apply seq_nil
      refine lt_sub (by repeat (first | exact sub_nil | apply sub_cons rfl)) (ih2 (k + 1) v' L3 (by omega) (by omega) (by omega) ?_)
      have e : rowTo n r (k + 1) = rowTo n r k ++ [⟨r, A, B⟩] := by
        unfold rowTo
        rw [Nat.add_sub_cancel, List.append_assoc]
        obtain ⟨k', rfl⟩ : ∃ k', k = k' + 1 := ⟨k - 1, by omega⟩
        rw [Nat.add_sub_cancel, List.range_succ, List.map_append, ← hpair]; rfl
      rw [e, ← List.append_assoc]; exact hv'
    · have h3 : k = evenN n / 2 := by simp at h3; omega
      subst h3
      apply ct_exit
      apply exit_eq; exact rfl
      apply ct_region
      apply seq_plain; exact do_move rfl; exact rfl
      apply seq_plain; exact do_succ rfl (by omega); exact rfl
      apply seq_plain; exact do_assign rfl; exact rfl
      apply seq_nil
      refine lt_sub (by repeat (first | exact sub_nil | apply sub_cons rfl)) (ih' (r + 1) v L (by omega) (by omega) ?_)
      rw [List.range_succ, List.flatMap_append]
      simpa [rowF] using hv
  · have h1 : r = evenN n - 1 := by simp at h1; omega
    subst h1
    apply ct_exit
    apply exit_eq; exact rfl
    apply ct_seq
    apply ct_region
    apply seq_plain; exact do_move rfl; exact rfl
    apply seq_plain; exact do_assign rfl; exact rfl
    apply seq_nil
    apply ct_ret
    exact fin_lst hc hv rfl (fun _ => rfl) ⟨rfl, rfl⟩
end Go.Proofs.YtiggikjbknoohaaGreatDoor
