/- Contracts: counts of home matches; same lists; copies. -/
import Derived.Test.YtiggikjbknoohaaGreatDoorFnE
noncomputable section
namespace Go.Proofs.YtiggikjbknoohaaGreatDoor
open Go Go.Den
set_option maxRecDepth 10000

theorem sameInts79 {H : AHeap} {p q : Option Addr} {c c' : Nat} {l m : List Int} (hs : SlAt H 1 i1 p l) (ht : SlAt H 1 i1 q m) (hn : l.length < 1000000000000) :
    Ret Tryz.prog 79 [.slice p l.length c, .slice q m.length c'] H (.bool (decide (l = m))) H := by
  refine fn_start Tryz.func79 rfl rfl rfl fun hc => ?_
  apply ct_seq
  apply ct_region
  apply seq_plain; exact do_assign rfl; exact rfl
  apply seq_nil
  apply ct_seq
  apply ct_seq
  apply ct_region
  apply seq_plain; exact do_move rfl; exact rfl
  apply seq_plain; exact do_lenS rfl rfl rfl; exact rfl
  apply seq_plain; exact do_move rfl; exact rfl
  apply seq_plain; exact do_lenS rfl rfl rfl; exact rfl
  apply seq_plain; exact do_binInt rfl rfl rfl trivial; exact rfl
  apply seq_nil
  refine ct_cond rfl (fun hb => ?_) (fun hb => ?_)
  · apply ct_seq
    apply ct_region
    apply seq_plain; exact do_assign rfl; exact rfl
    apply seq_nil
    apply ct_ret
    refine fin_flat hc rfl rfl ⟨?_, rfl⟩
    have : l ≠ m := by
      intro e
      subst e
      have hb : (((l.length : Int)) != (l.length : Int)) = true := hb
      simp at hb
    simp [packA, this]
  · have hlen : l.length = m.length := by
      have hb : (((l.length : Int)) != (m.length : Int)) = false := hb
      simp at hb; omega
    apply ct_skip
    apply ct_seq
    apply ct_seq
    apply ct_region
    apply seq_plain; exact do_assign rfl; exact rfl
    apply seq_nil
    apply ct_block
    apply ct_loop
    refine lt_up (fun i => [(0, .slice p l.length c), (1, .slice q m.length c'), (5, I i)]) (fun i => ∀ j (hj : j < l.length), j < i → l[j] = m[j]'(by omega)) l.length (fun i hi hJ ih => ?_) 0 (by omega) (by intros; omega) (by repeat (first | exact sub_nil | apply sub_cons rfl))
    apply ct_seq
    apply ct_seq
    apply ct_region
    apply seq_plain; exact do_move rfl; exact rfl
    apply seq_plain; exact do_move rfl; exact rfl
    apply seq_plain; exact do_lenS rfl rfl rfl; exact rfl
    apply seq_plain; exact do_binInt rfl rfl rfl trivial; exact rfl
    apply seq_nil
    refine ct_cond rfl (fun h1 => ?_) (fun h1 => ?_)
    · simp only [decide_eq_true_eq, Int.ofNat_lt] at h1
      have h1' : i < m.length := by omega
      obtain ⟨b, o, cs, z, s, ro, rfl, hg, hw⟩ := hs.out (by intro e; rw [e] at h1; simp at h1)
      obtain ⟨b', o', cs', z', s', ro', rfl, hg', hw'⟩ := ht.out (by intro e; rw [e] at h1'; simp at h1')
      apply ct_skip
      apply ct_seq
      apply ct_block
      apply ct_seq
      apply ct_draw (by assumption); decide +kernel
      apply sd_plain (hfree := rfl); intro _; exact do_move rfl; exact rfl
      apply sd_plain (hfree := rfl); intro _; exact do_move rfl; exact rfl
      apply sd_plain (hfree := rfl); intro _; exact do_indexAddrS rfl rfl rfl (by exact idx_nat (by omega)); exact rfl
      apply sd_look (hfree := rfl); exact do_load rfl (by exact ext_get_old (by assumption) (by assumption)) rfl (by exact pt_sl0 (by assumption) (by omega)); exact rfl
      apply sd_plain (hfree := rfl); intro _; exact do_move rfl; exact rfl
      apply sd_plain (hfree := rfl); intro _; exact do_move rfl; exact rfl
      apply sd_plain (hfree := rfl); intro _; exact do_indexAddrS rfl rfl rfl (by exact idx_nat (by omega)); exact rfl
      apply sd_look (hfree := rfl); exact do_load rfl (by exact ext_get_old (by assumption) (by assumption)) rfl (by exact pt_sl0 (by assumption) (by omega)); exact rfl
      apply sd_plain (hfree := rfl); intro _; exact do_binInt rfl rfl rfl trivial; exact rfl
      apply sd_nil
      refine ct_cond rfl (fun h2 => ?_) (fun h2 => ?_)
      · apply ct_seq
        apply ct_region
        apply seq_plain; exact do_assign rfl; exact rfl
        apply seq_nil
        apply ct_ret
        refine fin_flat hc rfl rfl ⟨?_, rfl⟩
        have : l ≠ m := by
          intro e
          subst e
          have h2 : (l[i] != l[i]) = true := h2
          simp at h2
        simp [packA, this]
      · apply ct_skip
        apply ct_region
        apply seq_plain; exact do_move rfl; exact rfl
        apply seq_plain; exact do_succ rfl (by omega); exact rfl
        apply seq_plain; exact do_assign rfl; exact rfl
        apply seq_nil
        refine lt_sub ?_ (ih (i + 1) (by omega) (by omega) fun j hj hji => ?_)
        · (repeat (first | exact sub_nil | apply sub_cons rfl))
        · rcases Nat.lt_or_ge j i with h | h
          · exact hJ j hj h
          · have : j = i := by omega
            subst this
            have h2 : (l[j] != m[j]) = false := h2
            simpa using h2
    · simp only [decide_eq_false_iff_not, Int.ofNat_lt] at h1
      apply ct_exit
      apply exit_eq; exact rfl
      apply ct_seq
      apply ct_region
      apply seq_plain; exact do_assign rfl; exact rfl
      apply seq_nil
      apply ct_ret
      refine fin_flat hc rfl rfl ⟨?_, rfl⟩
      have : l = m := List.ext_getElem hlen fun j hj _ => hJ j hj (by omega)
      simp [packA, this]

/-- how many home matches each has -/
def tally (l : List Fx) (c : List Int) : List Int := l.foldl (fun c x => c.set x.home.toNat (c[x.home.toNat]?.getD 0 + 1)) c
theorem tally_len : ∀ {l : List Fx} {c : List Int}, (tally l c).length = c.length
  | [], _ => rfl
  | x :: r, c => by rw [tally, List.foldl_cons]; exact (tally_len (l := r)).trans (by simp)
theorem tally_snoc {l : List Fx} {x : Fx} {c : List Int} : tally (l ++ [x]) c = (tally l c).set x.home.toNat ((tally l c)[x.home.toNat]?.getD 0 + 1) := by
  simp [tally, List.foldl_append]
theorem take_snoc {α : Type} {l : List α} {i : Nat} (h : i < l.length) : l.take (i + 1) = l.take i ++ [l[i]] := by
  rw [List.take_add_one, List.getElem?_eq_getElem h]; rfl

theorem take_all {α : Type} {l : List α} {i : Nat} (h : l.length ≤ i) : l.take i = l := List.take_of_length_le h
theorem tally_bound {n : Nat} : ∀ {l : List Fx} (c : List Int), (∀ k (h : k < c.length), 0 ≤ c[k] ∧ c[k] ≤ n) → ∀ k (h : k < (tally l c).length), 0 ≤ (tally l c)[k] ∧ (tally l c)[k] ≤ n + l.length
  | [], c, hc, k, h => by
    have h' : k < c.length := h
    have := hc k h'
    show 0 ≤ c[k] ∧ c[k] ≤ (n : Int) + ((0 : Nat) : Int)
    omega
  | x :: r, c, hc, k, h => by
    have e : tally (x :: r) c = tally r (c.set x.home.toNat (c[x.home.toNat]?.getD 0 + 1)) := rfl
    have := tally_bound (n := n + 1) (l := r) (c.set x.home.toNat (c[x.home.toNat]?.getD 0 + 1)) (fun k hk => by
      rw [List.getElem_set]
      split
      · rename_i e
        have hk' : x.home.toNat < c.length := by rw [e]; simpa using hk
        rw [List.getElem?_eq_getElem hk']
        have := hc _ hk'
        simp only [Option.getD_some]
        omega
      · have := hc k (by simpa using hk)
        omega) k (by rw [← e]; exact h)
    simp only [e, List.length_cons]
    omega
theorem flat_ints (m : List Int) : (m.map I).all (flatD 8) = true := by
  rw [List.all_eq_true]
  intro x hx
  obtain ⟨y, _, rfl⟩ := List.mem_map.1 hx
  rfl
theorem mk33 {l : EL} {h : AHeap} {a : Operand} {n : Nat} (ha : ev l a = some (I n)) (hn : n ≤ 24) : Does Tryz.prog l (.makeSlice 33 a a) h (.slice (some ⟨h.fresh, 0, none⟩) n n) (h.add (.cells ((List.replicate n 0).map I) 1 false false)) := by
  rw [← repl_map]
  exact do_makeSlice ha ha rfl rfl rfl rfl (Nat.le_refl _) (by omega) (Nat.le_trans (Nat.mul_le_mul_left _ hn) (Nat.le_of_ble_eq_true rfl))

theorem homes60 {H : AHeap} {n : Nat} {q : Option Addr} {c : Nat} {l : List Fx} (hs : SlAt H 3 fx q l) (hn : l.length < 1000000000000) (hn2 : n ≤ 24) (hl : ∀ x ∈ l, 0 ≤ x.home ∧ x.home < n) :
    Ret Tryz.prog 60 [I n, .slice q l.length c] H (.slice (some ⟨H.fresh, 0, none⟩) n n) (H.add (.cells ((tally l (List.replicate n 0)).map I) 1 false false)) := by
  refine fn_start Tryz.func60 rfl rfl rfl fun hc => ?_
  apply ct_seq
  apply ct_region
  apply seq_plain; exact do_assign rfl; exact rfl
  apply seq_nil
  apply ct_seq
  apply ct_region
  apply seq_plain; exact do_move rfl; exact rfl
  apply seq_newS; exact mk33 rfl hn2; exact rfl
  apply seq_plain; exact do_assign rfl; exact rfl
  apply seq_nil
  apply ct_seq
  apply ct_seq
  apply ct_region
  apply seq_plain; exact do_assign rfl; exact rfl
  apply seq_nil
  apply ct_block
  apply ct_loop
  refine lt_meas (α := Nat) (fun i => [(1, .slice q l.length c), (5, .slice (some ⟨nb H 0, 0, none⟩) n n), (6, I i)]) (fun i => ext H H.fresh [some (.cells ((tally (l.take i) (List.replicate n 0)).map I) 1 false false)]) (fun i => i ≤ l.length) (fun i => l.length - i) (fun i hi ih => ?_) 0 (by omega) (by repeat (first | exact sub_nil | apply sub_cons rfl)) (.refl _)
  have hlen : (tally (l.take i) (List.replicate n 0)).length = n := by rw [tally_len]; simp
  apply ct_seq
  apply ct_seq
  apply ct_region
  apply seq_plain; exact do_move rfl; exact rfl
  apply seq_plain; exact do_move rfl; exact rfl
  apply seq_plain; exact do_lenS rfl rfl rfl; exact rfl
  apply seq_plain; exact do_binInt rfl rfl rfl trivial; exact rfl
  apply seq_nil
  refine ct_cond rfl (fun h1 => ?_) (fun h1 => ?_)
  · simp only [decide_eq_true_eq, Int.ofNat_lt] at h1
    obtain ⟨b, o, cs, z, s, ro, rfl, hg, hw⟩ := hs.out (by intro e; rw [e] at h1; simp at h1)
    have hx := hl _ (List.getElem_mem h1)
    have hk : l[i].home.toNat < (tally (l.take i) (List.replicate n 0)).length := by omega
    have hv := tally_bound (n := 0) (l := l.take i) (List.replicate n 0) (by simp) _ hk
    rw [List.length_take] at hv
    apply ct_skip
    apply ct_seq
    apply ct_block
    apply ct_region
    apply seq_plain; exact do_move rfl; exact rfl
    apply seq_plain; exact do_move rfl; exact rfl
    apply seq_plain; exact do_move rfl; exact rfl
    apply seq_plain; exact do_indexAddrS rfl rfl rfl (by exact idx_nat (by omega)); exact rfl
    apply seq_plain; exact do_fieldAddr rfl rfl; exact rfl
    apply seq_plain; exact do_load rfl (by exact ext_get_old (by assumption) (by assumption)) rfl (by exact pt_sl1 (by assumption) (by omega) (Nat.le_of_ble_eq_true rfl) rfl); exact rfl
    apply seq_plain; exact do_indexAddrS rfl rfl rfl (by exact idx_int (by omega)); exact rfl
    apply seq_plain; exact do_load rfl (by exact ext_get_new rfl) rfl (by exact pt_map (by omega)); exact rfl
    apply seq_plain; exact do_add rfl rfl (by omega); exact rfl
    apply seq_plain; exact do_indexAddrS rfl rfl rfl (by exact idx_int (by omega)); exact rfl
    apply seq_putC (hc := by assumption); rotate_left; exact do_store rfl rfl (ext_get_new rfl) rfl (stl_map hk rfl rfl) (nb_own _); rotate_left; exact Nat.le_of_ble_eq_true rfl
    apply ct_region
    apply seq_plain; exact do_move rfl; exact rfl
    apply seq_plain; exact do_succ rfl (by omega); exact rfl
    apply seq_plain; exact do_assign rfl; exact rfl
    apply seq_nil
    have e : tally (l.take (i + 1)) (List.replicate n 0) = (tally (l.take i) (List.replicate n 0)).set l[i].home.toNat ((tally (l.take i) (List.replicate n 0))[l[i].home.toNat] + 1) := by
      rw [take_snoc h1, tally_snoc, List.getElem?_eq_getElem hk]; rfl
    have ih := ih (i + 1) (by omega) (by omega)
    rw [e] at ih
    refine lt_to ?_ (.refl _) ih
    (repeat (first | exact sub_nil | apply sub_cons rfl))
  · simp only [decide_eq_false_iff_not, Int.ofNat_lt] at h1
    rw [take_all (by omega)]
    apply ct_exit
    apply exit_eq; exact rfl
    apply ct_seq
    apply ct_region
    apply seq_plain; exact do_move rfl; exact rfl
    apply seq_plain; exact do_assign rfl; exact rfl
    apply seq_nil
    apply ct_ret
    exact fin_one (k := 0) hc rfl rfl (flat_ints _) (by simp [packA, renV, renOf_one ⟨own_iff.1 (nb_own 0), nb_ge 0⟩]) ⟨rfl, rfl⟩

def ownV (H : AHeap) (k : Nat) : Nat → Value
  | 0 => .slice none 0 0
  | i + 1 => .slice (some ⟨nb H k, 0, none⟩) (i + 1) (i + 1)
theorem fx_len (x : Fx) : (fx x).length = 3 := rfl
theorem flat_fx (m : List Fx) : (m.flatMap fx).all (flatD 8) = true := by
  rw [List.all_eq_true]
  intro x hx
  obtain ⟨y, _, hy⟩ := List.mem_flatMap.1 hx
  simp only [fx, List.mem_cons, List.not_mem_nil, or_false] at hy
  rcases hy with rfl | rfl | rfl <;> rfl

theorem own55 {H : AHeap} {q : Option Addr} {c : Nat} {l : List Fx} (hs : SlAt H 3 fx q l) (hn : l.length < 1000000000000) :
    CallT Tryz.prog 55 [.slice q l.length c] H (fun v h => (l = [] ∧ v = .slice none 0 0 ∧ h = H) ∨ (v = .slice (some ⟨H.fresh, 0, none⟩) l.length l.length ∧ h = H.add (.cells (l.flatMap fx) 3 true false))) := by
  refine fn_start Tryz.func55 rfl rfl rfl fun hc => ?_
  apply ct_seq
  apply ct_region
  apply seq_plain; exact do_assign rfl; exact rfl
  apply seq_nil
  apply ct_seq
  apply ct_region
  apply seq_plain; exact do_assign rfl; exact rfl
  apply seq_nil
  apply ct_seq
  apply ct_seq
  apply ct_region
  apply seq_plain; exact do_assign rfl; exact rfl
  apply seq_nil
  apply ct_block
  apply ct_loop
  refine lt_meas (α := Nat × List (Option ABlk) × Nat) (fun a => [(0, .slice q l.length c), (3, ownV H a.2.2 a.1), (4, I a.1)]) (fun a => ext H H.fresh a.2.1) (fun a => a.1 ≤ l.length ∧ (0 < a.1 → a.2.1[a.2.2]? = some (some (.cells ((l.take a.1).flatMap fx) 3 true false)))) (fun a => l.length - a.1) (fun a ha ih => ?_) (0, [], 0) ⟨by omega, fun h => absurd h (by simp)⟩ (by repeat (first | exact sub_nil | apply sub_cons rfl)) (.refl _)
  obtain ⟨i, L, k⟩ := a
  obtain ⟨hi, hJ⟩ := ha
  simp only at hi hJ ih ⊢
  have ih' := fun i' L' k' a1 a2 a3 => ih (i', L', k') a1 ⟨a2, a3⟩
  simp only at ih'
  clear ih
  apply ct_seq
  apply ct_seq
  apply ct_region
  apply seq_plain; exact do_move rfl; exact rfl
  apply seq_plain; exact do_move rfl; exact rfl
  apply seq_plain; exact do_lenS rfl rfl rfl; exact rfl
  apply seq_plain; exact do_binInt rfl rfl rfl trivial; exact rfl
  apply seq_nil
  refine ct_cond rfl (fun h1 => ?_) (fun h1 => ?_)
  · simp only [decide_eq_true_eq, Int.ofNat_lt] at h1
    obtain ⟨b, o, cs, z, s, ro, rfl, hg, hw⟩ := hs.out (by intro e; rw [e] at h1; simp at h1)
    apply ct_skip
    apply ct_seq
    apply ct_block
    apply ct_region
    apply seq_plain; exact do_move rfl; exact rfl
    apply seq_plain; exact do_move rfl; exact rfl
    apply seq_plain; exact do_move rfl; exact rfl
    apply seq_plain; exact do_indexAddrS rfl rfl rfl (by exact idx_nat (by omega)); exact rfl
    apply seq_plain; exact do_load rfl (by exact ext_get_old (by assumption) (by assumption)) rfl (by exact pt_sl (by assumption) (by omega)); exact rfl
    apply seq_newS; exact do_buildSlice rfl rfl rfl rfl rfl rfl rfl; exact rfl
    cases i with
    | zero =>
      apply seq_newS
      refine do_append0 rfl rfl rfl rfl rfl rfl (ext_get_new List.getElem?_concat_length) rfl (Nat.le_of_ble_eq_true rfl) (Nat.ne_of_beq_eq_false rfl) (Nat.ne_of_beq_eq_false rfl) (by omega)
      exact rfl
      apply seq_plain; exact do_assign rfl; exact rfl
      apply seq_nil
      apply ct_region
      apply seq_plain; exact do_move rfl; exact rfl
      apply seq_plain; exact do_succ rfl (by omega); exact rfl
      apply seq_plain; exact do_assign rfl; exact rfl
      apply seq_nil
      exact lt_sub (by repeat (first | exact sub_nil | apply sub_cons rfl)) (ih' 1 _ _ (by omega) (by omega) (by
        intro _
        rw [take_snoc h1]
        exact List.getElem?_concat_length))
    | succ i =>
      have hJ := hJ (by omega)
      have hk : k < L.length := (List.getElem?_eq_some_iff.1 hJ).1
      apply seq_push hc (k := k) (by rw [List.length_append]; omega)
      refine do_append1 rfl rfl rfl rfl rfl rfl (ext_get_new List.getElem?_concat_length) rfl (ext_get_new (by rw [List.getElem?_append_left hk]; exact hJ)) ?_ (nb_own _) rfl ?_ (Nat.ne_of_beq_eq_false rfl) (Nat.ne_of_beq_eq_false rfl) (by omega)
      · rw [len_flat fx_len, List.length_take, Nat.min_eq_left (by omega)]; rfl
      · exact Nat.le_trans (Nat.mul_le_mul_right _ (by omega : 2 * (i + 1 + 1) + 1000 ≤ 3000000000000)) (Nat.le_of_ble_eq_true rfl)
      · rfl
      apply seq_plain; exact do_assign rfl; exact rfl
      apply seq_nil
      apply ct_region
      apply seq_plain; exact do_move rfl; exact rfl
      apply seq_plain; exact do_succ rfl (by omega); exact rfl
      apply seq_plain; exact do_assign rfl; exact rfl
      apply seq_nil
      exact lt_sub (by repeat (first | exact sub_nil | apply sub_cons rfl)) (ih' (i + 1 + 1) _ _ (by omega) (by omega) (by
        intro _
        rw [take_snoc h1, List.flatMap_append]
        rw [List.getElem?_append_right (by simp)]
        simp
        exact ⟨rfl, rfl⟩))
  · simp only [decide_eq_false_iff_not, Int.ofNat_lt] at h1
    have hl : i = l.length := by omega
    subst hl
    apply ct_exit
    apply exit_eq; exact rfl
    apply ct_seq
    apply ct_region
    apply seq_plain; exact do_move rfl; exact rfl
    apply seq_plain; exact do_assign rfl; exact rfl
    apply seq_nil
    apply ct_ret
    cases hz : l.length with
    | zero =>
      have : l = [] := List.length_eq_zero_iff.1 hz
      subst this
      exact fin_flat hc rfl rfl (.inl ⟨rfl, rfl, rfl⟩)
    | succ m =>
      have hJ := hJ (by omega)
      rw [take_all (Nat.le_refl _)] at hJ
      exact fin_one (k := k) hc rfl hJ (flat_fx _) (by simp [packA, ownV, renV, renOf_one ⟨own_iff.1 (nb_own k), nb_ge k⟩]) (.inr ⟨rfl, rfl⟩)

theorem chk_top {n : Int} {l : List Fx} (h : chkL n l = 0) : topL n l = 0 ∧ restL n l = 0 := by
  by_cases ht : topL n l = 0
  · simp [chkL, ht] at h; exact ⟨ht, h⟩
  · simp [chkL, ht] at h
theorem firstL_zero {l : List Int} (h : firstL l = 0) : ∀ x ∈ l, x = 0 := by
  intro x hx
  by_cases hx0 : x = 0
  · exact hx0
  · exfalso
    cases hf : l.find? (fun e => decide (e ≠ 0)) with
    | none =>
      rw [List.find?_eq_none] at hf
      exact hf x hx (by simpa using hx0)
    | some y =>
      have := List.find?_some hf
      simp only [firstL, hf, Option.getD_some] at h
      simp [h] at this
structure GoodL (n : Int) (l : List Fx) : Prop where
  lo : 2 ≤ n
  hi : n ≤ 24
  len : l.length ≤ 600
  each : ∀ x ∈ l, (0 ≤ x.home ∧ x.home < n) ∧ (0 ≤ x.away ∧ x.away < n) ∧ x.home ≠ x.away
theorem chk_good {n : Int} {l : List Fx} (h : chkL n l = 0) : GoodL n l := by
  obtain ⟨h1, h2⟩ := chk_top h
  have t := firstL_zero h1
  have t1 := t _ (List.mem_cons_self ..)
  have t2 := t _ (List.mem_cons_of_mem _ (List.mem_cons_self ..))
  have n1 : outL n 2 24 = false := by
    cases hh : outL n 2 24
    · rfl
    · rw [hh] at t1; cases t1
  have n2 : decide ((l.length : Int) > 600) = false := by
    cases hh : decide ((l.length : Int) > 600)
    · rfl
    · rw [hh] at t2; cases t2
  have hn := outL_f n1
  simp only [decide_eq_false_iff_not] at n2
  refine ⟨hn.1, hn.2, by omega, fun x hx => ?_⟩
  obtain ⟨i, hi, rfl⟩ := List.getElem_of_mem hx
  have r := firstL_zero h2 (errI n l i) (List.mem_map.2 ⟨i, List.mem_range.2 hi, rfl⟩)
  rw [errI_at hi] at r
  have p := firstL_zero r (pairL n l[i].home l[i].away) (List.mem_cons_of_mem _ (List.mem_cons_self ..))
  have q := firstL_zero p
  have q1 := q _ (List.mem_cons_self ..)
  have q2 := q _ (List.mem_cons_of_mem _ (List.mem_cons_self ..))
  have m1 : [l[i].home, l[i].away].any (unknownL n) = false := by
    cases hh : [l[i].home, l[i].away].any (unknownL n)
    · rfl
    · rw [hh] at q1; cases q1
  have m2 : (l[i].home == l[i].away) = false := by
    cases hh : (l[i].home == l[i].away)
    · rfl
    · rw [hh] at q2; cases q2
  simp [unknownL] at m1
  simp at m2
  exact ⟨by omega, by omega, m2⟩
