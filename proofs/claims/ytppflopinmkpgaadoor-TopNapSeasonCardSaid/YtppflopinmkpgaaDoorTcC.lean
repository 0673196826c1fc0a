/- Contracts: the program's checks of matches and rules. -/
import Derived.Test.YtppflopinmkpgaaDoorTcB
import Derived.Test.YtppflopinmkpgaaDoorFnL
noncomputable section
namespace Go.Proofs.YtppflopinmkpgaaDoor
open Go Go.Den
set_option maxRecDepth 100000

theorem side161 {H : AHeap} {m : Ma} (hG : H.get 1 = some (.cells cs0 0 false true)) : Ret Tryd.prog 56 [.agg ⟨mt m⟩] H (.tuple ⟨[I (sideL m.kind), .bool (isKind m.kind)]⟩) H := by
  refine fn_start Tryd.func56 rfl rfl rfl fun hc => ?_
  apply ct_seq
  apply ct_region
  apply seq_newP; exact do_box rfl rfl rfl; exact rfl
  apply seq_plain; exact do_assign rfl; exact rfl
  apply seq_plain; exact do_assign rfl; exact rfl
  apply seq_nil
  apply ct_seq
  apply ct_seq
  apply ct_region
  apply seq_plain; exact do_load rfl (by exact ext_get_old (by assumption) (by assumption)) rfl (by exact rfl); exact rfl
  apply seq_plain; exact do_move rfl; exact rfl
  apply seq_nil
  apply ct_block
  apply ct_loop
  refine lt_upB hc (fun i => [(1, .pointer (some ⟨nb H 0, 0, none⟩)), (6, .agg ⟨cs0⟩), (7, I i)]) (fun i => (1 ≤ i → m.kind ≠ kPlayed) ∧ (2 ≤ i → m.kind ≠ kHome) ∧ (3 ≤ i → m.kind ≠ kAway)) 3 (fun i h lo hc' hE0 hi hJ ih => ?_) 0 (by omega) ⟨by omega, by omega, by omega⟩ (by repeat (first | exact sub_nil | apply sub_cons rfl))
  have hE := (ext_Ext hc).trans hE0
  have g1 : h.get (nb H 0) = some (.cells (mt m) 0 false false) := hE0 _ _ (ext_get_new rfl)
  clear hE0
  obtain ⟨j1, j2, j3⟩ := hJ
  apply ct_seq
  apply ct_region
  apply seq_plain; exact do_binInt rfl rfl rfl trivial; exact rfl
  apply seq_nil
  apply ct_seq
  refine ct_cond rfl (fun h1 => ?_) (fun h1 => ?_)
  · have h1 : i < 3 := by simp at h1; omega
    have hcase : i = 0 ∨ i = 1 ∨ i = 2 := by omega
    rcases hcase with rfl | rfl | rfl
    · apply ct_skip
      apply ct_seq
      apply ct_block
      apply ct_seq
      apply ct_region
      apply seq_plain; exact do_indexA rfl rfl rfl (by exact rfl) (by exact rfl); exact rfl
      apply seq_newP; exact do_alloc rfl rfl; exact rfl
      apply seq_putC (hc := by assumption); rotate_left; exact do_store rfl rfl (by exact ext_get_new rfl) rfl rfl (nb_own _); rotate_left; exact Nat.le_of_ble_eq_true rfl
      apply ct_seq
      apply ct_region
      apply seq_plain; exact do_fieldAddr rfl rfl; exact rfl
      apply seq_plain; exact do_load rfl (by exact ext_get_new rfl) rfl (by exact rfl); exact rfl
      apply seq_plain; exact do_fieldAddr rfl rfl; exact rfl
      apply seq_plain; exact do_load rfl (by exact ext_get_old (by assumption) (by assumption)) rfl (by exact rfl); exact rfl
      apply seq_plain; exact do_binStr rfl rfl rfl; exact rfl
      apply seq_nil
      refine ct_cond rfl (fun h2 => ?_) (fun h2 => ?_)
      · have h2 : byteL kPlayed.data.toList m.kind.data.toList = true := h2
        rw [bytes_eq, decide_eq_true_iff] at h2
        apply ct_seq
        apply ct_region
        apply seq_plain; exact do_fieldAddr rfl rfl; exact rfl
        apply seq_plain; exact do_load rfl (by exact ext_get_new rfl) rfl (by exact rfl); exact rfl
        apply seq_plain; exact do_assign rfl; exact rfl
        apply seq_plain; exact do_assign rfl; exact rfl
        apply seq_nil
        apply ct_ret
        refine fin_flatB hc hc' hE rfl rfl ⟨?_, rfl⟩
        rw [← h2]; rfl
      · have h2 : byteL kPlayed.data.toList m.kind.data.toList = false := h2
        rw [bytes_eq, decide_eq_false_iff_not] at h2
        apply ct_skip
        apply ct_region
        apply seq_plain; exact do_succ rfl (by omega); exact rfl
        apply seq_plain; exact do_move rfl; exact rfl
        apply seq_nil
        exact lt_sub (by repeat (first | exact sub_nil | apply sub_cons rfl)) (ih 1 _ _ _ hc' (.refl _) (by omega) (by omega) ⟨fun _ e => h2 e.symm, by omega, by omega⟩)
    · apply ct_skip
      apply ct_seq
      apply ct_block
      apply ct_seq
      apply ct_region
      apply seq_plain; exact do_indexA rfl rfl rfl (by exact rfl) (by exact rfl); exact rfl
      apply seq_newP; exact do_alloc rfl rfl; exact rfl
      apply seq_putC (hc := by assumption); rotate_left; exact do_store rfl rfl (by exact ext_get_new rfl) rfl rfl (nb_own _); rotate_left; exact Nat.le_of_ble_eq_true rfl
      apply ct_seq
      apply ct_region
      apply seq_plain; exact do_fieldAddr rfl rfl; exact rfl
      apply seq_plain; exact do_load rfl (by exact ext_get_new rfl) rfl (by exact rfl); exact rfl
      apply seq_plain; exact do_fieldAddr rfl rfl; exact rfl
      apply seq_plain; exact do_load rfl (by exact ext_get_old (by assumption) (by assumption)) rfl (by exact rfl); exact rfl
      apply seq_plain; exact do_binStr rfl rfl rfl; exact rfl
      apply seq_nil
      refine ct_cond rfl (fun h2 => ?_) (fun h2 => ?_)
      · have h2 : byteL kHome.data.toList m.kind.data.toList = true := h2
        rw [bytes_eq, decide_eq_true_iff] at h2
        apply ct_seq
        apply ct_region
        apply seq_plain; exact do_fieldAddr rfl rfl; exact rfl
        apply seq_plain; exact do_load rfl (by exact ext_get_new rfl) rfl (by exact rfl); exact rfl
        apply seq_plain; exact do_assign rfl; exact rfl
        apply seq_plain; exact do_assign rfl; exact rfl
        apply seq_nil
        apply ct_ret
        refine fin_flatB hc hc' hE rfl rfl ⟨?_, rfl⟩
        rw [← h2]; rfl
      · have h2 : byteL kHome.data.toList m.kind.data.toList = false := h2
        rw [bytes_eq, decide_eq_false_iff_not] at h2
        apply ct_skip
        apply ct_region
        apply seq_plain; exact do_succ rfl (by omega); exact rfl
        apply seq_plain; exact do_move rfl; exact rfl
        apply seq_nil
        exact lt_sub (by repeat (first | exact sub_nil | apply sub_cons rfl)) (ih 2 _ _ _ hc' (.refl _) (by omega) (by omega) ⟨fun _ => j1 (by omega), fun _ e => h2 e.symm, by omega⟩)
    · apply ct_skip
      apply ct_seq
      apply ct_block
      apply ct_seq
      apply ct_region
      apply seq_plain; exact do_indexA rfl rfl rfl (by exact rfl) (by exact rfl); exact rfl
      apply seq_newP; exact do_alloc rfl rfl; exact rfl
      apply seq_putC (hc := by assumption); rotate_left; exact do_store rfl rfl (by exact ext_get_new rfl) rfl rfl (nb_own _); rotate_left; exact Nat.le_of_ble_eq_true rfl
      apply ct_seq
      apply ct_region
      apply seq_plain; exact do_fieldAddr rfl rfl; exact rfl
      apply seq_plain; exact do_load rfl (by exact ext_get_new rfl) rfl (by exact rfl); exact rfl
      apply seq_plain; exact do_fieldAddr rfl rfl; exact rfl
      apply seq_plain; exact do_load rfl (by exact ext_get_old (by assumption) (by assumption)) rfl (by exact rfl); exact rfl
      apply seq_plain; exact do_binStr rfl rfl rfl; exact rfl
      apply seq_nil
      refine ct_cond rfl (fun h2 => ?_) (fun h2 => ?_)
      · have h2 : byteL kAway.data.toList m.kind.data.toList = true := h2
        rw [bytes_eq, decide_eq_true_iff] at h2
        apply ct_seq
        apply ct_region
        apply seq_plain; exact do_fieldAddr rfl rfl; exact rfl
        apply seq_plain; exact do_load rfl (by exact ext_get_new rfl) rfl (by exact rfl); exact rfl
        apply seq_plain; exact do_assign rfl; exact rfl
        apply seq_plain; exact do_assign rfl; exact rfl
        apply seq_nil
        apply ct_ret
        refine fin_flatB hc hc' hE rfl rfl ⟨?_, rfl⟩
        rw [← h2]; rfl
      · have h2 : byteL kAway.data.toList m.kind.data.toList = false := h2
        rw [bytes_eq, decide_eq_false_iff_not] at h2
        apply ct_skip
        apply ct_region
        apply seq_plain; exact do_succ rfl (by omega); exact rfl
        apply seq_plain; exact do_move rfl; exact rfl
        apply seq_nil
        exact lt_sub (by repeat (first | exact sub_nil | apply sub_cons rfl)) (ih 3 _ _ _ hc' (.refl _) (by omega) (by omega) ⟨fun _ => j1 (by omega), fun _ => j2 (by omega), fun _ e => h2 e.symm⟩)
  · have h1 : i = 3 := by simp at h1; omega
    subst h1
    have k1 := j1 (by omega)
    have k2 := j2 (by omega)
    have k3 := j3 (by omega)
    apply ct_exit
    apply exit_eq; exact rfl
    apply ct_seq
    apply ct_region
    apply seq_plain; exact do_assign rfl; exact rfl
    apply seq_plain; exact do_assign rfl; exact rfl
    apply seq_nil
    apply ct_ret
    refine fin_flatB hc hc' hE rfl rfl ⟨?_, rfl⟩
    simp [packA, sideL, isKind, k1, k2, k3]
/-- the side, by its kind -/
theorem side_played {k : ByteArray} (h : isKind k = true) : (sideL k != 0) = !decide (k = kPlayed) := by
  have n1 : kHome ≠ kPlayed := by intro e; have := congrArg (fun b => b.data.toList.length) e; simp [kHome, kPlayed] at this
  have n2 : kAway ≠ kPlayed := by intro e; have := congrArg (fun b => b.data.toList.length) e; simp [kAway, kPlayed] at this
  have n3 : kAway ≠ kHome := by intro e; have := congrArg (fun b => b.data.toList.head?) e; simp [kAway, kHome] at this
  by_cases h1 : k = kPlayed
  · simp [sideL, h1]
  · by_cases h2 : k = kHome
    · subst h2; simp [sideL, n1]
    · by_cases h3 : k = kAway
      · subst h3; simp [sideL, n2, n3]
      · simp [isKind, h1, h2, h3] at h
def dirM (m : Ma) : Int × Int := (m.home, m.away)
theorem seen_any {l : List Ma} {m : Ma} : memK (l.map dirM) (dirM m) = l.any (sameM m) := by
  unfold memK
  rw [List.any_map]
  congr 1
  funext x
  simp only [Function.comp, sameM, dirM]
  rw [Bool.eq_iff_iff]
  simp
theorem mErr_prog {n : Int} {pre : List Ma} {m : Ma} : firstL [pairL n m.home m.away, whenL (!isKind m.kind) 13, whenL (outL m.fr 0 99) 3, whenL (outL m.ag 0 99) 3, whenL ((sideL m.kind != 0) && (m.fr != 0 || m.ag != 0)) 1, whenL (memK (pre.map dirM) (dirM m)) 17] = mErr n pre m := by
  rw [seen_any]
  unfold mErr
  cases h : isKind m.kind
  · simp only [Bool.not_false]
    by_cases hp : pairL n m.home m.away = 0 <;> simp [firstL, whenL, hp]
  · rw [side_played h]; rfl
end Go.Proofs.YtppflopinmkpgaaDoor
