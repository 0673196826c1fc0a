/- Contracts: counts of home matches; same lists; copies. -/
import Derived.Test.YtfegloadbajbhaaGreatDoorFnC
import Derived.Test.YtfegloadbajbhaaGreatDoorSxA
noncomputable section
namespace Go.Proofs.YtfegloadbajbhaaGreatDoor
open Go Go.Den
set_option maxRecDepth 10000

theorem sameInts79 {H : AHeap} {p q : Option Addr} {c c' : Nat} {l m : List Int} (hs : SlAt H 1 i1 p l) (ht : SlAt H 1 i1 q m) (hn : l.length < 1000000000000) :
    Ret Tryz.prog 79 [.slice p l.length c, .slice q m.length c'] H (.bool (decide (l = m))) H := by
  refine fn_start Tryz.func79 rfl rfl rfl fun hc => ?_
  apply ct_seq
  apply ct_region
  apply seq_plain; exact do_assign rfl; exact rfl
  apply seq_nil
  apply ct_seq
  apply ct_seq
  apply ct_region
  apply seq_plain; exact do_move rfl; exact rfl
  apply seq_plain; exact do_lenS rfl rfl rfl; exact rfl
  apply seq_plain; exact do_move rfl; exact rfl
  apply seq_plain; exact do_lenS rfl rfl rfl; exact rfl
  apply seq_plain; exact do_binInt rfl rfl rfl trivial; exact rfl
  apply seq_nil
  refine ct_cond rfl (fun hb => ?_) (fun hb => ?_)
  · apply ct_seq
    apply ct_region
    apply seq_plain; exact do_assign rfl; exact rfl
    apply seq_nil
    apply ct_ret
    refine fin_flat hc rfl rfl ⟨?_, rfl⟩
    have : l ≠ m := by
      intro e
      subst e
      have hb : (((l.length : Int)) != (l.length : Int)) = true := hb
      simp at hb
    simp [packA, this]
  · have hlen : l.length = m.length := by
      have hb : (((l.length : Int)) != (m.length : Int)) = false := hb
      simp at hb; omega
    apply ct_skip
    apply ct_seq
    apply ct_seq
    apply ct_region
    apply seq_plain; exact do_assign rfl; exact rfl
    apply seq_nil
    apply ct_block
    apply ct_loop
    refine lt_up (fun i => [(0, .slice p l.length c), (1, .slice q m.length c'), (5, I i)]) (fun i => ∀ j (hj : j < l.length), j < i → l[j] = m[j]'(by omega)) l.length (fun i hi hJ ih => ?_) 0 (by omega) (by intros; omega) (by repeat (first | exact sub_nil | apply sub_cons rfl))
    apply ct_seq
    apply ct_seq
    apply ct_region
    apply seq_plain; exact do_move rfl; exact rfl
    apply seq_plain; exact do_move rfl; exact rfl
    apply seq_plain; exact do_lenS rfl rfl rfl; exact rfl
    apply seq_plain; exact do_binInt rfl rfl rfl trivial; exact rfl
    apply seq_nil
    refine ct_cond rfl (fun h1 => ?_) (fun h1 => ?_)
    · simp only [decide_eq_true_eq, Int.ofNat_lt] at h1
      have h1' : i < m.length := by omega
      obtain ⟨b, o, cs, z, s, ro, rfl, hg, hw⟩ := hs.out (by intro e; rw [e] at h1; simp at h1)
      obtain ⟨b', o', cs', z', s', ro', rfl, hg', hw'⟩ := ht.out (by intro e; rw [e] at h1'; simp at h1')
      apply ct_skip
      apply ct_seq
      apply ct_block
      apply ct_seq
      apply ct_draw (by assumption); decide +kernel
      apply sd_plain (hfree := rfl); intro _; exact do_move rfl; exact rfl
      apply sd_plain (hfree := rfl); intro _; exact do_move rfl; exact rfl
      apply sd_plain (hfree := rfl); intro _; exact do_indexAddrS rfl rfl rfl (by exact idx_nat (by omega)); exact rfl
      apply sd_look (hfree := rfl); exact do_load rfl (by exact ext_get_old (by assumption) (by assumption)) rfl (by exact pt_sl0 (by assumption) (by omega)); exact rfl
      apply sd_plain (hfree := rfl); intro _; exact do_move rfl; exact rfl
      apply sd_plain (hfree := rfl); intro _; exact do_move rfl; exact rfl
      apply sd_plain (hfree := rfl); intro _; exact do_indexAddrS rfl rfl rfl (by exact idx_nat (by omega)); exact rfl
      apply sd_look (hfree := rfl); exact do_load rfl (by exact ext_get_old (by assumption) (by assumption)) rfl (by exact pt_sl0 (by assumption) (by omega)); exact rfl
      apply sd_plain (hfree := rfl); intro _; exact do_binInt rfl rfl rfl trivial; exact rfl
      apply sd_nil
      refine ct_cond rfl (fun h2 => ?_) (fun h2 => ?_)
      · apply ct_seq
        apply ct_region
        apply seq_plain; exact do_assign rfl; exact rfl
        apply seq_nil
        apply ct_ret
        refine fin_flat hc rfl rfl ⟨?_, rfl⟩
        have : l ≠ m := by
          intro e
          subst e
          have h2 : (l[i] != l[i]) = true := h2
          simp at h2
        simp [packA, this]
      · apply ct_skip
        apply ct_region
        apply seq_plain; exact do_move rfl; exact rfl
        apply seq_plain; exact do_succ rfl (by omega); exact rfl
        apply seq_plain; exact do_assign rfl; exact rfl
        apply seq_nil
        refine lt_sub ?_ (ih (i + 1) (by omega) (by omega) fun j hj hji => ?_)
        · (repeat (first | exact sub_nil | apply sub_cons rfl))
        · rcases Nat.lt_or_ge j i with h | h
          · exact hJ j hj h
          · have : j = i := by omega
            subst this
            have h2 : (l[j] != m[j]) = false := h2
            simpa using h2
    · simp only [decide_eq_false_iff_not, Int.ofNat_lt] at h1
      apply ct_exit
      apply exit_eq; exact rfl
      apply ct_seq
      apply ct_region
      apply seq_plain; exact do_assign rfl; exact rfl
      apply seq_nil
      apply ct_ret
      refine fin_flat hc rfl rfl ⟨?_, rfl⟩
      have : l = m := List.ext_getElem hlen fun j hj _ => hJ j hj (by omega)
      simp [packA, this]

theorem take_snoc {α : Type} {l : List α} {i : Nat} (h : i < l.length) : l.take (i + 1) = l.take i ++ [l[i]] := by
  rw [List.take_add_one, List.getElem?_eq_getElem h]; rfl

theorem flat_ints (m : List Int) : (m.map I).all (flatD 8) = true := by
  rw [List.all_eq_true]
  intro x hx
  obtain ⟨y, _, rfl⟩ := List.mem_map.1 hx
  rfl
theorem mk33 {l : EL} {h : AHeap} {a : Operand} {n : Nat} (ha : ev l a = some (I n)) (hn : n ≤ 24) : Does Tryz.prog l (.makeSlice 49 a a) h (.slice (some ⟨h.fresh, 0, none⟩) n n) (h.add (.cells ((List.replicate n 0).map I) 1 false false)) := by
  rw [← repl_map]
  exact do_makeSlice ha ha rfl rfl rfl rfl (Nat.le_refl _) (by omega) (Nat.le_trans (Nat.mul_le_mul_left _ hn) (Nat.le_of_ble_eq_true rfl))
