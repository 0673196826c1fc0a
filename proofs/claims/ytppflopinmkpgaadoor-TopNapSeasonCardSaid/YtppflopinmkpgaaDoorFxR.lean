/- Contracts: a round, as the program yields it. -/
import Derived.Test.YtppflopinmkpgaaDoorFxB
import Derived.Test.YtppflopinmkpgaaDoorSxY
noncomputable section
namespace Go.Proofs.YtppflopinmkpgaaDoor
open Go Go.Den
set_option maxRecDepth 100000

def pr (x : Fx) : Int × Int := (x.home, x.away)
def pairsTo (n r k : Nat) : List (Int × Int) := if k = 0 then [] else (rowTo n r k).map pr
/-- what is known between the rounds of a range -/
structure Rounds (B b1 b2 : Nat) (n r : Int) (J : List (Int × Int) → AHeap → Prop) : Prop where
  st : ∀ ps h h', LQ h h' → h'.low ≤ h'.fresh → J ps h → J ps h'
  ext : ∀ ps h lo M, J ps h → J ps (ext h lo M)
  at_ : ∀ ps h, J ps h → Closed h ∧ h.low ≤ h.fresh ∧ (∃ z s ro, h.get b1 = some (.cells [I n] z s ro)) ∧ (∃ z s ro, h.get b2 = some (.cells [I r] z s ro)) ∧ ∃ x, h.get B = some x
  yield : ∀ ps p h, ps.length ≤ 100 → J ps h → RoundT Tryd.prog B [prV p] h (fun v h' => v = .bool true ∧ J (ps ++ [p]) h')
theorem low_ext {h : AHeap} {lo : Nat} {M : List (Option ABlk)} : (ext h lo M).low ≤ (ext h lo M).fresh := by
  have : (ext h lo M).low = min lo h.fresh := rfl
  have : (ext h lo M).fresh = nb h M.length := ext_fresh
  have := nb_ge (H := h) M.length
  omega
theorem round244 {H : AHeap} {n r B b1 b2 : Nat} (h2 : 2 ≤ n) (h24 : n ≤ 24) (hr : r < evenN n - 1) {J : List (Int × Int) → AHeap → Prop} (hJ : Rounds B b1 b2 n r J) (h0 : J [] H) :
    CallT Tryd.prog 72 [yieldV B, .pointer (some ⟨b1, 0, none⟩), .pointer (some ⟨b2, 0, none⟩)] H (fun _ h => J (pairsTo n r (evenN n / 2)) h ∧ h.low ≤ H.low) := by
  obtain ⟨e1, e2, e3, e4⟩ := even_ge h2 h24
  obtain ⟨_, _, ⟨z1, s1, r1, g1⟩, ⟨z2, s2, r2, g2⟩, _⟩ := hJ.at_ _ _ h0
  refine fn_start Tryd.func72 rfl rfl rfl fun hc => ?_
  apply ct_seq
  apply ct_region
  apply seq_plain; exact do_load rfl (by exact ext_get_old (by assumption) (by assumption)) rfl (by exact rfl); exact rfl
  apply seq_call (ht := rfl); exact even_c (by omega); exact rfl
  apply seq_plain; exact do_predN rfl rfl (by omega) (by omega); exact rfl
  apply seq_plain; exact do_assign rfl; exact rfl
  apply seq_nil
  apply ct_seq
  apply ct_region
  apply seq_plain; exact do_load rfl (by exact ext_get_old (by assumption) (by assumption)) rfl (by exact rfl); exact rfl
  apply seq_call (ht := rfl); exact even_c (by omega); exact rfl
  apply seq_plain; exact quo2 rfl rfl (by omega); exact rfl
  apply seq_plain; exact do_move rfl; exact rfl
  apply seq_nil
  apply ct_block
  apply ct_loop
  have j0 : J [] (ext H H.fresh []) := hJ.ext _ _ _ _ h0
  refine lt_meas (α := Nat × AHeap) (fun a => [(0, yieldV B), (1, .pointer (some ⟨b1, 0, none⟩)), (2, .pointer (some ⟨b2, 0, none⟩)), (4, I (evenN n - 1 : Nat)), (13, I (evenN n / 2 : Nat)), (14, I a.1)]) (fun a => ext a.2 a.2.low []) (fun a => a.1 ≤ evenN n / 2 ∧ J (pairsTo n r a.1) a.2) (fun a => evenN n - a.1) (fun a ha ih => ?_) (0, ext H H.fresh []) ⟨by omega, by simpa [pairsTo] using j0⟩ (by repeat (first | exact sub_nil | apply sub_cons rfl)) (hq_base low_ext)
  obtain ⟨k, h⟩ := a
  obtain ⟨hk, hj⟩ := ha
  simp only at hk hj ih ⊢
  have ih' := fun k' h' a1 a2 a3 => ih (k', h') a1 ⟨a2, a3⟩
  simp only at ih'
  clear ih
  obtain ⟨hcl, hlow, ⟨z3, s3, r3, g3⟩, ⟨z4, s4, r4, g4⟩, xB, gB⟩ := hJ.at_ _ _ hj
  clear g1 g2 h0 j0
  apply ct_seq
  apply ct_region
  apply seq_plain; exact do_binInt rfl rfl rfl trivial; exact rfl
  apply seq_nil
  apply ct_seq
  refine ct_cond rfl (fun h1 => ?_) (fun h1 => ?_)
  · have h1 : k < evenN n / 2 := by simp at h1; omega
    apply ct_skip
    apply ct_seq
    apply ct_block
    apply ct_seq
    apply ct_region
    apply seq_plain; exact do_move rfl; exact rfl
    apply seq_plain; exact do_assign rfl; exact rfl
    apply seq_nil
    apply ct_seq
    apply ct_seq
    apply ct_region
    apply seq_plain; exact do_move rfl; exact rfl
    apply seq_plain; exact do_binInt rfl rfl rfl trivial; exact rfl
    apply seq_nil
    refine ct_cond rfl (fun h3 => ?_) (fun h3 => ?_)
    · have h3 : k = 0 := by simpa using h3
      subst h3
      have hj0 : J [] h := hj
      obtain ⟨p, hp⟩ : ∃ p : Int × Int, p = if r % 2 = 1 then ((r : Int), ((evenN n - 1 : Nat) : Int)) else (((evenN n - 1 : Nat) : Int), (r : Int)) := ⟨_, rfl⟩
      apply ct_seq
      apply ct_region
      apply seq_plain; exact do_move rfl; exact rfl
      apply seq_plain; exact do_load rfl (by exact ext_get_old (by assumption) (by assumption)) rfl (by exact rfl); exact rfl
      apply seq_plain; exact do_build rfl rfl rfl rfl; exact rfl
      apply seq_newP; exact do_alloc rfl rfl; exact rfl
      apply seq_putC (hc := by assumption); rotate_left; exact do_store rfl rfl (by exact ext_get_new rfl) rfl rfl (nb_own _); rotate_left; exact Nat.le_of_ble_eq_true rfl
      apply ct_seq
      apply ct_seq
      apply ct_region
      apply seq_plain; exact do_load rfl (by exact ext_get_old (by assumption) (by assumption)) rfl (by exact rfl); exact rfl
      apply seq_plain; exact do_rem rfl rfl (by decide); exact rfl
      apply seq_plain; exact do_binInt rfl rfl rfl trivial; exact rfl
      apply seq_nil
      refine ct_J [(0, yieldV B), (1, .pointer (some ⟨b1, 0, none⟩)), (2, .pointer (some ⟨b2, 0, none⟩)), (4, I (evenN n - 1 : Nat)), (6, .pointer (some ⟨nb h 0, 0, none⟩)), (13, I (evenN n / 2 : Nat)), (14, I ((0 : Nat) : Int))] (ds := []) (h := ext h h.low [some (.cells [I p.1, I p.2] 0 false false)]) ?_ ?_
      · refine ct_cond rfl (fun h5 => ?_) (fun h5 => ?_)
        · have h5 : r % 2 = 1 := by
            have h5 : ((r : Int).tmod 2 == 1) = true := h5
            rw [show (2 : Int) = ((2 : Nat) : Int) from rfl, tmod_n] at h5
            simp at h5; omega
          rw [if_pos h5] at hp
          rw [hp]
          apply ct_region
          apply seq_plain; exact do_load rfl (by exact ext_get_new rfl) rfl (by exact rfl); exact rfl
          apply seq_call (ht := rfl); exact turned138; exact rfl
          exact seq_putJ hcl (by simp) (do_store rfl rfl (ext_get_new rfl) rfl rfl (nb_own _)) rfl (by repeat (first | exact sub_nil | apply sub_cons rfl))
        · have h5 : ¬ r % 2 = 1 := by
            have h5 : ((r : Int).tmod 2 == 1) = false := h5
            rw [show (2 : Int) = ((2 : Nat) : Int) from rfl, tmod_n] at h5
            simp at h5; omega
          rw [if_neg h5] at hp
          rw [hp]
          apply ct_skip
          exact jp_of (by repeat (first | exact sub_nil | apply sub_cons rfl))
      have hje : J [] (ext h h.low [some (.cells [I p.1, I p.2] 0 false false)]) := hJ.ext _ _ _ _ hj0
      have hxB : (ext h h.low [some (.cells [I p.1, I p.2] 0 false false)]).get B = some xB := ext_get_old hcl gB
      apply ct_seq
      apply ct_seq
      apply ct_region
      apply seq_plain; exact do_load rfl (by exact ext_get_old (by assumption) (by assumption)) rfl (by exact rfl); exact rfl
      apply seq_plain; exact do_move rfl; exact rfl
      apply seq_plain; exact do_binInt rfl rfl rfl trivial; exact rfl
      apply seq_plain; exact do_move rfl; exact rfl
      refine seq_gsplit rfl rfl (fun u0 => ?_) (fun u0 => ?_)
      · have u0 : n = evenN n := by
          have u0 : decide ((n : Int) > ((evenN n - 1 : Nat) : Int)) = true := u0
          simp at u0; omega
        have hps : pairsTo n r 1 = [] ++ [p] := by
          simp only [pairsTo, Nat.one_ne_zero, if_false, rowTo, headF, if_pos u0, Nat.sub_self, List.range_zero, List.map_nil, List.append_nil, List.nil_append, List.map_cons]
          rw [hp]
          by_cases h6 : r % 2 = 1 <;> simp [h6, pr]
        apply seq_guard (hd := rfl) (hl := rfl); exact do_move rfl; exact rfl
        apply seq_guard (hd := rfl) (hl := rfl); exact do_load rfl (by exact ext_get_new rfl) rfl (by exact rfl); exact rfl
        refine seq_gyieldQ rfl rfl rfl hxB (hJ.yield [] p _ (by simp) hje) rfl (fun v h' hv => ?_)
        obtain ⟨rfl, hj'⟩ := hv
        obtain ⟨_, hlow', _⟩ := hJ.at_ _ _ hj'
        apply seq_guard (hd := rfl) (hl := rfl); exact do_unOp rfl rfl; exact rfl
        apply seq_plain; exact do_pick_t rfl rfl; exact rfl
        apply seq_nil
        refine ct_cond_f rfl rfl ?_
        apply ct_skip
        apply ct_exit
        apply exit_eq; exact rfl
        apply ct_region
        apply seq_plain; exact do_succ rfl (by omega); exact rfl
        apply seq_plain; exact do_move rfl; exact rfl
        apply seq_nil
        exact lt_to (by repeat (first | exact sub_nil | apply sub_cons rfl)) (hq_base hlow') (ih' 1 h' (by omega) (by omega) (by rw [hps]; exact hj'))
      · have u0 : ¬ n = evenN n := by
          have u0 : decide ((n : Int) > ((evenN n - 1 : Nat) : Int)) = false := u0
          simp at u0; omega
        have hps : pairsTo n r 1 = [] := by
          simp only [pairsTo, Nat.one_ne_zero, if_false, rowTo, headF, if_neg u0, Nat.sub_self, List.range_zero, List.map_nil, List.append_nil]
        apply seq_passed (hd := rfl) (hl := rfl) (hb := rfl); exact rfl
        apply seq_passed (hd := rfl) (hl := rfl) (hb := rfl); exact rfl
        apply seq_passed (hd := rfl) (hl := rfl) (hb := rfl); exact rfl
        apply seq_passed (hd := rfl) (hl := rfl) (hb := rfl); exact rfl
        apply seq_plain; exact do_pick_f rfl rfl; exact rfl
        apply seq_nil
        refine ct_cond_f rfl rfl ?_
        apply ct_skip
        apply ct_exit
        apply exit_eq; exact rfl
        apply ct_region
        apply seq_plain; exact do_succ rfl (by omega); exact rfl
        apply seq_plain; exact do_move rfl; exact rfl
        apply seq_nil
        exact lt_to (by repeat (first | exact sub_nil | apply sub_cons rfl)) (hq_base low_ext) (ih' 1 _ (by omega) (by omega) (by rw [hps]; exact hje))
    · have h3 : 1 ≤ k := by
        have : ¬ k = 0 := by simpa using h3
        omega
      have hne : ((evenN n - 1 : Nat) : Int) ≠ 0 := by omega
      have m1 : ((r : Int) + (k : Int)).tmod ((evenN n - 1 : Nat) : Int) = (((r + k) % (evenN n - 1) : Nat) : Int) := by
        rw [show (r : Int) + (k : Int) = ((r + k : Nat) : Int) by omega, tmod_n]
      have m2 : ((r : Int) - (k : Int) + ((evenN n - 1 : Nat) : Int)).tmod ((evenN n - 1 : Nat) : Int) = (((r + (evenN n - 1) - k) % (evenN n - 1) : Nat) : Int) := by
        rw [show (r : Int) - (k : Int) + ((evenN n - 1 : Nat) : Int) = ((r + (evenN n - 1) - k : Nat) : Int) by omega, tmod_n]
      apply ct_skip
      apply ct_seq
      apply ct_draw (by assumption); decide +kernel
      apply sd_look (hfree := rfl); exact do_load rfl (by exact ext_get_old (by assumption) (by assumption)) rfl (by exact rfl); exact rfl
      apply sd_plain (hfree := rfl); intro _; exact do_move rfl; exact rfl
      apply sd_plain (hfree := rfl); intro _; exact do_add rfl rfl (by omega); exact rfl
      apply sd_plain (hfree := rfl); intro _; exact do_move rfl; exact rfl
      apply sd_plain (hfree := rfl); intro _; exact do_rem rfl rfl (by assumption); exact rfl
      apply sd_look (hfree := rfl); exact do_load rfl (by exact ext_get_old (by assumption) (by assumption)) rfl (by exact rfl); exact rfl
      apply sd_plain (hfree := rfl); intro _; exact do_move rfl; exact rfl
      apply sd_plain (hfree := rfl); intro _; exact do_sub rfl rfl (by omega); exact rfl
      apply sd_plain (hfree := rfl); intro _; exact do_move rfl; exact rfl
      apply sd_plain (hfree := rfl); intro _; exact do_add rfl rfl (by omega); exact rfl
      apply sd_plain (hfree := rfl); intro _; exact do_move rfl; exact rfl
      apply sd_plain (hfree := rfl); intro _; exact do_rem rfl rfl (by assumption); exact rfl
      apply sd_plain (hfree := rfl); intro _; exact do_build rfl rfl rfl rfl; exact rfl
      apply sd_newP (hfree := rfl); exact do_alloc rfl rfl; exact rfl
      apply sd_put (hfree := rfl) (hser := by decide +kernel) (hc := by assumption); rotate_left; exact do_store rfl rfl (by exact ext_get_new rfl) rfl rfl (nb_own _); rotate_left; exact Nat.le_of_ble_eq_true rfl
      rw [m1, m2]
      apply sd_nil
      apply ct_seq
      apply ct_seq
      apply ct_region
      apply seq_plain; exact do_move rfl; exact rfl
      apply seq_plain; exact do_rem rfl rfl (by decide); exact rfl
      apply seq_plain; exact do_binInt rfl rfl rfl trivial; exact rfl
      apply seq_nil
      obtain ⟨p, hp⟩ : ∃ p : Int × Int, p = if k % 2 = 0 then ((((r + (evenN n - 1) - k) % (evenN n - 1) : Nat) : Int), (((r + k) % (evenN n - 1) : Nat) : Int)) else ((((r + k) % (evenN n - 1) : Nat) : Int), (((r + (evenN n - 1) - k) % (evenN n - 1) : Nat) : Int)) := ⟨_, rfl⟩
      refine ct_J [(0, yieldV B), (1, .pointer (some ⟨b1, 0, none⟩)), (2, .pointer (some ⟨b2, 0, none⟩)), (4, I (evenN n - 1 : Nat)), (7, .pointer (some ⟨nb h 0, 0, none⟩)), (13, I (evenN n / 2 : Nat)), (14, I k)] (ds := []) (h := ext h h.low [some (.cells [I p.1, I p.2] 0 false false)]) ?_ ?_
      · refine ct_cond rfl (fun h5 => ?_) (fun h5 => ?_)
        · have h5 : k % 2 = 0 := by
            have h5 : ((k : Int).tmod 2 == 0) = true := h5
            rw [show (2 : Int) = ((2 : Nat) : Int) from rfl, tmod_n] at h5
            simp at h5; omega
          rw [if_pos h5] at hp
          rw [hp]
          apply ct_region
          apply seq_plain; exact do_load rfl (by exact ext_get_new rfl) rfl (by exact rfl); exact rfl
          apply seq_call (ht := rfl); exact turned138; exact rfl
          exact seq_putJ hcl (by simp) (do_store rfl rfl (ext_get_new rfl) rfl rfl (nb_own _)) rfl (by repeat (first | exact sub_nil | apply sub_cons rfl))
        · have h5 : ¬ k % 2 = 0 := by
            have h5 : ((k : Int).tmod 2 == 0) = false := h5
            rw [show (2 : Int) = ((2 : Nat) : Int) from rfl, tmod_n] at h5
            simp at h5; omega
          rw [if_neg h5] at hp
          rw [hp]
          apply ct_skip
          exact jp_of (by repeat (first | exact sub_nil | apply sub_cons rfl))
      have hje : J (pairsTo n r k) (ext h h.low [some (.cells [I p.1, I p.2] 0 false false)]) := hJ.ext _ _ _ _ hj
      have hxB : (ext h h.low [some (.cells [I p.1, I p.2] 0 false false)]).get B = some xB := ext_get_old hcl gB
      have hps : pairsTo n r (k + 1) = pairsTo n r k ++ [p] := by
        have q1 : ¬ k + 1 = 0 := by omega
        have q2 : ¬ k = 0 := by omega
        have e : rowTo n r (k + 1) = rowTo n r k ++ [pairF n r k] := by
          unfold rowTo
          rw [Nat.add_sub_cancel, List.append_assoc]
          obtain ⟨k', rfl⟩ : ∃ k', k = k' + 1 := ⟨k - 1, by omega⟩
          rw [Nat.add_sub_cancel, List.range_succ, List.map_append]; rfl
        simp only [pairsTo, q1, q2, if_false, e, List.map_append, List.map_cons, List.map_nil]
        congr 2
        rw [hp]
        unfold pairF
        by_cases h6 : k % 2 = 0 <;> simp [h6, pr]
      have hlen : (pairsTo n r k).length ≤ 100 := by
        have := row_len (n := n) (r := r) (k := k) (by omega) (by omega)
        unfold pairsTo
        split
        · simp
        · rw [List.length_map]; omega
      apply ct_seq
      apply ct_region
      apply seq_plain; exact do_move rfl; exact rfl
      apply seq_plain; exact do_load rfl (by exact ext_get_new rfl) rfl (by exact rfl); exact rfl
      refine seq_yieldQ rfl hxB (hJ.yield _ p _ hlen hje) rfl (fun v h' hv => ?_)
      obtain ⟨rfl, hj'⟩ := hv
      obtain ⟨_, hlow', _⟩ := hJ.at_ _ _ hj'
      apply seq_plain; exact do_unOp rfl rfl; exact rfl
      apply seq_nil
      refine ct_cond_f rfl rfl ?_
      apply ct_skip
      apply ct_region
      apply seq_plain; exact do_succ rfl (by omega); exact rfl
      apply seq_plain; exact do_move rfl; exact rfl
      apply seq_nil
      exact lt_to (by repeat (first | exact sub_nil | apply sub_cons rfl)) (hq_base hlow') (ih' (k + 1) h' (by omega) (by omega) (by rw [hps]; exact hj'))
  · have h1 : k = evenN n / 2 := by simp at h1; omega
    subst h1
    apply ct_exit
    apply exit_eq; exact rfl
    refine fin_id rfl ⟨hJ.st _ h _ ⟨fun _ => rfl, rfl⟩ ?_ hj, Nat.min_le_right _ _⟩
    have : (ext h h.low []).low = min h.low h.fresh := rfl
    show min (ext h h.low []).low H.low ≤ h.fresh
    omega
end Go.Proofs.YtppflopinmkpgaaDoor
