/- Contracts: lists of fixtures that are the same, small numbers. -/
import Derived.Test.YtiggikjbknoohaaGreatDoorFnL
import Derived.Test.YtiggikjbknoohaaGreatDoorSxK
noncomputable section
namespace Go.Proofs.YtiggikjbknoohaaGreatDoor
open Go Go.Den
set_option maxRecDepth 100000

/-- n, made even -/
def evenN (n : Nat) : Nat := n + n % 2
theorem even_c {H : AHeap} {n : Nat} (hn : n ≤ 1000000) : Ret Tryz.prog 155 [I n] H (I (evenN n)) H := by
  have e : ((n : Int)).tmod 2 = ((n % 2 : Nat) : Int) := by rw [Int.tmod_eq_emod_of_nonneg (by omega)]; rfl
  refine fn_start Tryz.func155 rfl rfl rfl fun hc => ?_
  apply ct_seq
  apply ct_region
  apply seq_plain; exact do_assign rfl; exact rfl
  apply seq_nil
  apply ct_seq
  apply ct_region
  apply seq_plain; exact do_move rfl; exact rfl
  apply seq_plain; exact do_move rfl; exact rfl
  apply seq_plain; exact do_rem rfl rfl (by decide); exact rfl
  apply seq_plain; exact do_add rfl rfl (by omega); exact rfl
  apply seq_plain; exact do_assign rfl; exact rfl
  apply seq_nil
  apply ct_ret
  refine fin_flat hc rfl rfl ⟨?_, rfl⟩
  show I ((n : Int) + (n : Int).tmod 2) = _
  rw [e]
  simp [evenN]
theorem modulo_c {H : AHeap} {a b : Int} (hb : b ≠ 0) (h1 : -1000000 ≤ a ∧ a ≤ 1000000) (h2 : 0 < b ∧ b ≤ 1000000) : Ret Tryz.prog 157 [I a, I b] H (I ((a.tmod b + b).tmod b)) H := by
  have k1 : -1000000 ≤ a.tmod b ∧ a.tmod b ≤ 1000000 := by
    have := Int.natAbs_tmod a b
    have h3 := Nat.mod_le a.natAbs b.natAbs
    omega
  refine fn_start Tryz.func157 rfl rfl rfl fun hc => ?_
  apply ct_seq
  apply ct_region
  apply seq_plain; exact do_assign rfl; exact rfl
  apply seq_nil
  apply ct_seq
  apply ct_region
  apply seq_plain; exact do_move rfl; exact rfl
  apply seq_plain; exact do_move rfl; exact rfl
  apply seq_plain; exact do_rem rfl rfl (by assumption); exact rfl
  apply seq_plain; exact do_move rfl; exact rfl
  apply seq_plain; exact do_add rfl rfl (by omega); exact rfl
  apply seq_plain; exact do_move rfl; exact rfl
  apply seq_plain; exact do_rem rfl rfl (by assumption); exact rfl
  apply seq_plain; exact do_assign rfl; exact rfl
  apply seq_nil
  apply ct_ret
  exact fin_flat hc rfl rfl ⟨rfl, rfl⟩
theorem tyFx : ∃ ti f0 f1 f2, (ctxOf Tryz.prog).ty.get 199 = some ti ∧ ti.und = .struct #[f0, f1, f2] ∧ (f0.name == "_") = false ∧ (f1.name == "_") = false ∧ (f2.name == "_") = false ∧ f0.type = 3 ∧ f1.type = 3 ∧ f2.type = 3 ∧ f0.offset = 0 ∧ f1.offset = 1 ∧ f2.offset = 2 :=
  ⟨_, _, _, _, ctx_ty rfl, rfl, rfl, rfl, rfl, rfl, rfl, rfl, rfl, rfl, rfl⟩
theorem tyI : ∃ ti, (ctxOf Tryz.prog).ty.get 3 = some ti ∧ ti.und = .int .i64 ∧ ti.size = 1 ∧ isAggD ti.und = false := ⟨_, ctx_ty rfl, rfl, rfl, rfl⟩
theorem heldFx : Tryz.prog.stoodInHeld 199 = false := by decide +kernel
theorem guardFx : Tryz.prog.eqGuardType Tryz.prog.depth 199 = false := by decide +kernel
theorem eqVFx (x y : Fx) : eqV Tryz.prog (ctxOf Tryz.prog) 20 199 (.agg ⟨fx x⟩) (.agg ⟨fx y⟩) = some ((x.day == y.day) && ((x.home == y.home) && (x.away == y.away))) := by
  obtain ⟨ti, f0, f1, f2, h1, h2, n0, n1, n2, t0, t1, t2, o0, o1, o2⟩ := tyFx
  obtain ⟨ei, e1, e2, e3, e4⟩ := tyI
  have one : ∀ a b : Int, eqV Tryz.prog (ctxOf Tryz.prog) 19 3 (I a) (I b) = some (a == b) := by
    intro a b
    simp only [eqV, e1, e2]; simp
  have p : ∀ (xs : List Value) (k : Nat) (v : Value), xs[k]? = some v → partA ei xs k = some v := by
    intro xs k v hv
    simp [partA, e4, hv]
  rw [eqV]
  simp only [h1, h2, heldFx, Bool.false_eq_true, if_false]
  simp only [eqFs, n0, n1, n2, t0, t1, t2, o0, o1, o2, e1, Bool.false_eq_true, if_false, fx]
  rw [p _ 0 (I x.day) rfl, p _ 0 (I y.day) rfl, p _ 1 (I x.home) rfl, p _ 1 (I y.home) rfl, p _ 2 (I x.away) rfl, p _ 2 (I y.away) rfl]
  simp only [one]
  cases (x.day == y.day) <;> cases (x.home == y.home) <;> cases (x.away == y.away) <;> rfl
theorem eqAFx (x y : Fx) : eqA Tryz.prog (ctxOf Tryz.prog) 199 (.agg ⟨fx x⟩) (.agg ⟨fx y⟩) = some ((x.day == y.day) && ((x.home == y.home) && (x.away == y.away))) := by
  obtain ⟨ti, f0, f1, f2, h1, h2, _⟩ := tyFx
  unfold eqA
  simp only [h1, h2, guardFx, eqVFx]
  simp [fx, flatC]
theorem fx_eq {x y : Fx} : ((x.day == y.day) && ((x.home == y.home) && (x.away == y.away))) = true ↔ x = y := by
  cases x; cases y
  simp
def sameFxB (l m : List Fx) : Bool := decide (l.length = m.length) && (List.range l.length).all fun i => match l[i]?, m[i]? with
  | some x, some y => (x.day == y.day) && ((x.home == y.home) && (x.away == y.away))
  | _, _ => false
theorem sameFx_iff {l m : List Fx} : sameFxB l m = true ↔ l = m := by
  unfold sameFxB
  rw [Bool.and_eq_true, decide_eq_true_iff, List.all_eq_true]
  constructor
  · rintro ⟨h1, h2⟩
    refine List.ext_getElem h1 fun i a b => ?_
    have := h2 i (List.mem_range.2 a)
    rw [List.getElem?_eq_getElem a, List.getElem?_eq_getElem b] at this
    exact fx_eq.1 this
  · rintro rfl
    refine ⟨rfl, fun i hi => ?_⟩
    rw [List.getElem?_eq_getElem (List.mem_range.1 hi)]
    exact fx_eq.2 rfl
theorem sameFx_f {l m : List Fx} (h : l ≠ m) : sameFxB l m = false := by
  cases e : sameFxB l m
  · rfl
  · exact absurd (sameFx_iff.1 e) h
theorem sameFixtures_c {H : AHeap} {p q : Option Addr} {c c' : Nat} {l m : List Fx} (hs : SlAt H 3 fx p l) (ht : SlAt H 3 fx q m) (hn : l.length < 1000000000000) :
    Ret Tryz.prog 156 [.slice p l.length c, .slice q m.length c'] H (.bool (sameFxB l m)) H := by
  refine fn_start Tryz.func156 rfl rfl rfl fun hc => ?_
  apply ct_seq
  apply ct_region
  apply seq_plain; exact do_assign rfl; exact rfl
  apply seq_nil
  apply ct_seq
  apply ct_seq
  apply ct_region
  apply seq_plain; exact do_move rfl; exact rfl
  apply seq_plain; exact do_lenS rfl rfl rfl; exact rfl
  apply seq_plain; exact do_move rfl; exact rfl
  apply seq_plain; exact do_lenS rfl rfl rfl; exact rfl
  apply seq_plain; exact do_binInt rfl rfl rfl trivial; exact rfl
  apply seq_nil
  refine ct_cond rfl (fun h0 => ?_) (fun h0 => ?_)
  · have h0 : l.length ≠ m.length := by simp at h0; omega
    apply ct_seq
    apply ct_region
    apply seq_plain; exact do_assign rfl; exact rfl
    apply seq_nil
    apply ct_ret
    refine fin_flat hc rfl rfl ⟨?_, rfl⟩
    rw [sameFx_f fun e => h0 (by rw [e])]; rfl
  · have h0 : l.length = m.length := by simp at h0; omega
    apply ct_skip
    apply ct_seq
    apply ct_seq
    apply ct_region
    apply seq_plain; exact do_assign rfl; exact rfl
    apply seq_nil
    apply ct_block
    apply ct_loop
    refine lt_up (fun i => [(0, .slice p l.length c), (1, .slice q m.length c'), (5, I i)]) (fun i => ∀ j (hj : j < l.length) (hj' : j < m.length), j < i → l[j] = m[j]) l.length (fun i hi hJ ih => ?_) 0 (by omega) (by intros; omega) (by repeat (first | exact sub_nil | apply sub_cons rfl))
    apply ct_seq
    apply ct_seq
    apply ct_region
    apply seq_plain; exact do_move rfl; exact rfl
    apply seq_plain; exact do_move rfl; exact rfl
    apply seq_plain; exact do_lenS rfl rfl rfl; exact rfl
    apply seq_plain; exact do_binInt rfl rfl rfl trivial; exact rfl
    apply seq_nil
    refine ct_cond rfl (fun h1 => ?_) (fun h1 => ?_)
    · simp only [decide_eq_true_eq, Int.ofNat_lt] at h1
      obtain ⟨b, o, cs, z, s, ro, rfl, hg, hw⟩ := hs.out (by intro e; rw [e] at h1; simp at h1)
      obtain ⟨b', o', cs', z', s', ro', rfl, hg', hw'⟩ := ht.out (fun e => by have h5 := congrArg List.length e; simp only [List.length_nil] at h5; omega)
      have h1' : i < m.length := by omega
      apply ct_skip
      apply ct_seq
      apply ct_block
      apply ct_seq
      apply ct_draw (by assumption); decide +kernel
      apply sd_plain (hfree := rfl); intro _; exact do_move rfl; exact rfl
      apply sd_plain (hfree := rfl); intro _; exact do_move rfl; exact rfl
      apply sd_plain (hfree := rfl); intro _; exact do_indexAddrS rfl rfl rfl (by exact idx_nat (by omega)); exact rfl
      apply sd_look (hfree := rfl); exact do_load rfl (by exact ext_get_old (by assumption) (by assumption)) rfl (by exact pt_sl (by assumption) (by omega)); exact rfl
      apply sd_plain (hfree := rfl); intro _; exact do_move rfl; exact rfl
      apply sd_plain (hfree := rfl); intro _; exact do_move rfl; exact rfl
      apply sd_plain (hfree := rfl); intro _; exact do_indexAddrS rfl rfl rfl (by exact idx_nat (by omega)); exact rfl
      apply sd_look (hfree := rfl); exact do_load rfl (by exact ext_get_old (by assumption) (by assumption)) rfl (by exact pt_sl (by assumption) (by omega)); exact rfl
      apply sd_plain (hfree := rfl); intro _; exact do_neq rfl rfl trivial (eqAFx _ _); exact rfl
      apply sd_nil
      by_cases h2 : l[i] = m[i]
      · refine ct_cond_f rfl (by rw [fx_eq.2 h2]; rfl) ?_
        apply ct_skip
        apply ct_region
        apply seq_plain; exact do_move rfl; exact rfl
        apply seq_plain; exact do_succ rfl (by omega); exact rfl
        apply seq_plain; exact do_assign rfl; exact rfl
        apply seq_nil
        refine lt_sub ?_ (ih (i + 1) (by omega) (by omega) fun j hj hj' hji => ?_)
        · (repeat (first | exact sub_nil | apply sub_cons rfl))
        · rcases Nat.lt_or_ge j i with h | h
          · exact hJ j hj hj' h
          · have : j = i := by omega
            subst this; exact h2
      · have h3 : ((l[i].day == m[i].day) && ((l[i].home == m[i].home) && (l[i].away == m[i].away))) = false := by
          cases e : ((l[i].day == m[i].day) && ((l[i].home == m[i].home) && (l[i].away == m[i].away)))
          · rfl
          · exact absurd (fx_eq.1 e) h2
        refine ct_cond_t rfl (by rw [h3]; rfl) ?_
        apply ct_seq
        apply ct_region
        apply seq_plain; exact do_assign rfl; exact rfl
        apply seq_nil
        apply ct_ret
        refine fin_flat hc rfl rfl ⟨?_, rfl⟩
        rw [sameFx_f fun e => h2 (by subst e; rfl)]; rfl
    · simp only [decide_eq_false_iff_not, Int.ofNat_lt] at h1
      apply ct_exit
      apply exit_eq; exact rfl
      apply ct_seq
      apply ct_region
      apply seq_plain; exact do_assign rfl; exact rfl
      apply seq_nil
      apply ct_ret
      refine fin_flat hc rfl rfl ⟨?_, rfl⟩
      rw [(sameFx_iff (l := l) (m := m)).2 (List.ext_getElem h0 fun j hj hj' => hJ j hj hj' (by omega))]; rfl
end Go.Proofs.YtiggikjbknoohaaGreatDoor
