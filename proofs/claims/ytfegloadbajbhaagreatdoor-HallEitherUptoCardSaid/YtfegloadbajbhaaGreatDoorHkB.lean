/- The symbolic layer: two lists, a list beside numbers are the result. -/
import Derived.Test.YtfegloadbajbhaaGreatDoorSxZ
import Derived.Test.YtfegloadbajbhaaGreatDoorSxY
import Derived.Test.YtfegloadbajbhaaGreatDoorPnH
import Derived.Test.YtfegloadbajbhaaGreatDoorSxQ
import Derived.Test.YtfegloadbajbhaaGreatDoorHkA
noncomputable section
namespace Go.Den

section
variable {P : Program} {l : EL} {H : AHeap} {lo : Nat} {L : List (Option ABlk)} {α β : Type} {m m' K K' : Nat} {f : α → List Value} {g : β → List Value} {xs : List α} {ys : List β} {v w : Value}
theorem lstH_fresh_nil : (lstH H m f ([] : List α)).fresh = H.fresh := rfl
theorem lstH_fresh_cons {x : α} {xs : List α} : (lstH H m f (x :: xs)).fresh = H.fresh + 2 := by simp only [lstH, AHeap.add, AHeap.fresh]; omega
/-- two lists are the result -/
theorem fin_lists {Q : Value → AHeap → Prop} {rs : Array ResultVar} (hc : Closed H) (hv : LstI H L m f K v xs) (hw : LstI H L m' g K' w ys) (hne : xs ≠ [] → ys ≠ [] → K ≠ K') (hr : resE l rs.toList = some [v, w]) (hf : ∀ x, (f x).all (flatD 8) = true) (hg : ∀ x, (g x).all (flatD 8) = true)
    (hq : Q (.tuple ⟨[lstV H.fresh xs, lstV (lstH H m f xs).fresh ys]⟩) (lstH (lstH H m f xs) m' g ys)) : Fin P rs H Q ⟨ofA l, [], ext H lo L⟩ := by
  cases xs with
  | nil =>
    rcases hv.out with ⟨_, rfl⟩ | ⟨h, _⟩
    · cases ys with
      | nil =>
        rcases hw.out with ⟨_, rfl⟩ | ⟨h, _⟩
        · exact fin_flat hc hr rfl hq
        · exact absurd rfl h
      | cons y ys =>
        obtain ⟨rfl, hL⟩ := hw.at_ (by simp)
        refine fin_one (k := K') hc hr hL (flat_all hg _) ?_ hq
        simp [packA, renV, renL, lstV, lstP, renOf_one (H := H) ⟨own_iff.1 (nb_own K'), nb_ge K'⟩, lstH_fresh_nil]
    · exact absurd rfl h
  | cons x xs =>
    obtain ⟨rfl, hL1⟩ := hv.at_ (by simp)
    cases ys with
    | nil =>
      rcases hw.out with ⟨_, rfl⟩ | ⟨h, _⟩
      · refine fin_one (k := K) hc hr hL1 (flat_all hf _) ?_ hq
        simp [packA, renV, renL, lstV, lstP, renOf_one (H := H) ⟨own_iff.1 (nb_own K), nb_ge K⟩]
      · exact absurd rfl h
    | cons y ys =>
      obtain ⟨rfl, hL2⟩ := hw.at_ (by simp)
      have hKK := hne (by simp) (by simp)
      obtain ⟨r1, r2⟩ := renOf_two (H := H) ⟨own_iff.1 (nb_own K), nb_ge K⟩ ⟨own_iff.1 (nb_own K'), nb_ge K'⟩ (fun e => hKK (nb_inj.1 e))
      refine fin_two (j := K) (k := K') hc hr hL1 hL2 hKK (flat_all hf _) (flat_all hg _) ?_ hq
      simp [packA, renV, renL, lstV, lstP, r1, r2, lstH_fresh_cons]
end
/-! ### old blocks that are dropped -/
theorem Puts.kill {H H1 : AHeap} (h : Puts H H1) {b : Nat} (hb : own b = true) (hlt : b < H.fresh) : Puts H (H1.kill b) := by
  refine ⟨h.next, fun c hc => ?_, fun c h1 h2 => ?_, fun c y h1 h2 hy => ?_, Nat.le_trans (Nat.min_le_left _ _) h.low, fun c h1 h2 => ?_⟩
  · rw [kill_get hb, if_neg (by intro e; subst e; rw [own_iff] at hb; omega)]; exact h.odd c hc
  · rw [kill_get hb, if_neg (by omega)]; exact h.ge c h1 h2
  · rw [kill_get hb] at hy
    split at hy
    · cases hy
    · exact h.chg c y h1 h2 hy
  · have h2' : c < min H1.low b := h2
    rw [kill_get hb, if_neg (by omega)]
    exact h.lows c h1 (by omega)
section
variable {P : Program} {l : EL} {H H1 : AHeap} {lo : Nat} {L : List (Option ABlk)}
end
section
variable {P : Program} {rd : Option Nat} {nt : Nat} {ops : Array Oper} {l : EL} {ds : List Nat} {K : St → Prop} {i : Nat} {r : List Oper} {o : Oper} {ty : TypeId} {pos : String} {af : Array Edge} {H : AHeap} {lo : Nat} {L : List (Option ABlk)}
  {Qn : St → Prop} {Qe : Nat → St → Prop} {Qr : St → Prop} {bk : Code}
variable {L0 : List (Option ABlk)} {ow : List Nat} {N : List ABlk}
end
end Go.Den
/- Contracts: tables and bookings, as the reference and the laws look at them. -/
noncomputable section
namespace Go.Proofs.YtfegloadbajbhaaGreatDoor
open Go Go.Den
set_option maxRecDepth 100000

set_option maxHeartbeats 4000000 in
theorem own_c {H : AHeap} {q r : Option Addr} {c d : Nat} {t : List Tb} {l : List Bk} (hs : SlAt H 2 tb q t) (hn : t.length < 1000000000) (ht : SlAt H 4 bk r l) (hm : l.length < 1000000000) :
    Ret Tryz.prog 16 [.slice q t.length c, .slice r l.length d] H (.tuple ⟨[lstV H.fresh t, lstV (lstH H 2 tb t).fresh l]⟩) (lstH (lstH H 2 tb t) 4 bk l) := by
  refine fn_start Tryz.func16 rfl rfl rfl fun hc => ?_
  apply ct_seq
  apply ct_region
  apply seq_plain; exact do_assign rfl; exact rfl
  apply seq_plain; exact do_assign rfl; exact rfl
  apply seq_nil
  apply ct_seq
  apply ct_region
  apply seq_plain; exact do_assign rfl; exact rfl
  apply seq_nil
  apply ct_seq
  apply ct_region
  apply seq_plain; exact do_assign rfl; exact rfl
  apply seq_nil
  apply ct_seq
  apply ct_seq
  apply ct_region
  apply seq_plain; exact do_assign rfl; exact rfl
  apply seq_nil
  apply ct_block
  apply ct_loop
  refine lt_meas (α := Nat × Value × Nat × List (Option ABlk)) (fun a => [(0, .slice q t.length c), (1, .slice r l.length d), (6, a.2.1), (7, .slice none 0 0), (8, I a.1)]) (fun a => ext H H.fresh a.2.2.2) (fun a => a.1 ≤ t.length ∧ LstI H a.2.2.2 2 tb a.2.2.1 a.2.1 (t.take a.1)) (fun a => t.length - a.1) (fun a ha ih => ?_) (0, .slice none 0 0, 0, []) ⟨by simp, .nil⟩ (by repeat (first | exact sub_nil | apply sub_cons rfl)) (.refl _)
  obtain ⟨i, v, K, L⟩ := a
  obtain ⟨hi, hv⟩ := ha
  simp only at hi hv ih ⊢
  have ih' := fun i' v' K' L' a1 a2 a3 => ih (i', v', K', L') a1 ⟨a2, a3⟩
  simp only at ih'
  clear ih
  apply ct_seq
  apply ct_seq
  apply ct_region
  apply seq_plain; exact do_move rfl; exact rfl
  apply seq_plain; exact do_move rfl; exact rfl
  apply seq_plain; exact do_lenS rfl rfl rfl; exact rfl
  apply seq_plain; exact do_binInt rfl rfl rfl trivial; exact rfl
  apply seq_nil
  refine ct_cond rfl (fun h1 => ?_) (fun h1 => ?_)
  · simp only [decide_eq_true_eq, Int.ofNat_lt] at h1
    obtain ⟨b, o, cs, z, s, ro, rfl, hg, hw⟩ := hs.out (by intro e; rw [e] at h1; simp at h1)
    apply ct_skip
    apply ct_seq
    apply ct_block
    apply ct_region
    apply seq_plain; exact do_move rfl; exact rfl
    apply seq_plain; exact do_move rfl; exact rfl
    apply seq_plain; exact do_move rfl; exact rfl
    apply seq_plain; exact do_indexAddrS rfl rfl rfl (by exact idx_nat (by omega)); exact rfl
    apply seq_plain; exact do_load rfl (by exact ext_get_old (by assumption) (by assumption)) rfl (by exact pt_sl (by assumption) (by omega)); exact rfl
    apply seq_newS; exact do_buildSlice rfl rfl rfl rfl rfl rfl rfl; exact rfl
    refine seq_growI (xs := [t[i]]) hc (hv.keeps (.app _)) (fun _ => rfl) (fun _ => rfl) rfl rfl rfl rfl rfl rfl (ext_get_new List.getElem?_concat_length) rfl (by simp) ?_ (Nat.ne_of_beq_eq_false rfl) (Nat.ne_of_beq_eq_false rfl) rfl (fun v' L3 hv' hst3 hlen3 => ?_)
    · exact Nat.le_trans (Nat.mul_le_mul_right _ (by simp only [List.length_cons, List.length_nil, List.length_take]; omega : _ ≤ 3000000000)) (Nat.le_of_ble_eq_true rfl)
    obtain ⟨J, hJ, hv'⟩ : ∃ J, J = L.length + 1 ∧ LstI H L3 2 tb J v' (t.take i ++ [t[i]]) := ⟨_, by simp, hv'⟩
    apply seq_plain; exact do_assign rfl; exact rfl
    apply seq_nil
    apply ct_region
    apply seq_plain; exact do_move rfl; exact rfl
    apply seq_plain; exact do_succ rfl (by omega); exact rfl
    apply seq_plain; exact do_assign rfl; exact rfl
    apply seq_nil
    refine lt_sub (by repeat (first | exact sub_nil | apply sub_cons rfl)) (ih' (i + 1) v' J L3 (by omega) (by omega) ?_)
    rw [take_snoc h1]; exact hv'
  have h1 : i = t.length := by simp at h1; omega
  subst h1
  rw [List.take_length] at hv
  clear ih'
  apply ct_exit
  apply exit_eq; exact rfl
  apply ct_seq
  apply ct_seq
  apply ct_region
  apply seq_plain; exact do_assign rfl; exact rfl
  apply seq_nil
  apply ct_block
  apply ct_loop
  refine lt_meas (α := Nat × Value × Nat × List (Option ABlk)) (fun a => [(1, .slice r l.length d), (6, v), (7, a.2.1), (9, I a.1)]) (fun a => ext H H.fresh a.2.2.2) (fun a => a.1 ≤ l.length ∧ LstI H a.2.2.2 2 tb K v t ∧ LstI H a.2.2.2 4 bk a.2.2.1 a.2.1 (l.take a.1) ∧ (t ≠ [] → l.take a.1 ≠ [] → K ≠ a.2.2.1)) (fun a => l.length - a.1) (fun a ha ih => ?_) (0, .slice none 0 0, 0, L) ⟨by simp, hv, .nil, fun _ h => absurd rfl h⟩ (by repeat (first | exact sub_nil | apply sub_cons rfl)) (.refl _)
  clear hv hi L
  obtain ⟨i, w, K2, L⟩ := a
  obtain ⟨hi, hv, hw, hne⟩ := ha
  simp only at hi hv hw hne ih ⊢
  have ih' := fun i' v' K' L' a1 a2 a3 a4 a5 => ih (i', v', K', L') a1 ⟨a2, a3, a4, a5⟩
  simp only at ih'
  clear ih
  apply ct_seq
  apply ct_seq
  apply ct_region
  apply seq_plain; exact do_move rfl; exact rfl
  apply seq_plain; exact do_move rfl; exact rfl
  apply seq_plain; exact do_lenS rfl rfl rfl; exact rfl
  apply seq_plain; exact do_binInt rfl rfl rfl trivial; exact rfl
  apply seq_nil
  refine ct_cond rfl (fun h1 => ?_) (fun h1 => ?_)
  · simp only [decide_eq_true_eq, Int.ofNat_lt] at h1
    obtain ⟨b, o, cs, z, s, ro, rfl, hg, hw'⟩ := ht.out (by intro e; rw [e] at h1; simp at h1)
    apply ct_skip
    apply ct_seq
    apply ct_block
    apply ct_region
    apply seq_plain; exact do_move rfl; exact rfl
    apply seq_plain; exact do_move rfl; exact rfl
    apply seq_plain; exact do_move rfl; exact rfl
    apply seq_plain; exact do_indexAddrS rfl rfl rfl (by exact idx_nat (by omega)); exact rfl
    apply seq_plain; exact do_load rfl (by exact ext_get_old (by assumption) (by assumption)) rfl (by exact pt_sl (by assumption) (by omega)); exact rfl
    apply seq_newS; exact do_buildSlice rfl rfl rfl rfl rfl rfl rfl; exact rfl
    refine seq_growI (xs := [l[i]]) hc (hw.keeps (.app _)) (fun _ => rfl) (fun _ => rfl) rfl rfl rfl rfl rfl rfl (ext_get_new List.getElem?_concat_length) rfl (by simp) ?_ (Nat.ne_of_beq_eq_false rfl) (Nat.ne_of_beq_eq_false rfl) rfl (fun v' L3 hv' hst3 hlen3 => ?_)
    · exact Nat.le_trans (Nat.mul_le_mul_right _ (by simp only [List.length_cons, List.length_nil, List.length_take]; omega : _ ≤ 3000000000)) (Nat.le_of_ble_eq_true rfl)
    have hv3 : LstI H L3 2 tb K v t := (hv.keeps (.app _)).keep fun hn => hst3 K (by have := hv.lt hn; simp; omega) fun h => hne hn h
    obtain ⟨J, hJ, hv'⟩ : ∃ J, J = L.length + 1 ∧ LstI H L3 4 bk J v' (l.take i ++ [l[i]]) := ⟨_, by simp, hv'⟩
    apply seq_plain; exact do_assign rfl; exact rfl
    apply seq_nil
    apply ct_region
    apply seq_plain; exact do_move rfl; exact rfl
    apply seq_plain; exact do_succ rfl (by omega); exact rfl
    apply seq_plain; exact do_assign rfl; exact rfl
    apply seq_nil
    refine lt_sub (by repeat (first | exact sub_nil | apply sub_cons rfl)) (ih' (i + 1) v' J L3 (by omega) (by omega) hv3 ?_ fun hn _ => ?_)
    · rw [take_snoc h1]; exact hv'
    · have := hv.lt hn
      omega
  have h1 : i = l.length := by simp at h1; omega
  subst h1
  rw [List.take_length] at hw hne
  apply ct_exit
  apply exit_eq; exact rfl
  apply ct_seq
  apply ct_region
  apply seq_plain; exact do_move rfl; exact rfl
  apply seq_plain; exact do_move rfl; exact rfl
  apply seq_plain; exact do_assign rfl; exact rfl
  apply seq_plain; exact do_assign rfl; exact rfl
  apply seq_nil
  apply ct_ret
  exact fin_lists hc hv hw hne rfl (fun _ => rfl) (fun _ => rfl) ⟨rfl, rfl⟩
end Go.Proofs.YtfegloadbajbhaaGreatDoor
