/- Plain law of TopNapTill: the bills of all bookings, one after another. -/
import Derived.Test.YtfjihdlpohljbaaGreatBcL
import Derived.Test.YtfjihdlpohljbaaGreatHkA
import Derived.Test.YtfjihdlpohljbaaGreatSxW
import Derived.Test.YtfjihdlpohljbaaGreatSvC
noncomputable section
namespace Go.Proofs.YtfjihdlpohljbaaGreat
open Go Go.Den
set_option maxRecDepth 100000

def priB (r : List Ra) (b : Bk) : Int := priceP r b.frm.toNat b.to.toNat
def tillL (r : List Ra) (dep : Int) (l : List Bk) : List Po := l.flatMap fun b => billL (priB r b) dep
def tillS (r : List Ra) (l : List Bk) : Int := (l.map (priB r)).sum
theorem bill_posE {p dep : Int} (hp : 0 ≤ p) (hp2 : p ≤ 999999999) (hd : 0 ≤ dep) (hd2 : dep ≤ 999999999) : ∀ x ∈ billL p dep, posE x = 0 := by
  intro x hx
  unfold billL at hx
  rcases postL_mem hx with hx | ⟨rfl, h⟩
  · rcases postL_mem hx with hx | ⟨rfl, h⟩
    · rcases postL_mem hx with hx | ⟨rfl, h⟩
      · rcases postL_mem hx with hx | ⟨rfl, h⟩
        · cases hx
        · exact posE_acc (by omega) (by omega) (by omega) h hd2
      · exact posE_acc (by omega) (by omega) (by omega) h (by simp only at h ⊢; omega)
    · exact posE_acc (by omega) (by omega) (by omega) h (by simp only at h ⊢; omega)
  · exact posE_acc (by omega) (by omega) (by omega) h (by simp only at h ⊢; omega)
theorem bill_len {p dep : Int} : (billL p dep).length ≤ 4 := by
  unfold billL
  have h1 := postL_len (postL (postL (postL [] ⟨acc 0, acc 1, dep⟩) ⟨acc 1, acc 2, min dep p⟩) ⟨acc 0, acc 2, p - dep⟩) ⟨acc 1, acc 0, dep - p⟩
  have h2 := postL_len (postL (postL [] ⟨acc 0, acc 1, dep⟩) ⟨acc 1, acc 2, min dep p⟩) ⟨acc 0, acc 2, p - dep⟩
  have h3 := postL_len (postL [] ⟨acc 0, acc 1, dep⟩) ⟨acc 1, acc 2, min dep p⟩
  have h4 := postL_len [] ⟨acc 0, acc 1, dep⟩
  simp only [List.length_nil] at h4
  omega
theorem till_snoc {r : List Ra} {dep : Int} {l : List Bk} {i : Nat} (h : i < l.length) : tillL r dep (l.take (i + 1)) = tillL r dep (l.take i) ++ billL (priB r l[i]) dep := by
  unfold tillL
  rw [take_snoc h, List.flatMap_append]; simp
theorem tillS_snoc {r : List Ra} {l : List Bk} {i : Nat} (h : i < l.length) : tillS r (l.take (i + 1)) = tillS r (l.take i) + priB r l[i] := by
  unfold tillS
  rw [take_snoc h, List.map_append, List.sum_append]; simp
theorem till_len {r : List Ra} {dep : Int} {l : List Bk} : (tillL r dep l).length ≤ 4 * l.length := by
  induction l with
  | nil => simp [tillL]
  | cons b l ih =>
    have e : tillL r dep (b :: l) = billL (priB r b) dep ++ tillL r dep l := rfl
    have := bill_len (p := priB r b) (dep := dep)
    rw [e, List.length_append, List.length_cons]
    omega
/-- bookings whose prices are looked at -/
structure TillOk (r : List Ra) (dep : Int) (l : List Bk) : Prop where
  rok : RatesOk r
  d0 : 0 ≤ dep
  d1 : dep ≤ 999999999
  len : l.length ≤ 10
  bks : ∀ b ∈ l, 0 ≤ b.frm ∧ b.frm < b.to ∧ b.to ≤ 400
section
variable {r : List Ra} {dep : Int} {l : List Bk}
theorem TillOk.pri (h : TillOk r dep l) {b : Bk} (hb : b ∈ l) : 0 ≤ priB r b ∧ priB r b ≤ 40000000 := by
  obtain ⟨h1, h2, h3⟩ := h.bks b hb
  have := priceP_bd h.rok (a := b.frm.toNat) (b := b.to.toNat) (by omega)
  unfold priB
  omega
theorem TillOk.sum (h : TillOk r dep l) : ∀ i, i ≤ l.length → 0 ≤ tillS r (l.take i) ∧ tillS r (l.take i) ≤ 40000000 * (i : Int)
  | 0, _ => by simp [tillS]
  | i + 1, hi => by
    have h1 := h.sum i (by omega)
    have h2 := h.pri (List.getElem_mem (l := l) (n := i) (by omega))
    rw [tillS_snoc (by omega)]
    omega
theorem TillOk.pos (h : TillOk r dep l) : possE (tillL r dep l) = 0 := by
  refine poss_zero (fun x hx => ?_) ?_
  · obtain ⟨b, hb, hx⟩ := List.mem_flatMap.1 hx
    have h1 := h.pri hb
    exact bill_posE h1.1 (by omega) h.d0 h.d1 x hx
  · have := till_len (r := r) (dep := dep) (l := l)
    have := h.len
    omega
theorem TillOk.bal (h : TillOk r dep l) : ∀ i, i ≤ l.length → balI (tillL r dep (l.take i)) (acc 0) = tillS r (l.take i) ∧ balI (tillL r dep (l.take i)) (acc 2) = -tillS r (l.take i) ∧ balI (tillL r dep (l.take i)) (acc 1) = 0
  | 0, _ => by simp [tillL, tillS, balI]
  | i + 1, hi => by
    obtain ⟨h1, h2, h3⟩ := h.bal i (by omega)
    have hp := h.pri (List.getElem_mem (l := l) (n := i) (by omega))
    obtain ⟨k1, k2, k3⟩ := bill_bal (p := priB r l[i]) (dep := dep) hp.1 h.d0
    rw [till_snoc (by omega), tillS_snoc (by omega), balI_app, balI_app, balI_app, h1, h2, h3, k1, k2, k3]
    refine ⟨rfl, by omega, by omega⟩
end
/-- the prices of quarters, one by one -/
theorem quarters {r : List Ra} (a : Nat) : ∀ n, ((List.range n).map fun i => priceP r (a + i) (a + i + 1)).sum = priceP r a (a + n)
  | 0 => by simp [priceP]
  | n + 1 => by
    rw [List.range_succ, List.map_append, List.sum_append, quarters a n]
    simp only [List.map_cons, List.map_nil, List.sum_cons, List.sum_nil]
    have := priceP_add (l := r) a (a + n) (a + n + 1)
    have e : a + (n + 1) = a + n + 1 := by omega
    rw [e, ← this]; omega
end Go.Proofs.YtfjihdlpohljbaaGreat
/- The seat of TopNapTill, TopNapQueue, TopNapUsed: tables, bookings and requests are copied (napOwn, napRequests). Not built yet. -/
noncomputable section
namespace Go.Proofs.YtfjihdlpohljbaaGreat
open Go Go.Den
set_option maxRecDepth 100000

set_option maxHeartbeats 4000000 in
theorem nown_c {H : AHeap} {q r : Option Addr} {c d : Nat} {t : List Tb} {l : List Bk} (hs : SlAt H 2 tb q t) (hn : t.length < 1000000000) (ht : SlAt H 4 bk r l) (hm : l.length < 1000000000) :
    Ret Tryz.prog 6 [.slice q t.length c, .slice r l.length d] H (.tuple ⟨[lstV H.fresh t, lstV (lstH H 2 tb t).fresh l]⟩) (lstH (lstH H 2 tb t) 4 bk l) := by
  refine fn_start Tryz.func6 rfl rfl rfl fun hc => ?_
  apply ct_seq
  apply ct_region
  apply seq_plain; exact do_assign rfl; exact rfl
  apply seq_plain; exact do_assign rfl; exact rfl
  apply seq_nil
  apply ct_seq
  apply ct_region
  apply seq_plain; exact do_assign rfl; exact rfl
  apply seq_nil
  apply ct_seq
  apply ct_region
  apply seq_plain; exact do_assign rfl; exact rfl
  apply seq_nil
  apply ct_seq
  apply ct_seq
  apply ct_region
  apply seq_plain; exact do_move rfl; exact rfl
  apply seq_plain; exact do_lenS rfl rfl rfl; exact rfl
  apply seq_plain; exact do_move rfl; exact rfl
  apply seq_nil
  apply ct_block
  apply ct_loop
  refine lt_meas (α := Nat × Value × Nat × List (Option ABlk)) (fun a => [(1, .slice r l.length d), (6, a.2.1), (7, .slice none 0 0), (12, .slice q t.length c), (13, I t.length), (14, I a.1)]) (fun a => ext H H.fresh a.2.2.2) (fun a => a.1 ≤ t.length ∧ LstI H a.2.2.2 2 tb a.2.2.1 a.2.1 (t.take a.1)) (fun a => t.length - a.1) (fun a ha ih => ?_) (0, .slice none 0 0, 0, []) ⟨by simp, .nil⟩ (by repeat (first | exact sub_nil | apply sub_cons rfl)) (.refl _)
  obtain ⟨i, v, K, L⟩ := a
  obtain ⟨hi, hv⟩ := ha
  simp only at hi hv ih ⊢
  have ih' := fun i' v' K' L' a1 a2 a3 => ih (i', v', K', L') a1 ⟨a2, a3⟩
  simp only at ih'
  clear ih
  apply ct_seq
  apply ct_region
  apply seq_plain; exact do_binInt rfl rfl rfl trivial; exact rfl
  apply seq_nil
  apply ct_seq
  refine ct_cond rfl (fun h1 => ?_) (fun h1 => ?_)
  · simp only [decide_eq_true_eq, Int.ofNat_lt] at h1
    obtain ⟨b, o, cs, z, s, ro, rfl, hg, hw⟩ := hs.out (by intro e; rw [e] at h1; simp at h1)
    apply ct_skip
    apply ct_seq
    apply ct_block
    apply ct_seq
    apply ct_region
    apply seq_plain; exact do_indexAddrS rfl rfl rfl (by exact idx_nat (by omega)); exact rfl
    apply seq_plain; exact do_load rfl (by exact ext_get_old (by assumption) (by assumption)) rfl (by exact pt_sl (by assumption) (by omega)); exact rfl
    apply seq_newP; exact do_alloc rfl rfl; exact rfl
    apply seq_putC (hc := by assumption); rotate_left; exact do_store rfl rfl (by exact ext_get_new List.getElem?_concat_length) rfl rfl (nb_own _); rotate_left; exact (by simp)
    apply ct_region
    apply seq_plain; exact do_move rfl; exact rfl
    apply seq_plain; exact do_load rfl (by exact ext_get_new getSetLast) rfl (by exact rfl); exact rfl
    apply seq_newS; exact do_buildSlice rfl rfl rfl rfl rfl rfl rfl; exact rfl
    rw [set_mid rfl]
    skip
    refine seq_growI (xs := [t[i]]) hc ((hv.keeps (.app _)).keeps (.app _)) (fun _ => rfl) (fun _ => rfl) rfl rfl rfl rfl rfl rfl (ext_get_new List.getElem?_concat_length) rfl (by simp) ?_ (Nat.ne_of_beq_eq_false rfl) (Nat.ne_of_beq_eq_false rfl) rfl (fun v' L3 hv' hst3 hlen3 => ?_)
    · exact Nat.le_trans (Nat.mul_le_mul_right _ (by simp only [List.length_cons, List.length_nil, List.length_take]; omega : _ ≤ 3000000000)) (Nat.le_of_ble_eq_true rfl)
    obtain ⟨J, hJ, hv'⟩ : ∃ J, J = L.length + 2 ∧ LstI H L3 2 tb J v' (t.take i ++ [t[i]]) := ⟨_, by simp, hv'⟩
    apply seq_plain; exact do_assign rfl; exact rfl
    apply seq_nil
    apply ct_region
    apply seq_plain; exact do_succ rfl (by omega); exact rfl
    apply seq_plain; exact do_move rfl; exact rfl
    apply seq_nil
    refine lt_sub (by repeat (first | exact sub_nil | apply sub_cons rfl)) (ih' (i + 1) v' J L3 (by omega) (by omega) ?_)
    rw [take_snoc h1]; exact hv'
  have h1 : i = t.length := by simp at h1; omega
  subst h1
  rw [List.take_length] at hv
  clear ih'
  apply ct_exit
  apply exit_eq; exact rfl
  apply ct_seq
  apply ct_seq
  apply ct_region
  apply seq_plain; exact do_move rfl; exact rfl
  apply seq_plain; exact do_lenS rfl rfl rfl; exact rfl
  apply seq_plain; exact do_move rfl; exact rfl
  apply seq_nil
  apply ct_block
  apply ct_loop
  refine lt_meas (α := Nat × Value × Nat × List (Option ABlk)) (fun a => [(6, v), (7, a.2.1), (23, .slice r l.length d), (24, I l.length), (25, I a.1)]) (fun a => ext H H.fresh a.2.2.2) (fun a => a.1 ≤ l.length ∧ LstI H a.2.2.2 2 tb K v t ∧ LstI H a.2.2.2 4 bk a.2.2.1 a.2.1 (l.take a.1) ∧ (t ≠ [] → l.take a.1 ≠ [] → K ≠ a.2.2.1)) (fun a => l.length - a.1) (fun a ha ih => ?_) (0, .slice none 0 0, 0, L) ⟨by simp, hv, .nil, fun _ h => absurd rfl h⟩ (by repeat (first | exact sub_nil | apply sub_cons rfl)) (.refl _)
  clear hv hi L
  obtain ⟨i, w, K2, L⟩ := a
  obtain ⟨hi, hv, hw, hne⟩ := ha
  simp only at hi hv hw hne ih ⊢
  have ih' := fun i' v' K' L' a1 a2 a3 a4 a5 => ih (i', v', K', L') a1 ⟨a2, a3, a4, a5⟩
  simp only at ih'
  clear ih
  apply ct_seq
  apply ct_region
  apply seq_plain; exact do_binInt rfl rfl rfl trivial; exact rfl
  apply seq_nil
  apply ct_seq
  refine ct_cond rfl (fun h1 => ?_) (fun h1 => ?_)
  · simp only [decide_eq_true_eq, Int.ofNat_lt] at h1
    obtain ⟨b, o, cs, z, s, ro, rfl, hg, hw'⟩ := ht.out (by intro e; rw [e] at h1; simp at h1)
    apply ct_skip
    apply ct_seq
    apply ct_block
    apply ct_seq
    apply ct_region
    apply seq_plain; exact do_indexAddrS rfl rfl rfl (by exact idx_nat (by omega)); exact rfl
    apply seq_plain; exact do_load rfl (by exact ext_get_old (by assumption) (by assumption)) rfl (by exact pt_sl (by assumption) (by omega)); exact rfl
    apply seq_newP; exact do_alloc rfl rfl; exact rfl
    apply seq_putC (hc := by assumption); rotate_left; exact do_store rfl rfl (by exact ext_get_new List.getElem?_concat_length) rfl rfl (nb_own _); rotate_left; exact (by simp)
    apply ct_region
    apply seq_plain; exact do_move rfl; exact rfl
    apply seq_plain; exact do_load rfl (by exact ext_get_new getSetLast) rfl (by exact rfl); exact rfl
    apply seq_newS; exact do_buildSlice rfl rfl rfl rfl rfl rfl rfl; exact rfl
    rw [set_mid rfl]
    skip
    refine seq_growI (xs := [l[i]]) hc ((hw.keeps (.app _)).keeps (.app _)) (fun _ => rfl) (fun _ => rfl) rfl rfl rfl rfl rfl rfl (ext_get_new List.getElem?_concat_length) rfl (by simp) ?_ (Nat.ne_of_beq_eq_false rfl) (Nat.ne_of_beq_eq_false rfl) rfl (fun v' L3 hv' hst3 hlen3 => ?_)
    · exact Nat.le_trans (Nat.mul_le_mul_right _ (by simp only [List.length_cons, List.length_nil, List.length_take]; omega : _ ≤ 3000000000)) (Nat.le_of_ble_eq_true rfl)
    have hv3 : LstI H L3 2 tb K v t := ((hv.keeps (.app _)).keeps (.app _)).keep fun hn => hst3 K (by have := hv.lt hn; simp; omega) fun h => hne hn h
    obtain ⟨J, hJ, hv'⟩ : ∃ J, J = L.length + 2 ∧ LstI H L3 4 bk J v' (l.take i ++ [l[i]]) := ⟨_, by simp, hv'⟩
    apply seq_plain; exact do_assign rfl; exact rfl
    apply seq_nil
    apply ct_region
    apply seq_plain; exact do_succ rfl (by omega); exact rfl
    apply seq_plain; exact do_move rfl; exact rfl
    apply seq_nil
    refine lt_sub (by repeat (first | exact sub_nil | apply sub_cons rfl)) (ih' (i + 1) v' J L3 (by omega) (by omega) hv3 ?_ fun hn _ => ?_)
    · rw [take_snoc h1]; exact hv'
    · have := hv.lt hn
      omega
  have h1 : i = l.length := by simp at h1; omega
  subst h1
  rw [List.take_length] at hw hne
  apply ct_exit
  apply exit_eq; exact rfl
  apply ct_seq
  apply ct_region
  apply seq_plain; exact do_move rfl; exact rfl
  apply seq_plain; exact do_move rfl; exact rfl
  apply seq_plain; exact do_assign rfl; exact rfl
  apply seq_plain; exact do_assign rfl; exact rfl
  apply seq_nil
  apply ct_ret
  exact fin_lists hc hv hw hne rfl (fun _ => rfl) (fun _ => rfl) ⟨rfl, rfl⟩
end Go.Proofs.YtfjihdlpohljbaaGreat
