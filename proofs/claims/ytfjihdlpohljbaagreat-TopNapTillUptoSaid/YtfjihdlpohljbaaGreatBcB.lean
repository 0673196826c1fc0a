/- Contracts: the balances of postings; the keys of a map, as they are yielded. -/
import Derived.Test.YtfjihdlpohljbaaGreatBcA
import Derived.Test.YtfjihdlpohljbaaGreatFxS
import Derived.Test.YtfjihdlpohljbaaGreatSxZ
import Derived.Test.YtfjihdlpohljbaaGreatSxY
noncomputable section
namespace Go.Proofs.YtfjihdlpohljbaaGreat
open Go Go.Den
set_option maxRecDepth 100000

theorem balI_abs {l : List Po} (h : ∀ p ∈ l, 0 ≤ p.amt ∧ p.amt ≤ 999999999) (a : ByteArray) : -(999999999 * (l.length : Int)) ≤ balI l a ∧ balI l a ≤ 999999999 * (l.length : Int) := by
  induction l with
  | nil => simp [balI]
  | cons p l ih =>
    have e : balI (p :: l) a = balP a p + balI l a := by simp [balI]
    have h1 := h p (by simp)
    have h2 := ih fun q hq => h q (by simp [hq])
    have h3 : -999999999 ≤ balP a p ∧ balP a p ≤ 999999999 := by unfold balP; split <;> split <;> omega
    have e2 : (((p :: l).length : Nat) : Int) = (l.length : Int) + 1 := by simp
    rw [e, e2]
    omega
theorem balI_small {l : List Po} (h : ∀ p ∈ l, 0 ≤ p.amt ∧ p.amt ≤ 999999999) (hn : l.length ≤ 256) (a : ByteArray) : -300000000000 ≤ balI l a ∧ balI l a ≤ 300000000000 := by
  have := balI_abs h a
  omega
abbrev balB (ks : List (ByteArray × Int)) : ABlk := pairM strV (fun n : Int => I n) ks
theorem perm_nodup {α : Type} [DecidableEq α] : ∀ {a b : List α}, a.Nodup → b.Nodup → (∀ x, x ∈ a ↔ x ∈ b) → a.Perm b
  | [], b, _, _, h => by
    have : b = [] := List.eq_nil_iff_forall_not_mem.2 fun x hx => by simpa using (h x).2 hx
    subst this; exact .nil
  | x :: a, b, ha, hb, h => by
    have hx : x ∈ b := (h x).1 (by simp)
    have p := List.perm_cons_erase hx
    obtain ⟨h1, h2⟩ := List.nodup_cons.1 ha
    refine ((perm_nodup h2 (hb.erase x) fun y => ?_).cons x).trans p.symm
    rw [hb.mem_erase_iff, ← h y, List.mem_cons]
    constructor
    · intro hy
      exact ⟨fun e => h1 (e ▸ hy), .inr hy⟩
    · rintro ⟨h3, h4⟩
      exact h4.resolve_left h3

set_option maxHeartbeats 4000000 in
theorem balances_c {H : AHeap} {q : Option Addr} {c : Nat} {l : List Po} (hs : SlAt H 3 po q l) (hn : l.length ≤ 256) (ha : ∀ p ∈ l, 0 ≤ p.amt ∧ p.amt ≤ 999999999) :
    CallT Tryz.prog 46 [.slice q l.length c] H (fun v h => ∃ L k, LQ h (ext H 0 L) ∧ h.low ≤ H.low ∧ L[k]? = some (some (balB (accM l))) ∧ v = .map (some (nb H k))) := by
  refine fn_start Tryz.func46 rfl rfl rfl fun hc => ?_
  apply ct_seq
  apply ct_region
  apply seq_plain; exact do_assign rfl; exact rfl
  apply seq_nil
  apply ct_seq
  apply ct_region
  apply seq_newM; exact do_makeMap0; exact rfl
  apply seq_plain; exact do_assign rfl; exact rfl
  apply seq_nil
  apply ct_seq
  apply ct_seq
  apply ct_region
  apply seq_plain; exact do_move rfl; exact rfl
  apply seq_plain; exact do_lenS rfl rfl rfl; exact rfl
  apply seq_plain; exact do_move rfl; exact rfl
  apply seq_nil
  apply ct_block
  apply ct_loop
  refine lt_meas (α := Nat × List (Option ABlk)) (fun a => [(3, .map (some (nb H 0))), (7, .slice q l.length c), (8, I l.length), (9, I a.1)]) (fun a => ext H H.fresh a.2) (fun a => a.1 ≤ l.length ∧ a.2[0]? = some (some (balB (accM (l.take a.1))))) (fun a => l.length - a.1) (fun a hx ih => ?_) (0, [some (.map [] 0 false)]) ⟨Nat.zero_le _, rfl⟩ (by repeat (first | exact sub_nil | apply sub_cons rfl)) (.refl _)
  obtain ⟨i, L⟩ := a
  obtain ⟨hi, hM⟩ := hx
  simp only at hi hM ih ⊢
  have ih' := fun i' L' a1 a2 a3 => ih (i', L') a1 ⟨a2, a3⟩
  simp only at ih'
  clear ih
  apply ct_seq
  apply ct_region
  apply seq_plain; exact do_binInt rfl rfl rfl trivial; exact rfl
  apply seq_nil
  apply ct_seq
  refine ct_cond rfl (fun h1 => ?_) (fun h1 => ?_)
  · simp only [decide_eq_true_eq, Int.ofNat_lt] at h1
    obtain ⟨b, o, cs, z, st, ro, rfl, hg, hw⟩ := hs.out (by intro e; rw [e] at h1; simp at h1)
    have se := accM_succ h1
    have b1 := balI_small (l := l.take i) (fun p hp => ha p (List.mem_of_mem_take hp)) (by rw [List.length_take]; omega)
    have b2 := ha l[i] (List.getElem_mem _)
    have b3 := fun a => accM_get (l.take i) a
    obtain ⟨ks, hks⟩ : ∃ ks, ks = accM (l.take i) := ⟨_, rfl⟩
    rw [← hks] at se hM
    simp only [← hks] at b3
    have b4 : ∀ a, -300000000000 ≤ (getK ks a).getD 0 ∧ (getK ks a).getD 0 ≤ 300000000000 := fun a => by rw [b3]; exact b1 a
    clear b1 b3 hks
    have v1 := b4 l[i].debit
    have hl0 := (List.getElem?_eq_some_iff.1 hM).1
    apply ct_skip
    apply ct_seq
    apply ct_block
    apply ct_seq
    apply ct_region
    apply seq_plain; exact do_indexAddrS rfl rfl rfl (by exact idx_nat (by omega)); exact rfl
    apply seq_plain; exact do_load rfl (by exact ext_get_old (by assumption) (by assumption)) rfl (by exact pt_sl (by assumption) (by omega)); exact rfl
    apply seq_newP; exact do_alloc rfl rfl; exact rfl
    apply seq_putC (hc := by assumption); rotate_left; exact do_store rfl rfl (by exact ext_get_new List.getElem?_concat_length) rfl rfl (nb_own _); rotate_left; exact (by simp)
    apply ct_seq
    apply ct_region
    apply seq_plain; exact do_move rfl; exact rfl
    apply seq_plain; exact do_fieldAddr rfl rfl; exact rfl
    apply seq_plain; exact do_load rfl (by exact ext_get_new getSetLast) rfl (by exact rfl); exact rfl
    rw [set_mid rfl]
    skip
    apply seq_plain; exact do_pairGet (f := strV) (g := fun n : Int => I n) (ks := ks) (a := l[i].debit) (z := I 0) (v := I ((getK ks l[i].debit).getD 0)) rfl rfl (by exact ext_get_new (getApp hM)) rfl rfl keyStr (by cases getK ks l[i].debit <;> rfl); exact rfl
    apply seq_plain; exact do_fieldAddr rfl rfl; exact rfl
    apply seq_plain; exact do_load rfl (by exact ext_get_new List.getElem?_concat_length) rfl (by exact rfl); exact rfl
    apply seq_plain; exact do_add rfl rfl (by omega); exact rfl
    refine seq_putQC (k := 0) hc (by simp) (do_pairPut (f := strV) (g := fun n : Int => I n) (ks := ks) (a := l[i].debit) (b := (getK ks l[i].debit).getD 0 + l[i].amt) rfl rfl rfl (ext_get_new (getApp hM)) rfl keyStr (nb_own _)) (fun L2 hl2 ho2 hk2 => ?_)
    obtain ⟨k1, hk1⟩ : ∃ k1, k1 = putK ks l[i].debit ((getK ks l[i].debit).getD 0 + l[i].amt) := ⟨_, rfl⟩
    have se : accM (l.take (i + 1)) = putK k1 l[i].credit ((getK k1 l[i].credit).getD 0 - l[i].amt) := by rw [se, hk1]; rfl
    have f2 : L2[L.length]? = some (some (.cells (po l[i]) 0 false false)) := by rw [ho2 _ (by omega)]; exact List.getElem?_concat_length
    have hl2 : L2.length = L.length + 1 := by rw [hl2]; simp
    rw [← hk1] at hk2
    have v2 : -400000000000 ≤ (getK k1 l[i].credit).getD 0 ∧ (getK k1 l[i].credit).getD 0 ≤ 400000000000 := by
      have := b4 l[i].credit
      rw [hk1, getK_put]
      split
      · rw [Option.getD_some]; omega
      · omega
    clear hk1 b4 v1 ho2 hM
    apply ct_region
    apply seq_plain; exact do_move rfl; exact rfl
    apply seq_plain; exact do_fieldAddr rfl rfl; exact rfl
    apply seq_plain; exact do_load rfl (by exact ext_get_new (by assumption)) rfl (by exact rfl); exact rfl
    apply seq_plain; exact do_pairGet (f := strV) (g := fun n : Int => I n) (ks := k1) (a := l[i].credit) (z := I 0) (v := I ((getK k1 l[i].credit).getD 0)) rfl rfl (by exact ext_get_new hk2) rfl rfl keyStr (by cases getK k1 l[i].credit <;> rfl); exact rfl
    apply seq_plain; exact do_fieldAddr rfl rfl; exact rfl
    apply seq_plain; exact do_load rfl (by exact ext_get_new (by assumption)) rfl (by exact rfl); exact rfl
    apply seq_plain; exact do_sub rfl rfl (by omega); exact rfl
    refine seq_putQC (k := 0) hc (by omega) (do_pairPut (f := strV) (g := fun n : Int => I n) (ks := k1) (a := l[i].credit) (b := (getK k1 l[i].credit).getD 0 - l[i].amt) rfl rfl rfl (ext_get_new hk2) rfl keyStr (nb_own _)) (fun L3 hl3 ho3 hk3 => ?_)
    rw [← se] at hk3
    apply ct_region
    apply seq_plain; exact do_succ rfl (by omega); exact rfl
    apply seq_plain; exact do_move rfl; exact rfl
    apply seq_nil
    exact lt_to (by repeat (first | exact sub_nil | apply sub_cons rfl)) (.refl _) (ih' (i + 1) L3 (by omega) (by omega) hk3)
  have h1 : i = l.length := by simp at h1; omega
  subst h1
  rw [List.take_length] at hM
  clear ih'
  apply ct_exit
  apply exit_eq; exact rfl
  apply ct_seq
  apply ct_region
  apply seq_plain; exact do_move rfl; exact rfl
  apply seq_plain; exact do_assign rfl; exact rfl
  apply seq_nil
  apply ct_ret
  exact fin_id rfl ⟨L, 0, ⟨fun b => by rw [ext_get hc, ← ext_get hc (lo := H.fresh)]; rfl, rfl⟩, Nat.min_le_right _ _, hM, rfl⟩

/-- what is known between the rounds of a range over the keys of a map -/
structure Kys (B b1 m : Nat) (ks : List (ByteArray × Int)) (it : Nat) (J : List ByteArray → AHeap → Prop) : Prop where
  st : ∀ ps h h', LQ h h' → h'.low ≤ h'.fresh → J ps h → J ps h'
  ext : ∀ ps h lo M, J ps h → J ps (ext h lo M)
  put : ∀ ps h m' c s d s', h.get it = some (.miter m' c s d) → J ps h → J ps (h.put it (.miter m' c s' d))
  at_ : ∀ ps h, J ps h → Closed h ∧ h.low ≤ h.fresh ∧ (∃ z s ro, h.get b1 = some (.cells [.map (some m)] z s ro)) ∧ h.get m = some (balB ks) ∧ ∃ x, h.get B = some x
  yield : ∀ ps p h, ps.length < ks.length → J ps h → RoundT Tryz.prog B [.string p] h (fun v h' => v = .bool true ∧ J (ps ++ [p]) h' ∧ ∀ m' c s d, h.get it = some (.miter m' c s d) → h'.get it = some (.miter m' c s d))
set_option maxHeartbeats 4000000 in
theorem keys1_c {H : AHeap} {B b1 m : Nat} {ks : List (ByteArray × Int)} {J : List ByteArray → AHeap → Prop} (hJ : Kys B b1 m ks (nb H 0) J) (h0 : J [] H) :
    CallT Tryz.prog 83 [yieldV B, .pointer (some ⟨b1, 0, none⟩)] H (fun _ h => (∃ ps, ps.Perm (ks.map (·.1)) ∧ J ps h) ∧ h.low ≤ H.low) := by
  obtain ⟨_, _, ⟨z1, s1, r1, g1⟩, g2, _⟩ := hJ.at_ _ _ h0
  refine fn_start Tryz.func83 rfl rfl rfl fun hc => ?_
  apply ct_seq
  apply ct_region
  apply seq_plain; exact do_load rfl (by exact ext_get_old (by assumption) (by assumption)) rfl (by exact rfl); exact rfl
  apply seq_plain; exact do_rangeMap rfl rfl (by exact ext_get_old (by assumption) g2); exact rfl
  rw [ext_fresh, ext_add]
  skip
  apply seq_nil
  apply ct_block
  apply ct_loop
  have hK0 : (ext H H.fresh ([] ++ [some (.miter (some m) ks.length [] ks.length)])).get (nb H 0) = some (.miter (some m) ks.length [] ks.length) := ext_get_new rfl
  refine lt_meas (α := List Nat × AHeap) (fun a => [(0, yieldV B), (5, .pointer (some ⟨nb H 0, 0, none⟩))]) (fun a => ext a.2 a.2.low []) (fun a => (a.1.Nodup ∧ ∀ j ∈ a.1, j < ks.length) ∧ J (a.1.map fun j => (ks[j]?.getD default).1) a.2 ∧ a.2.get (nb H 0) = some (.miter (some m) ks.length a.1 ks.length)) (fun a => ks.length - a.1.length) (fun a ha ih => ?_) ([], ext H H.fresh ([] ++ [some (.miter (some m) ks.length [] ks.length)])) ⟨⟨.nil, fun _ h => (by cases h)⟩, hJ.ext _ _ _ _ h0, hK0⟩ (by repeat (first | exact sub_nil | apply sub_cons rfl)) (hq_base low_ext)
  clear g1 g2 hK0
  obtain ⟨seen, h⟩ := a
  obtain ⟨⟨hnd1, hlt⟩, hj, hK⟩ := ha
  simp only at hnd1 hlt hj hK ih ⊢
  have ih' := fun s' h' a1 a2 a3 a4 => ih (s', h') a1 ⟨a2, a3, a4⟩
  simp only at ih'
  clear ih
  obtain ⟨hcl, hlow, ⟨z3, s3, r3, g1⟩, g2, xB, gB⟩ := hJ.at_ _ _ hj
  have hle : seen.length ≤ ks.length := by
    have := nodup_len hnd1 (m := List.range ks.length) fun j hj => List.mem_range.2 (hlt j hj)
    simpa using this
  apply ct_seq
  apply ct_region
  refine seq_nextMap (f := strV) (g := fun n : Int => I n) (ks := ks) (b := false) (rr := nb H 0) rfl (by exact ext_get_old hcl hK) (ext_get_old hcl g2) (nb_own _) rfl (fun hall => ?_) (fun j hj2 hs2 => ?_)
  rotate_left
  · have hlt2 : seen.length < ks.length := by
      rcases Nat.lt_or_ge seen.length ks.length with h | h
      · exact h
      · exfalso
        have := nodup_len (k := j :: seen) (m := List.range ks.length) (List.nodup_cons.2 ⟨hs2, hnd1⟩) fun x hx => by
          rcases List.mem_cons.1 hx with rfl | hx
          · exact List.mem_range.2 hj2
          · exact List.mem_range.2 (hlt x hx)
        simp only [List.length_cons, List.length_range] at this
        omega
    obtain ⟨h2, hh2⟩ : ∃ h2, h2 = (ext h h.low []).put (nb H 0) (.miter (some m) ks.length (seen ++ [j]) ks.length) := ⟨_, rfl⟩
    have hj3 : J (seen.map fun j => (ks[j]?.getD default).1) h2 := by
      rw [hh2]
      exact hJ.put _ _ _ _ _ _ _ (ext_get_old hcl hK) (hJ.ext _ _ _ _ hj)
    have hK2 : h2.get (nb H 0) = some (.miter (some m) ks.length (seen ++ [j]) ks.length) := by
      rw [hh2, AHeap.get_put _ _ _ _ (nb_own _), if_pos rfl]
    rw [← hh2]
    obtain ⟨hcl2, hlow2, _, g3, xB2, gB2⟩ := hJ.at_ _ _ hj3
    refine seqL_to (l' := _) sub_refl (hq_base hlow2) (by simp) ?_
    clear hh2 g1 g2 gB hK hj hcl
    apply seq_plain; exact do_extract rfl rfl; exact rfl
    apply seq_nil
    apply ct_seq
    refine ct_cond_t rfl rfl ?_
    apply ct_skip
    apply ct_block
    apply ct_seq
    apply ct_region
    apply seq_plain; exact do_entry (f := strV) (g := fun n : Int => I n) (ks := ks) (b := false) (m := m) (j := j) (seen := seen) rfl (by exact ext_get_old hcl2 hK2) (ext_get_old hcl2 g3) hj2; exact rfl
    apply seq_plain; exact do_extract rfl rfl; exact rfl
    apply seq_plain; exact do_assign rfl; exact rfl
    apply seq_nil
    apply ct_seq
    apply ct_region
    apply seq_plain; exact do_move rfl; exact rfl
    apply seq_plain; exact do_move rfl; exact rfl
    refine seq_yieldQ rfl (ext_get_old hcl2 gB2) (hJ.yield _ _ _ (by rw [List.length_map]; exact hlt2) (hJ.ext _ _ _ _ hj3)) rfl (fun v h' hv => ?_)
    obtain ⟨rfl, hj', hkp⟩ := hv
    obtain ⟨_, hlow', _⟩ := hJ.at_ _ _ hj'
    apply seq_plain; exact do_unOp rfl rfl; exact rfl
    apply seq_nil
    refine ct_cond_f rfl rfl ?_
    apply ct_skip
    refine lt_to (by repeat (first | exact sub_nil | apply sub_cons rfl)) (hq_base hlow') (ih' (seen ++ [j]) h' (by simp; omega) ⟨?_, ?_⟩ ?_ (hkp _ _ _ _ (ext_get_old hcl2 hK2)))
    · rw [List.nodup_append]
      refine ⟨hnd1, by simp, fun x hx y hy e => ?_⟩
      rw [List.mem_singleton] at hy
      subst hy; subst e
      exact hs2 hx
    · intro x hx
      rcases List.mem_append.1 hx with hx | hx
      · exact hlt x hx
      · rw [List.mem_singleton] at hx; subst hx; exact hj2
    · have e : (ks[j]?.getD default).1 = ks[j].1 := by rw [List.getElem?_eq_getElem hj2, Option.getD_some]
      rw [List.map_append, List.map_cons, List.map_nil, e]
      exact hj'
  apply seq_plain; exact do_extract rfl rfl; exact rfl
  apply seq_nil
  apply ct_seq
  refine ct_cond_f rfl rfl ?_
  apply ct_exit
  apply exit_eq; exact rfl
  have hp : (seen.map fun j => (ks[j]?.getD default).1).Perm (ks.map (·.1)) := by
    have p := (perm_nodup hnd1 List.nodup_range (b := List.range ks.length) fun x => ⟨fun h => List.mem_range.2 (hlt x h), fun h => hall x (List.mem_range.1 h)⟩).map fun j => (ks[j]?.getD default).1
    refine p.trans (.of_eq ?_)
    refine List.ext_getElem (by simp) fun i a1 a2 => ?_
    simp only [List.length_map, List.length_range] at a1
    simp [List.getElem?_eq_getElem a1]
  refine fin_id rfl ⟨⟨_, hp, hJ.st _ h _ ⟨fun _ => rfl, rfl⟩ ?_ hj⟩, Nat.min_le_right _ _⟩
  have : (ext h h.low []).low = min h.low h.fresh := rfl
  show min (ext h h.low []).low H.low ≤ h.fresh
  omega
end Go.Proofs.YtfjihdlpohljbaaGreat
