/- Contract: the first free table. -/
import Derived.Test.YtflbffhahoblfaaGreatDoorAsA
noncomputable section
namespace Go.Proofs.YtflbffhahoblfaaGreatDoor
open Go Go.Den
set_option maxRecDepth 100000
def frT (t : List Tb) (b : Bk) (i j : Nat) : Bool := decide (j < i) && t[j]?.elim false fun x => decide (x.kind = b.kind)
theorem frT_succ {t : List Tb} {b : Bk} {i j : Nat} (h : i < t.length) : frT t b (i + 1) j = if t[i].kind = b.kind then frT t b i j || decide (i = j) else frT t b i j := by
  unfold frT
  by_cases e : j = i
  · subst e
    rw [List.getElem?_eq_getElem h]
    by_cases k : t[j].kind = b.kind <;> simp [k]
  · have : decide (j < i + 1) = decide (j < i) := by
      by_cases h2 : j < i
      · rw [decide_eq_true h2, decide_eq_true (by omega)]
      · rw [decide_eq_false h2, decide_eq_false (by omega)]
    rw [this]
    have e2 : decide (i = j) = false := decide_eq_false fun h => e h.symm
    rw [e2, Bool.or_false]
    split <;> rfl
def frA (t : List Tb) (l : List Bk) (A : List Int) (b : Bk) (i j : Nat) : Bool := frT t b t.length j && (List.range i).all fun m => !(decide (A[m]? = some (j : Int)) && l[m]?.elim false fun o => meetB b o)
theorem frA_succ {t : List Tb} {l : List Bk} {A : List Int} {b : Bk} {i j : Nat} : frA t l A b (i + 1) j = (frA t l A b i j && !(decide (A[i]? = some (j : Int)) && l[i]?.elim false fun o => meetB b o)) := by
  unfold frA
  rw [List.range_succ, List.all_append, List.all_cons, List.all_nil, Bool.and_true, Bool.and_assoc]
theorem frA_all {t : List Tb} {l : List Bk} {A : List Int} {b : Bk} {j : Nat} (h : j < t.length) : frA t l A b l.length j = freeK t l A b j := by
  unfold frA frT freeK
  rw [decide_eq_true h, Bool.true_and]
set_option maxHeartbeats 16000000 in
theorem free_c {H : AHeap} {q r w : Option Addr} {c d e : Nat} {t : List Tb} {l : List Bk} {A : List Int} {b : Bk} (hs : SlAt H 2 tb q t) (hn : t.length ≤ 64) (hr : SlAt H 4 bk r l) (hm : l.length < 1000000) (hw : SlAt H 1 i1 w A) (hA : A.length = l.length) (hb : ∀ m (h : m < A.length), A[m] < 64) :
    Ret Tryz.prog 43 [.slice q t.length c, .agg ⟨bk b⟩, .slice r l.length d, .slice w A.length e] H (I (freeV t l A b)) H := by
  refine fn_start Tryz.func43 rfl rfl rfl fun hc => ?_
  apply ct_seq
  apply ct_region
  apply seq_newP; exact do_box rfl rfl rfl; exact rfl
  apply seq_plain; exact do_assign rfl; exact rfl
  apply seq_nil
  apply ct_scope
  apply ct_seq
  apply ct_region
  apply seq_plain; exact do_assign rfl; exact rfl
  apply seq_nil
  iterate 2 (apply ct_seq)
  apply ct_region
  apply seq_plain; exact do_move rfl; exact rfl
  apply seq_plain; exact do_lenS rfl rfl rfl; exact rfl
  apply seq_plain; exact do_move rfl; exact rfl
  apply seq_nil
  apply ct_block
  apply ct_loop
  refine lt_meas (α := Nat × Nat × List (Option ABlk)) (fun a => [(0, .slice q t.length c), (2, .slice r l.length d), (3, .slice w A.length e), (5, .pointer (some ⟨nb H 0, 0, none⟩)), (9, U a.2.1), (16, .slice q t.length c), (17, I t.length), (18, I a.1)]) (fun a => ext H H.fresh a.2.2) (fun a => a.1 ≤ t.length ∧ BitP a.2.1 (frT t b a.1) ∧ a.2.2[0]? = some (some (.cells (bk b) 0 false false))) (fun a => t.length - a.1) (fun a ha ih => ?_) (0, 0, _) ?_ (by repeat (first | exact sub_nil | apply sub_cons rfl)) (.refl _)
  rotate_left
  · exact ⟨Nat.zero_le _, BitP.zero.congr fun j _ => by simp [frT], rfl⟩
  obtain ⟨i, B, L⟩ := a
  obtain ⟨hi, hB, hL⟩ := ha
  simp only at hi hB hL ih ⊢
  have ih' := fun i' B' L' a1 a2 a3 a4 => ih (i', B', L') a1 ⟨a2, a3, a4⟩
  simp only at ih'
  clear ih
  have hB1 := hB.lt
  apply ct_seq
  apply ct_region
  apply seq_plain; exact do_binInt rfl rfl rfl trivial; exact rfl
  apply seq_nil
  apply ct_seq
  refine ct_cond rfl (fun h1 => ?_) (fun h1 => ?_)
  · simp only [decide_eq_true_eq, Int.ofNat_lt] at h1
    obtain ⟨b1, o1, cs1, z1, st1, ro1, rfl, hg1, hw1⟩ := hs.out (by intro e; rw [e] at h1; simp at h1)
    have hi64 : i < 64 := by omega
    have hp64 := pow_lt64 hi64
    apply ct_skip
    apply ct_seq
    apply ct_block
    apply ct_seq
    apply ct_region
    apply seq_plain; exact do_move rfl; exact rfl
    apply seq_plain; exact do_indexAddrS rfl rfl rfl (by exact idx_nat (by omega)); exact rfl
    apply seq_plain; exact do_load rfl (by exact ext_get_old (by assumption) (by assumption)) rfl (by exact pt_sl (by assumption) (by omega)); exact rfl
    apply seq_newP; exact do_alloc rfl rfl; exact rfl
    apply seq_plain; exact do_assign rfl; exact rfl
    apply seq_putC (hc := by assumption); rotate_left; exact do_store rfl rfl (by exact ext_get_new List.getElem?_concat_length) rfl rfl (nb_own _); rotate_left; exact (by simp)
    apply ct_seq
    apply ct_region
    apply seq_plain; exact do_fieldAddr rfl rfl; exact rfl
    apply seq_plain; exact do_load rfl (by exact ext_get_new getSetLast) rfl (by exact rfl); exact rfl
    apply seq_plain; exact do_fieldAddr rfl rfl; exact rfl
    rw [set_mid rfl]
    apply seq_plain; exact do_load rfl (by exact ext_get_new (getApp (by assumption))) rfl (by exact rfl); exact rfl
    apply seq_plain; exact do_binStr rfl rfl rfl; exact rfl
    apply seq_nil
    refine ct_JXE (ds := []) (α := Nat × List (Option ABlk)) (fun a => [(0, .slice (some ⟨b1, o1, none⟩) t.length c), (2, .slice r l.length d), (3, .slice w A.length e), (5, .pointer (some ⟨nb H 0, 0, none⟩)), (9, U a.1), (16, .slice (some ⟨b1, o1, none⟩) t.length c), (17, I t.length), (18, I i)]) (fun a => ext H H.fresh a.2) (fun a => BitP a.1 (frT t b (i + 1)) ∧ a.2[0]? = some (some (.cells (bk b) 0 false false))) ?_ ?_
    · refine ct_cond rfl (fun h2 => ?_) (fun h2 => ?_)
      · have h2 : byteL t[i].kind.data.toList b.kind.data.toList = true := h2
        rw [bytes_eq] at h2
        have h2 := of_decide_eq_true h2
        apply ct_region
        iterate 2 (apply seq_plain; exact do_move rfl; exact rfl)
        apply seq_plain; exact do_shlU rfl (by omega); exact rfl
        apply seq_plain; exact do_orU rfl rfl (by assumption) (by assumption); exact rfl
        apply seq_plain; exact do_assign rfl; exact rfl
        apply seq_nil
        exact jx_of (B ||| 2 ^ i, _) ⟨(hB.set_ hi64).congr fun j _ => by rw [frT_succ h1, if_pos h2], getApp hL⟩ (by repeat (first | exact sub_nil | apply sub_cons rfl)) rfl
      · have h2 : byteL t[i].kind.data.toList b.kind.data.toList = false := h2
        rw [bytes_eq] at h2
        have h2 := of_decide_eq_false h2
        apply ct_skip
        exact jx_of (B, _) ⟨hB.congr fun j _ => by rw [frT_succ h1, if_neg h2], getApp hL⟩ (by repeat (first | exact sub_nil | apply sub_cons rfl)) rfl
    · rintro ⟨B', L'⟩ ⟨hB', hL'⟩
      simp only at hB' hL' ⊢
      apply ct_region
      apply seq_plain; exact do_succ rfl (by omega); exact rfl
      apply seq_plain; exact do_move rfl; exact rfl
      apply seq_nil
      exact lt_to (by repeat (first | exact sub_nil | apply sub_cons rfl)) (.refl _) (ih' (i + 1) B' L' (by omega) (by omega) hB' hL')
  have h1 : i = t.length := by simp at h1; omega
  subst h1
  clear ih' hi
  apply ct_exit
  apply exit_eq; exact rfl
  iterate 2 (apply ct_seq)
  apply ct_region
  apply seq_plain; exact do_move rfl; exact rfl
  apply seq_plain; exact do_lenS rfl rfl rfl; exact rfl
  apply seq_plain; exact do_move rfl; exact rfl
  apply seq_nil
  apply ct_block
  apply ct_loop
  refine lt_meas (α := Nat × Nat × List (Option ABlk)) (fun a => [(0, .slice q t.length c), (3, .slice w A.length e), (5, .pointer (some ⟨nb H 0, 0, none⟩)), (9, U a.2.1), (33, .slice r l.length d), (34, I l.length), (35, I a.1)]) (fun a => ext H H.fresh a.2.2) (fun a => a.1 ≤ l.length ∧ BitP a.2.1 (frA t l A b a.1) ∧ a.2.2[0]? = some (some (.cells (bk b) 0 false false))) (fun a => l.length - a.1) (fun a ha ih => ?_) (0, B, L) ⟨Nat.zero_le _, hB.congr fun j _ => by simp [frA], hL⟩ (by repeat (first | exact sub_nil | apply sub_cons rfl)) (.refl _)
  clear hB hB1 hL
  obtain ⟨i, B, L⟩ := a
  obtain ⟨hi, hB, hL⟩ := ha
  simp only at hi hB hL ih ⊢
  have ih' := fun i' B' L' a1 a2 a3 a4 => ih (i', B', L') a1 ⟨a2, a3, a4⟩
  simp only at ih'
  clear ih
  apply ct_seq
  apply ct_region
  apply seq_plain; exact do_binInt rfl rfl rfl trivial; exact rfl
  apply seq_nil
  apply ct_seq
  refine ct_cond rfl (fun h1 => ?_) (fun h1 => ?_)
  · simp only [decide_eq_true_eq, Int.ofNat_lt] at h1
    have hiA : i < A.length := by omega
    obtain ⟨b2, o2, cs2, z2, st2, ro2, rfl, hg2, hw2⟩ := hr.out (by intro e; rw [e] at h1; simp at h1)
    obtain ⟨b3, o3, cs3, z3, st3, ro3, rfl, hg3, hw3⟩ := hw.out (by intro e; rw [e] at hiA; simp at hiA)
    have hb1 := hb i hiA
    obtain ⟨Z, hZ⟩ : ∃ Z, Z = (decide (A[i] ≥ 0) && meetB b l[i]) := ⟨_, rfl⟩
    have eA : A[i]? = some A[i] := List.getElem?_eq_getElem hiA
    have eL : l[i]? = some l[i] := List.getElem?_eq_getElem h1
    apply ct_skip
    apply ct_seq
    apply ct_block
    apply ct_seq
    apply ct_region
    apply seq_plain; exact do_move rfl; exact rfl
    apply seq_plain; exact do_indexAddrS rfl rfl rfl (by exact idx_nat (by omega)); exact rfl
    apply seq_plain; exact do_load rfl (by exact ext_get_old (by assumption) (by assumption)) rfl (by exact pt_sl (by assumption) (by omega)); exact rfl
    apply seq_newP; exact do_alloc rfl rfl; exact rfl
    apply seq_plain; exact do_assign rfl; exact rfl
    apply seq_putC (hc := by assumption); rotate_left; exact do_store rfl rfl (by exact ext_get_new List.getElem?_concat_length) rfl rfl (nb_own _); rotate_left; exact (by simp)
    apply ct_seq
    apply ct_region
    iterate 2 (apply seq_plain; exact do_move rfl; exact rfl)
    apply seq_plain; exact do_indexAddrS rfl rfl rfl (by exact idx_nat (by omega)); exact rfl
    apply seq_plain; exact do_load rfl (by exact ext_get_old (by assumption) (by assumption)) rfl (by exact pt_sl0 (by assumption) (by omega)); exact rfl
    apply seq_plain; exact do_binInt rfl rfl rfl trivial; exact rfl
    apply seq_plain; exact do_move rfl; exact rfl
    rw [set_mid rfl]
    refine seq_J [(0, .slice q t.length c), (3, .slice (some ⟨b3, o3, none⟩) A.length e), (5, .pointer (some ⟨nb H 0, 0, none⟩)), (9, U B), (12, I i), (33, .slice (some ⟨b2, o2, none⟩) l.length d), (34, I l.length), (35, I i), (49, .bool Z)] (ds := []) (h := ext H H.fresh (L ++ [some (.cells (bk l[i]) 0 false false)])) ?_ ?_
    · refine seq_gsplit rfl rfl (fun u => ?_) (fun u => ?_)
      · have u : decide (A[i] ≥ 0) = true := u
        have e2 : Z = meetB b l[i] := by rw [hZ, u]; rfl
        rw [e2]
        apply seq_guard (hd := rfl) (hl := rfl); exact do_load rfl (by exact ext_get_new (getApp (by assumption))) rfl (by exact rfl); exact rfl
        apply seq_guard (hd := rfl) (hl := rfl); exact do_load rfl (by exact ext_get_new List.getElem?_concat_length) rfl (by exact rfl); exact rfl
        apply seq_gcall (hg := rfl) (hl := rfl) (ht := rfl); exact meet_c; exact rfl
        apply seq_plain; exact do_pick_t rfl rfl; exact rfl
        apply seq_nil
        exact jp_of (by repeat (first | exact sub_nil | apply sub_cons rfl))
      · have u : decide (A[i] ≥ 0) = false := u
        have e2 : Z = false := by rw [hZ, u]; rfl
        rw [e2]
        iterate 3 (apply seq_passed (hd := rfl) (hl := rfl) (hb := rfl); exact rfl)
        apply seq_plain; exact do_pick_f rfl rfl; exact rfl
        apply seq_nil
        exact jp_of (by repeat (first | exact sub_nil | apply sub_cons rfl))
    refine ct_JXE (ds := []) (α := Nat × List (Option ABlk)) (fun a => [(0, .slice q t.length c), (3, .slice (some ⟨b3, o3, none⟩) A.length e), (5, .pointer (some ⟨nb H 0, 0, none⟩)), (9, U a.1), (33, .slice (some ⟨b2, o2, none⟩) l.length d), (34, I l.length), (35, I i)]) (fun a => ext H H.fresh a.2) (fun a => BitP a.1 (frA t l A b (i + 1)) ∧ a.2[0]? = some (some (.cells (bk b) 0 false false))) ?_ ?_
    · refine ct_cond rfl (fun u => ?_) (fun u => ?_)
      · have u : Z = true := u
        rw [hZ, Bool.and_eq_true, decide_eq_true_eq] at u
        obtain ⟨u1, u2⟩ := u
        obtain ⟨k, hk⟩ : ∃ k : Nat, A[i] = (k : Int) := ⟨A[i].toNat, by omega⟩
        have hk64 : k < 64 := by omega
        apply ct_region
        iterate 3 (apply seq_plain; exact do_move rfl; exact rfl)
        apply seq_plain; exact do_indexAddrS rfl rfl rfl (by exact idx_nat (by omega)); exact rfl
        apply seq_plain; exact do_load rfl (by exact ext_get_old (by assumption) (by assumption)) rfl (by exact pt_sl0 (by assumption) (by omega)); exact rfl
        rw [hk]
        apply seq_plain; exact do_shlU rfl (by omega); exact rfl
        apply seq_plain; exact do_clrU rfl rfl; exact rfl
        apply seq_plain; exact do_assign rfl; exact rfl
        apply seq_nil
        refine jx_of (clrN B (2 ^ k), _) ⟨(hB.clr hk64).congr fun j _ => ?_, getApp hL⟩ (by repeat (first | exact sub_nil | apply sub_cons rfl)) rfl
        rw [frA_succ, eA, eL, hk]
        simp only [Option.elim_some, u2, Bool.and_true, Option.some.injEq, Int.ofNat_inj]
      · have u : Z = false := u
        have hno : ∀ j : Nat, (decide (A[i]? = some (j : Int)) && l[i]?.elim false fun o => meetB b o) = false := fun j => by
          rw [eA, eL]
          cases e2 : decide (some A[i] = some (j : Int)) with
          | false => rfl
          | true =>
            have e2 := Option.some.inj (of_decide_eq_true e2)
            rw [hZ, e2, decide_eq_true (by omega : (j : Int) ≥ 0), Bool.true_and] at u
            simpa using u
        apply ct_skip
        exact jx_of (B, _) ⟨hB.congr fun j _ => by rw [frA_succ, hno]; simp, getApp hL⟩ (by repeat (first | exact sub_nil | apply sub_cons rfl)) rfl
    · rintro ⟨B', L'⟩ ⟨hB', hL'⟩
      simp only at hB' hL' ⊢
      apply ct_region
      apply seq_plain; exact do_succ rfl (by omega); exact rfl
      apply seq_plain; exact do_move rfl; exact rfl
      apply seq_nil
      exact lt_to (by repeat (first | exact sub_nil | apply sub_cons rfl)) (.refl _) (ih' (i + 1) B' L' (by omega) (by omega) hB' hL')
  have h1 : i = l.length := by simp at h1; omega
  subst h1
  clear ih' hi
  have hB1 := hB.lt
  apply ct_exit
  apply exit_eq; exact rfl
  apply ct_seq
  apply ct_region
  apply seq_plain; exact do_assign rfl; exact rfl
  apply seq_nil
  apply ct_seq
  apply ct_label
  iterate 2 (apply ct_seq)
  apply ct_region
  apply seq_plain; exact do_move rfl; exact rfl
  apply seq_plain; exact do_lenS rfl rfl rfl; exact rfl
  apply seq_plain; exact do_move rfl; exact rfl
  apply seq_nil
  apply ct_block
  apply ct_loop
  refine lt_up (fun i => [(9, U B), (14, I (-1)), (59, I t.length), (60, I i)]) (fun i => ∀ j, j < i → freeK t l A b j = false) t.length (fun i hi hJ ih => ?_) 0 (by omega) (by intros; omega) (by repeat (first | exact sub_nil | apply sub_cons rfl))
  apply ct_seq
  apply ct_region
  apply seq_plain; exact do_binInt rfl rfl rfl trivial; exact rfl
  apply seq_nil
  apply ct_seq
  refine ct_cond rfl (fun h1 => ?_) (fun h1 => ?_)
  · simp only [decide_eq_true_eq, Int.ofNat_lt] at h1
    have hi64 : i < 64 := by omega
    have ht := hB.test hi64
    rw [frA_all h1] at ht
    have hsh : B >>> i < 18446744073709551616 := Nat.lt_of_le_of_lt (by rw [Nat.shiftRight_eq_div_pow]; exact Nat.div_le_self ..) hB1
    apply ct_skip
    apply ct_seq
    apply ct_block
    apply ct_seq
    apply ct_region
    apply seq_plain; exact do_move rfl; exact rfl
    apply seq_plain; exact do_assign rfl; exact rfl
    apply seq_nil
    apply ct_seq
    apply ct_region
    iterate 2 (apply seq_plain; exact do_move rfl; exact rfl)
    apply seq_plain; exact do_shrU rfl rfl (by omega); exact rfl
    apply seq_plain; exact do_oneU rfl (by assumption); exact rfl
    apply seq_plain; exact do_binInt rfl rfl rfl trivial; exact rfl
    apply seq_nil
    refine ct_cond rfl (fun h2 => ?_) (fun h2 => ?_)
    · have h2 : ((((B >>> i) % 2 : Nat) : Int) == 1) = true := h2
      rw [ht] at h2
      rw [freeV_at h1 h2 hJ]
      apply ct_seq
      apply ct_region
      apply seq_plain; exact do_move rfl; exact rfl
      apply seq_plain; exact do_assign rfl; exact rfl
      apply seq_nil
      apply ct_exit
      apply exit_ne; exact rfl
      apply exit_eq; exact rfl
      apply ct_seq
      apply ct_region
      apply seq_plain; exact do_move rfl; exact rfl
      apply seq_plain; exact do_assign rfl; exact rfl
      apply seq_nil
      apply ct_ret
      exact fin_flat hc rfl rfl ⟨rfl, rfl⟩
    · have h2 : ((((B >>> i) % 2 : Nat) : Int) == 1) = false := h2
      rw [ht] at h2
      apply ct_skip
      apply ct_region
      apply seq_plain; exact do_succ rfl (by omega); exact rfl
      apply seq_plain; exact do_move rfl; exact rfl
      apply seq_nil
      refine lt_to (by repeat (first | exact sub_nil | apply sub_cons rfl)) (.refl _) (ih (i + 1) (by omega) (by omega) fun j hj => ?_)
      rcases Nat.lt_or_ge j i with h | h
      · exact hJ j h
      · obtain rfl : j = i := by omega
        exact h2
  · have h1 : i = t.length := by simp at h1; omega
    subst h1
    rw [freeV_none hJ]
    apply ct_exit
    apply exit_eq; exact rfl
    apply ct_seq
    apply ct_region
    apply seq_plain; exact do_move rfl; exact rfl
    apply seq_plain; exact do_assign rfl; exact rfl
    apply seq_nil
    apply ct_ret
    exact fin_flat hc rfl rfl ⟨rfl, rfl⟩
end Go.Proofs.YtflbffhahoblfaaGreatDoor
