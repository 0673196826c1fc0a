/- Plain law: the reference's Assign. -/
import Derived.Test.YtflbffhahoblfaaGreatDoorAsE
noncomputable section
namespace Go.Proofs.YtflbffhahoblfaaGreatDoor
open Go Go.Den
set_option maxRecDepth 100000
def SelI (l : List Bk) (S : List Nat) (k : Nat) (i : Int) : Prop := (i = -1 ∧ ∀ j, j < k → j ∈ S) ∨ ∃ p : Nat, i = (p : Int) ∧ p < k ∧ p ∉ S ∧ ∀ j, j < k → j ∉ S → lexB l p j = true
section
variable {t : List Tb} {l : List Bk} {S : List Nat} {k : Nat} {i : Int}
theorem sel_zero : SelI l S 0 (-1) := .inl ⟨rfl, fun j h => absurd h (Nat.not_lt_zero _)⟩
theorem sel_done (h : SelI l S k i) (hk : k ∈ S) : SelI l S (k + 1) i := by
  rcases h with ⟨e, h⟩ | ⟨p, e, h1, h2, h3⟩
  · refine .inl ⟨e, fun j hj => ?_⟩
    by_cases e2 : j = k
    · rw [e2]; exact hk
    · exact h j (by omega)
  · refine .inr ⟨p, e, by omega, h2, fun j hj hs => ?_⟩
    by_cases e2 : j = k
    · rw [e2] at hs; exact absurd hk hs
    · exact h3 j (by omega) hs
theorem sel_take (h : SelI l S k i) (hk : k ∉ S) (hc : i < 0 ∨ frmI l k < frmI l i.toNat) : SelI l S (k + 1) (k : Int) := by
  refine .inr ⟨k, rfl, by omega, hk, fun j hj hs => ?_⟩
  by_cases e2 : j = k
  · subst e2; exact lexB_iff.2 (.inr ⟨rfl, Nat.le_refl _⟩)
  · rcases h with ⟨e, h⟩ | ⟨p, e, h1, h2, h3⟩
    · exact absurd (h j (by omega)) hs
    · have h4 := lexB_iff.1 (h3 j (by omega) hs)
      rw [e] at hc
      have hc : frmI l k < frmI l p := by
        rcases hc with hc | hc
        · omega
        · simpa using hc
      exact lexB_iff.2 (.inl (by omega))
theorem sel_keep (h : SelI l S k i) (hk : k ∉ S) (hc : ¬ (i < 0 ∨ frmI l k < frmI l i.toNat)) : SelI l S (k + 1) i := by
  rcases h with ⟨e, h⟩ | ⟨p, e, h1, h2, h3⟩
  · rw [e] at hc; exact absurd (.inl (by omega)) hc
  · refine .inr ⟨p, e, by omega, h2, fun j hj hs => ?_⟩
    by_cases e2 : j = k
    · subst e2
      have h4 : ¬ frmI l j < frmI l p := fun h => hc (.inr (by rw [e]; simpa using h))
      exact lexB_iff.2 (by omega)
    · exact h3 j (by omega) hs
theorem sel_next {n : Nat} (h : SelI l ((ordL l).take n) l.length i) (hn : n < (ordL l).length) : i = ((ordL l)[n] : Int) := by
  rcases h with ⟨e, h⟩ | ⟨p, e, h1, h2, h3⟩
  · exact absurd (h _ (ordL_lt hn)) (ordL_out hn)
  · rw [e, ordL_next hn h1 h2 h3]
def freeP (t : List Tb) (l : List Bk) (a : List Int) (b : Bk) (k m : Nat) : Bool := (t[k]?.elim false fun x => decide (x.kind = b.kind)) && (List.range m).all fun j => !(decide (a[j]? = some (k : Int)) && l[j]?.elim false fun o => meetB b o)
theorem freeP_zero {a : List Int} {b : Bk} (h : k < t.length) : freeP t l a b k 0 = decide (t[k].kind = b.kind) := by unfold freeP; rw [List.getElem?_eq_getElem h]; simp
theorem freeP_succ {a : List Int} {b : Bk} {m : Nat} (h : m < l.length) : freeP t l a b k (m + 1) = (freeP t l a b k m && !(decide (a[m]? = some (k : Int)) && meetB b l[m])) := by
  unfold freeP
  rw [List.range_succ, List.all_append]
  simp only [List.all_cons, List.all_nil, Bool.and_true, List.getElem?_eq_getElem h, Option.elim_some, Bool.and_assoc]
theorem freeP_all {a : List Int} {b : Bk} : freeP t l a b k l.length = freeK t l a b k := rfl
structure RfS (t : List Tb) (l : List Bk) (n : Nat) (O : List Int) (D : List Bool) : Prop where
  asi : AsI t l n (asgA t l n)
  ol : O.length = l.length
  dl : D.length = l.length
  dn : ∀ m (h : m < D.length), D[m] = decide (m ∈ (ordL l).take n)
  on : ∀ m (h : m < O.length), m ∈ (ordL l).take n → (asgA t l n)[m]? = some O[m]
theorem RfS.zero : RfS t l 0 (List.replicate l.length 0) (List.replicate l.length false) :=
  ⟨AsI.zero, by simp, by simp, fun m h => by simp, fun m h hm => by simp at hm⟩
theorem RfS.occ {n : Nat} {O : List Int} {D : List Bool} (h : RfS t l n O D) {m : Nat} (hm : m < l.length) (hD : m < D.length) (hO : m < O.length) : (D[m] && (O[m] == (k : Int))) = decide ((asgA t l n)[m]? = some (k : Int)) := by
  rw [h.dn m hD]
  by_cases e : m ∈ (ordL l).take n
  · rw [h.on m hO e, decide_eq_true e, Bool.true_and]
    by_cases e2 : O[m] = (k : Int)
    · rw [e2]; simp
    · rw [beq_eq_false_iff_ne.2 e2]
      symm
      exact decide_eq_false fun e3 => e2 (Option.some.inj e3)
  · rw [decide_eq_false e, Bool.false_and, h.asi.un m hm e]
    symm
    exact decide_eq_false fun e3 => by have := Option.some.inj e3; omega
theorem RfS.step {n : Nat} {O : List Int} {D : List Bool} (h : RfS t l n O D) (hn : n < (ordL l).length) (hl : ∀ x ∈ l, BkOk x) (hk : k < t.length) (h1 : freeK t l (asgA t l n) (l[(ordL l)[n]]'(ordL_lt hn)) k = true) (h2 : ∀ j, j < k → freeK t l (asgA t l n) (l[(ordL l)[n]]'(ordL_lt hn)) j = false) :
    RfS t l (n + 1) (O.set (ordL l)[n] (k : Int)) (D.set (ordL l)[n] true) := by
  have hlt := ordL_lt hn
  have e : asgA t l (n + 1) = (asgA t l n).set (ordL l)[n] (k : Int) := by
    rw [asgA_succ hn]
    unfold asgS
    rw [List.getElem?_eq_getElem hlt, Option.elim_some, freeV_at hk h1 h2]
  have hmem : ∀ m, m ∈ (ordL l).take (n + 1) ↔ m ∈ (ordL l).take n ∨ m = (ordL l)[n] := fun m => by rw [take_snoc hn, List.mem_append, List.mem_singleton]
  refine ⟨?_, by rw [List.length_set]; exact h.ol, by rw [List.length_set]; exact h.dl, fun m hm => ?_, fun m hm hm2 => ?_⟩
  · rw [e]; exact h.asi.step hn hl hk h1 h2
  · rw [List.getElem_set]
    rw [List.length_set] at hm
    by_cases e2 : (ordL l)[n] = m
    · rw [if_pos e2]; symm; exact decide_eq_true ((hmem m).2 (.inr e2.symm))
    · rw [if_neg e2, h.dn m hm]
      exact decide_eq_decide.2 ⟨fun h => (hmem m).2 (.inl h), fun h => ((hmem m).1 h).resolve_right fun e3 => e2 e3.symm⟩
  · rw [List.length_set] at hm
    rw [e, List.getElem_set]
    by_cases e2 : (ordL l)[n] = m
    · rw [if_pos e2, ← e2, List.getElem?_set_self (by rw [asgA_len]; exact hlt)]
    · rw [if_neg e2, List.getElem?_set_ne e2]
      exact h.on m hm (((hmem m).1 hm2).resolve_right fun e3 => e2 e3.symm)
theorem RfS.all {O : List Int} {D : List Bool} (h : RfS t l l.length O D) : O = asgV t l ∧ AsgP t l (asgV t l) := by
  refine ⟨List.ext_getElem? fun m => ?_, h.asi.done⟩
  by_cases hm : m < l.length
  · have hO : m < O.length := by rw [h.ol]; exact hm
    rw [List.getElem?_eq_getElem hO]
    refine (h.on m hO ?_).symm
    rw [List.take_of_length_le (by rw [ordL_len]; exact Nat.le_refl _)]
    exact mem_ordL.2 hm
  · rw [List.getElem?_eq_none (by rw [h.ol]; omega), List.getElem?_eq_none (by unfold asgV; rw [asgA_len]; omega)]
end
end Go.Proofs.YtflbffhahoblfaaGreatDoor
