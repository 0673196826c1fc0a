/- Plain law: what holds of each table. -/
import Derived.Test.YtppflopinmkpgaaDoorTbL
import Derived.Test.YtppflopinmkpgaaDoorFnL
import Derived.Test.YtppflopinmkpgaaDoorSxK
import Derived.Laws.RangeString
import Derived.Laws.RangeAny
noncomputable section
namespace Go.Proofs.YtppflopinmkpgaaDoor
open Go Go.Den
set_option maxRecDepth 100000

theorem ranked_len {am : Nat → Fg} {t : List Rw} : (rankedL am t).length = t.length := by simp [rankedL]
theorem ranked_get {am : Nat → Fg} {t : List Rw} {i : Nat} (h : i < t.length) : (rankedL am t)[i]'(by rw [ranked_len]; exact h) = { t[i] with rank := rankL am t i } := by
  simp [rankedL, h]
theorem rankL_bd {am : Nat → Fg} {t : List Rw} : ∀ {i : Nat}, i < t.length → 1 ≤ rankL am t i ∧ rankL am t i ≤ ((i + 1 : Nat) : Int)
  | 0, _ => by simp [rankL]
  | i + 1, h => by
    have ih := rankL_bd (am := am) (t := t) (i := i) (by omega)
    simp only [rankL, List.getElem?_eq_getElem h, List.getElem?_eq_getElem (by omega : i < t.length)]
    split <;> omega
theorem rankL_succ {am : Nat → Fg} {t : List Rw} {i : Nat} (h : i + 1 < t.length) : rankL am t (i + 1) = if betterL am t[i] t[i + 1] = 0 then rankL am t i else ((i + 2 : Nat) : Int) := by
  simp only [rankL, List.getElem?_eq_getElem h, List.getElem?_eq_getElem (by omega : i < t.length)]
theorem rows_teams {r : Ru} {n : Nat} {l : List Ma} : (rowsF r n l).map (·.team) = (List.range n).map fun (i : Nat) => (i : Int) := by
  refine List.ext_getElem (by simp [rowsF_len]) fun i h1 h2 => ?_
  simp only [List.getElem_map, List.getElem_range]
  exact (rowsF_ok _).team
theorem rows_lt {r : Ru} {n : Nat} {l : List Ma} : (rowsF r n l).Pairwise fun x y => x.team < y.team := by
  have h : ((rowsF r n l).map (·.team)).Pairwise (· < ·) := by
    rw [rows_teams, List.pairwise_map]
    exact List.pairwise_lt_range.imp fun h => by omega
  exact List.pairwise_map.1 h

section
variable {r : Ru} {n : Nat} {l : List Ma}
def sortedL (r : Ru) (n : Nat) (l : List Ma) : List Rw := isort (lessL (amongL r n l)) (rowsF r n l)
theorem sorted_len : (sortedL r n l).length = n := by rw [sortedL, isort_len, rowsF_len]
theorem sorted_perm : (sortedL r n l).Perm (rowsF r n l) := isort_perm _
theorem table_len : (tableL r n l).length = n := by
  show (rankedL _ (sortedL r n l)).length = n
  rw [ranked_len, sorted_len]
theorem table_get {i : Nat} (h : i < n) : (tableL r n l)[i]'(by rw [table_len]; exact h) = { (sortedL r n l)[i]'(by rw [sorted_len]; exact h) with rank := rankL (amongL r n l) (sortedL r n l) i } := ranked_get (by rw [isort_len, rowsF_len]; exact h)
/-- a row of the sorted ones is the row of its team -/
theorem sorted_mem {i : Nat} (h : i < (sortedL r n l).length) : ∃ j, ∃ hj : j < (rowsF r n l).length, (sortedL r n l)[i] = (rowsF r n l)[j] := by
  have := sorted_perm.subset (List.getElem_mem h)
  obtain ⟨j, hj, e⟩ := List.getElem_of_mem this
  exact ⟨j, hj, e.symm⟩
theorem sorted_ok {i : Nat} (h : i < (sortedL r n l).length) : RowOk r ((sortedL r n l)[i]).team ((sortedL r n l)[i]) ∧ 0 ≤ ((sortedL r n l)[i]).team ∧ ((sortedL r n l)[i]).team < n := by
  obtain ⟨j, hj, e⟩ := sorted_mem h
  rw [e]
  have := rowsF_ok hj
  rw [rowsF_len] at hj
  rw [this.team]
  exact ⟨this, by omega, by omega⟩
theorem sorted_nodup : ((sortedL r n l).map (·.team)).Nodup := by
  have h : ((rowsF r n l).map (·.team)).Nodup := by
    rw [rows_teams]
    unfold List.Nodup
    rw [List.pairwise_map]
    exact List.nodup_range.imp fun h e => h (by omega)
  exact ((sorted_perm.map _).nodup_iff).2 h
theorem sorted_stb : Stb (amongL r n l) (sortedL r n l) := isort_stb rows_lt
/-- neighbours in the table -/
theorem table_next {i : Nat} (h : i + 1 < n) : ∀ x y, (tableL r n l)[i]? = some x → (tableL r n l)[i + 1]? = some y →
    y.pts ≤ x.pts ∧ (y.rank = x.rank ∨ y.rank = ((i + 2 : Nat) : Int)) ∧ (y.rank = x.rank → y.pts = x.pts ∧ y.fr = x.fr ∧ y.ag = x.ag ∧ x.team ≤ y.team) := by
  intro x y hx hy
  have h0 : i < n := by omega
  rw [List.getElem?_eq_getElem (by rw [table_len]; exact h0), table_get h0, Option.some.injEq] at hx
  rw [List.getElem?_eq_getElem (by rw [table_len]; exact h), table_get h, Option.some.injEq] at hy
  have l0 : i < (sortedL r n l).length := by rw [sorted_len]; exact h0
  have l1 : i + 1 < (sortedL r n l).length := by rw [sorted_len]; exact h
  have hs := (List.pairwise_iff_getElem.1 sorted_stb) i (i + 1) l0 l1 (by omega)
  have hr := rankL_succ (am := amongL r n l) l1
  have hb := rankL_bd (am := amongL r n l) l0
  generalize hu : (sortedL r n l)[i] = u at *
  generalize hv : (sortedL r n l)[i + 1] = v at *
  have hno : lessL (amongL r n l) v u = false := by
    rcases hs with h | h
    · exact (less_weak _).asymm _ _ h
    · exact h.1
  simp only [lessL, decide_eq_false_iff_not, betterL_lex] at hno
  subst hx; subst hy
  simp only
  refine ⟨?_, ?_, fun e => ?_⟩
  · by_cases hlt : u.pts < v.pts
    · exfalso
      apply hno
      simp [keyL, figL, lexC, hlt]
    · omega
  · rw [hr]
    split
    · exact .inl rfl
    · exact .inr rfl
  · rw [hr] at e
    split at e
    · rename_i hz
      rw [betterL_lex] at hz
      have hk := lexC_zero (a := keyL (amongL r n l) u) (b := keyL (amongL r n l) v) rfl hz
      simp only [keyL, figL, List.cons.injEq] at hk
      refine ⟨hk.1.symm, hk.2.2.1.symm, by omega, ?_⟩
      rcases hs with h | h
      · simp only [lessL, decide_eq_true_eq, betterL_lex, hz] at h; omega
      · omega
    · omega
theorem table_row {i : Nat} (h : i < n) : ∀ x, (tableL r n l)[i]? = some x → (0 ≤ x.team ∧ x.team < n) ∧ x.played = x.won + x.drawn + x.lost ∧ x.pts = x.won * r.win + x.drawn * r.draw + x.lost * r.loss := by
  intro x hx
  rw [List.getElem?_eq_getElem (by rw [table_len]; exact h), table_get h, Option.some.injEq] at hx
  obtain ⟨a, b, c⟩ := sorted_ok (r := r) (n := n) (l := l) (i := i) (by rw [sorted_len]; exact h)
  subst hx
  exact ⟨⟨b, c⟩, a.played, a.pts⟩
theorem table_map {f : Rw → Int} (hf : ∀ (x : Rw) (k : Int), f { x with rank := k } = f x) : (tableL r n l).map f = (sortedL r n l).map f := by
  refine List.ext_getElem (by rw [List.length_map, List.length_map, table_len, sorted_len]) fun i h1 h2 => ?_
  rw [List.length_map, table_len] at h1
  simp only [List.getElem_map, table_get h1, hf]
theorem table_nodup : ((tableL r n l).map (·.team)).Nodup := by
  rw [table_map (fun _ _ => rfl)]; exact sorted_nodup
end
end Go.Proofs.YtppflopinmkpgaaDoor
/- The symbolic layer: sets are asked, strings are gone through. -/
noncomputable section
namespace Go.Den
section
variable {P : Program} {α : Type} [DecidableEq α] {f : α → Value} {kt : TypeId} {l : EL} {h : AHeap}

/-- the zero of a type -/
def zeroOf (P : Program) (t : TypeId) : Option Value := match tyOf P t with
  | some ti => match ti.zero with
    | some z => if z.cells.toList.all constOk then some z else none
    | none => none
  | none => none
theorem zeroV_of {t : TypeId} {v : Value} (h : zeroOf P t = some v) : zeroV (ctxOf P) t = some v := by
  unfold zeroOf at h
  split at h
  · rename_i ti hti
    unfold zeroV
    rw [ctx_ty hti]
    exact h
  · cases h
/-- a is a key -/
def memK (ks : List α) (a : α) : Bool := ks.any fun x => decide (x = a)
theorem memK_iff {ks : List α} {a : α} : memK ks a = true ↔ a ∈ ks := by
  unfold memK
  rw [List.any_eq_true]
  constructor
  · rintro ⟨x, hx, h⟩
    rw [← of_decide_eq_true h]; exact hx
  · exact fun h => ⟨a, h, decide_eq_true rfl⟩
theorem memK_f {ks : List α} {a : α} (h : a ∉ ks) : memK ks a = false := by
  cases e : memK ks a
  · rfl
  · exact absurd (memK_iff.1 e) h
/-- a set is asked -/
theorem do_setGet {t et : TypeId} {m k : Operand} {r : Nat} {ks : List α} {a : α} (hm : ev l m = some (.map (some r))) (hkv : ev l k = some (f a)) (hh : h.get r = some (setM f ks)) (ht : mapKE P t = some (kt, et)) (hz : zeroOf P et = some (.bool false)) (hk : KeyOk P kt f) :
    Does P l (.lookup t m k false) h (.bool (memK ks a)) h := by
  refine ⟨?_⟩
  have key : lookupA P (ctxOf P) h t (.map (some r)) (f a) false = some (.bool (memK ks a)) := by
    simp only [lookupA, mapTypes_of ht, entriesOf, hh, setM, hk.key, if_true, findA_set hk]
    by_cases hmem : a ∈ ks
    · obtain ⟨n, hn⟩ := findIdx_mem hmem
      simp only [if_pos hmem, hn, Option.map_some]
      simp [memK_iff.2 hmem]
    · simp only [if_neg hmem, zeroV_of hz]
      simp [memK_f hmem]
  simp only [opA, evalA_ofA, hm, hkv, key]; rfl

theorem bytes_eq {a b : ByteArray} : byteL a.data.toList b.data.toList = decide (a = b) := by
  rw [byteL_eq, Bool.eq_iff_iff, beq_iff_eq, decide_eq_true_iff]
  constructor
  · intro e
    cases a; cases b
    simp only [ByteArray.mk.injEq]
    exact Array.toList_inj.1 e
  · intro e; rw [e]
end
section
variable {P : Program} {rd : Option Nat} {nt : Nat} {ops : Array Oper} {l : EL} {ds : List Nat} {K : St → Prop} {i : Nat} {r : List Oper} {ty : TypeId} {pos : String} {af : Array Edge} {H : AHeap} {lo : Nat}
end
end Go.Den
namespace Go.Proofs.YtppflopinmkpgaaDoor
open Go Go.Den
set_option maxRecDepth 100000
theorem zeroBool : zeroOf Tryd.prog 4 = some (.bool false) := rfl
end Go.Proofs.YtppflopinmkpgaaDoor
