/- Structs of numbers: they are compared, they are keys. -/
import Derived.Test.YtiggikjbknoohaaGreatDoorStA
import Derived.Test.YtiggikjbknoohaaGreatDoorFxA
noncomputable section
namespace Go.Proofs.YtiggikjbknoohaaGreatDoor
open Go Go.Den
set_option maxRecDepth 100000

/-- a struct of n numbers -/
def intsB (P : Program) (t : TypeId) (n : Nat) : Bool := match tyOf P t with
  | some ti => match ti.und with
    | .struct fs => Nat.beq fs.toList.length n && fs.toList.zipIdx.all fun p => !(p.1.name == "_") && (Nat.beq p.1.type 3 && Nat.beq p.1.offset p.2)
    | _ => false
  | none => false
theorem intsB_out {P : Program} {t : TypeId} {n : Nat} (h : intsB P t n = true) : ∃ ti fs, (ctxOf P).ty.get t = some ti ∧ ti.und = .struct fs ∧ fs.toList.length = n ∧ ∀ k (h : k < fs.toList.length), (fs.toList[k].name == "_") = false ∧ fs.toList[k].type = 3 ∧ fs.toList[k].offset = 0 + k := by
  unfold intsB at h
  split at h
  · rename_i ti hti
    split at h
    · rename_i fs hfs
      rw [Bool.and_eq_true] at h
      refine ⟨ti, fs, ctx_ty hti, hfs, Nat.eq_of_beq_eq_true h.1, fun k hk => ?_⟩
      have := List.all_eq_true.1 h.2 (fs.toList[k], k) (by
        rw [List.mem_iff_getElem]
        refine ⟨k, by simpa using hk, by simp⟩)
      simp only [Bool.and_eq_true, Bool.not_eq_true'] at this
      refine ⟨this.1, Nat.eq_of_beq_eq_true this.2.1, ?_⟩
      rw [Nat.zero_add]
      exact Nat.eq_of_beq_eq_true this.2.2
    · cases h
  · cases h
section
variable {C : Ctx} {xs ys : List Int} {fi : TI}
theorem partA_ints (h2 : isAggD fi.und = false) {k : Nat} (hk : k < xs.length) : partA fi (xs.map I) k = some (I xs[k]) := by
  simp [partA, h2, hk]
theorem eqFs_ints {rec : TypeId → Value → Value → Option Bool} (hrec : ∀ a b : Int, rec 3 (I a) (I b) = some (a == b)) (h1 : C.ty.get 3 = some fi) (h2 : isAggD fi.und = false) : ∀ (fs : List Field) (o : Nat),
    (∀ k (h : k < fs.length), (fs[k].name == "_") = false ∧ fs[k].type = 3 ∧ fs[k].offset = o + k) → o + fs.length = xs.length → o + fs.length = ys.length → eqFs C rec (xs.map I) (ys.map I) fs = some (decide (xs.drop o = ys.drop o))
  | [], o, _, e1, e2 => by
    rw [List.drop_of_length_le (by simp at e1; omega), List.drop_of_length_le (by simp at e2; omega)]
    simp [eqFs]
  | f :: fs, o, h, e1, e2 => by
    obtain ⟨n0, t0, o0⟩ := h 0 (by simp)
    simp only [List.getElem_cons_zero] at n0 t0 o0
    have l1 : o < xs.length := by simp at e1; omega
    have l2 : o < ys.length := by simp at e2; omega
    have ih := eqFs_ints hrec h1 h2 fs (o + 1) (fun k hk => by
      have := h (k + 1) (by simpa using hk)
      simp only [List.getElem_cons_succ] at this
      exact ⟨this.1, this.2.1, by omega⟩) (by simp at e1; omega) (by simp at e2; omega)
    simp only [eqFs, n0, t0, o0, h1, Nat.add_zero, Bool.false_eq_true, if_false, partA_ints h2 l1, partA_ints h2 l2, hrec]
    rw [List.drop_eq_getElem_cons l1, List.drop_eq_getElem_cons l2]
    by_cases e : xs[o] = ys[o]
    · simp only [e, beq_self_eq_true, ih, List.cons.injEq, true_and]
    · have : (xs[o] == ys[o]) = false := by simpa using e
      simp only [this, List.cons.injEq, e, false_and, decide_false]
theorem chkFs_ints {rec : TypeId → Value → Bool} (hrec : ∀ a : Int, rec 3 (I a) = true) (h1 : C.ty.get 3 = some fi) (h2 : isAggD fi.und = false) : ∀ (fs : List Field) (o : Nat),
    (∀ k (h : k < fs.length), (fs[k].name == "_") = false ∧ fs[k].type = 3 ∧ fs[k].offset = o + k) → o + fs.length = xs.length → chkFs C rec (xs.map I) fs = true
  | [], o, _, _ => rfl
  | f :: fs, o, h, e1 => by
    obtain ⟨n0, t0, o0⟩ := h 0 (by simp)
    simp only [List.getElem_cons_zero] at n0 t0 o0
    have l1 : o < xs.length := by simp at e1; omega
    have ih := chkFs_ints hrec h1 h2 fs (o + 1) (fun k hk => by
      have := h (k + 1) (by simpa using hk)
      simp only [List.getElem_cons_succ] at this
      exact ⟨this.1, this.2.1, by omega⟩) (by simp at e1; omega)
    simp only [chkFs, n0, t0, o0, h1, Nat.add_zero, Bool.false_eq_true, if_false, partA_ints h2 l1, hrec, ih, Bool.and_self]
theorem flat_ints2 : (xs.map I).all flatC = true := by
  rw [List.all_eq_true]
  intro v hv
  obtain ⟨y, _, rfl⟩ := List.mem_map.1 hv
  rfl
theorem eqFlats_self : eqFlats (xs.map I) (xs.map I) = some true := by
  induction xs with
  | nil => rfl
  | cons a r ih => simp [eqFlats, eqFlat, ih]
end
section
variable {t : TypeId} {n : Nat} {xs ys : List Int}
theorem eqV_ints (h : intsB Tryz.prog t n = true) (hs : Tryz.prog.stoodInHeld t = false) (e1 : xs.length = n) (e2 : ys.length = n) : eqV Tryz.prog (ctxOf Tryz.prog) 20 t (.agg ⟨xs.map I⟩) (.agg ⟨ys.map I⟩) = some (decide (xs = ys)) := by
  obtain ⟨ti, fs, h1, h2, h3, h4⟩ := intsB_out h
  obtain ⟨ei, k1, k2, k3, k4⟩ := tyI
  have one : ∀ a b : Int, eqV Tryz.prog (ctxOf Tryz.prog) 19 3 (I a) (I b) = some (a == b) := by
    intro a b
    simp only [eqV, k1, k2]; simp
  rw [eqV]
  simp only [h1, h2, hs, Bool.false_eq_true, if_false]
  have := eqFs_ints (C := ctxOf Tryz.prog) (xs := xs) (ys := ys) (fi := ei) one k1 k4 fs.toList 0 h4 (by omega) (by omega)
  rw [List.drop_zero, List.drop_zero] at this
  exact this
theorem eqA_ints (h : intsB Tryz.prog t n = true) (hs : Tryz.prog.stoodInHeld t = false) (hg : Tryz.prog.eqGuardType Tryz.prog.depth t = false) (e1 : xs.length = n) (e2 : ys.length = n) : eqA Tryz.prog (ctxOf Tryz.prog) t (.agg ⟨xs.map I⟩) (.agg ⟨ys.map I⟩) = some (decide (xs = ys)) := by
  obtain ⟨ti, fs, h1, h2, _⟩ := intsB_out h
  unfold eqA
  simp only [h1, h2, hg, eqV_ints h hs e1 e2]
  simp only [flat_ints2, Bool.and_self, if_true, Bool.false_eq_true, if_false]
theorem keyInts {α : Type} [DecidableEq α] {f : α → List Int} (h : intsB Tryz.prog t n = true) (hs : Tryz.prog.stoodInHeld t = false) (hf : ∀ a, (f a).length = n) (hi : ∀ a b, f a = f b → a = b) : KeyOk Tryz.prog t (fun a => .agg ⟨(f a).map I⟩) := by
  obtain ⟨ti, fs, h1, h2, h3, h4⟩ := intsB_out h
  obtain ⟨ei, k1, k2, k3, k4⟩ := tyI
  have hflat : ∀ a, (Value.agg ⟨(f a).map I⟩).cells.toList.all flatC = true := fun a => by
    simp only [Value.cells]; exact flat_ints2
  refine ⟨fun a => ?_, hflat, fun a b => ?_, fun a => ?_⟩
  · unfold keyOk
    rw [hflat, Bool.true_and, chkV]
    simp only [h1, h2]
    refine chkFs_ints (C := ctxOf Tryz.prog) (fi := ei) (fun a => ?_) k1 k4 fs.toList 0 h4 (by rw [hf]; omega)
    simp only [chkV, k1, k2]
  · rw [eqV_ints h hs (hf a) (hf b)]
    congr 1
    rw [decide_eq_decide]
    exact ⟨hi a b, fun e => by rw [e]⟩
  · simp only [sameKey, eqFlats_self]; rfl
end
end Go.Proofs.YtiggikjbknoohaaGreatDoor
