/- LeagueDays: the law's own walk. -/
import Derived.Test.YtiggikjbknoohaaGreatDoorPnH
import Derived.Test.YtiggikjbknoohaaGreatDoorElA
import Derived.Test.YtiggikjbknoohaaGreatDoorFnJ
import Derived.Test.YtiggikjbknoohaaGreatDoorStC
import Derived.Test.YtiggikjbknoohaaGreatDoorDyL
noncomputable section
namespace Go.Proofs.YtiggikjbknoohaaGreatDoor
open Go Go.Den
set_option maxRecDepth 100000

theorem tyPr : ∃ ti e ei, (ctxOf Tryz.prog).ty.get 23 = some ti ∧ ti.und = .array 2 e ∧ (ctxOf Tryz.prog).ty.get e = some ei ∧ ei.size = 1 ∧ isAggD ei.und = false ∧ ei.und = .int .i64 :=
  ⟨_, 3, _, ctx_ty rfl, rfl, ctx_ty rfl, rfl, rfl, rfl⟩
theorem keyPr2 : KeyOk Tryz.prog 23 prV := by
  obtain ⟨ti, e, ei, h1, h2, h3, h4, h5, h6⟩ := tyPr
  have one : ∀ x : Int, chkV (ctxOf Tryz.prog) 19 e (I x) = true := by
    intro x
    simp only [chkV, h3, h6]
  have one2 : ∀ x y : Int, eqV Tryz.prog (ctxOf Tryz.prog) 19 e (I x) (I y) = some (x == y) := by
    intro x y
    simp only [eqV, h3, h6]; simp
  have p0 : ∀ x y : Int, partA ei [I x, I y] (0 * 1) = some (I x) := by intro x y; simp [partA, h5]
  have p1 : ∀ x y : Int, partA ei [I x, I y] (1 * 1) = some (I y) := by intro x y; simp [partA, h5]
  refine ⟨fun a => ?_, fun a => ?_, fun a b => ?_, fun a => ?_⟩
  · have hv : chkV (ctxOf Tryz.prog) 20 23 (Pr a.1 a.2) = true := by
      rw [chkV]
      simp only [h1, h2, h3]
      simp only [show List.range 2 = [0, 1] from rfl, chkIs, h4, p0, p1, one]
      rfl
    simp [keyOk, prV, flatC, Value.cells]
    exact hv
  · simp [prV, flatC, Value.cells]
  · have : eqV Tryz.prog (ctxOf Tryz.prog) 20 23 (Pr a.1 a.2) (Pr b.1 b.2) = some ((a.1 == b.1) && (a.2 == b.2)) := by
      rw [eqV]
      simp only [h1, h2, h3]
      simp only [show List.range 2 = [0, 1] from rfl, eqIs, h4, p0, p1, one2]
      cases (a.1 == b.1) <;> cases (a.2 == b.2) <;> rfl
    rw [prV, prV, this]
    congr 1
    obtain ⟨a1, a2⟩ := a
    obtain ⟨b1, b2⟩ := b
    by_cases h1 : a1 = b1 <;> by_cases h2 : a2 = b2 <;> simp [h1, h2]
  · simp [sameKey, prV, eqFlats, eqFlat]

end Go.Proofs.YtiggikjbknoohaaGreatDoor
