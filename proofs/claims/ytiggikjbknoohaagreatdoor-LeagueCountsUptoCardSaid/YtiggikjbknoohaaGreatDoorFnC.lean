/- Contracts: fixtures, what is wrong with a list of them. -/
import Derived.Test.YtiggikjbknoohaaGreatDoorFnB
noncomputable section
namespace Go.Proofs.YtiggikjbknoohaaGreatDoor
open Go Go.Den
set_option maxRecDepth 10000

theorem ty169 : ∃ ti e ei, (ctxOf Tryz.prog).ty.get 169 = some ti ∧ ti.und = .array 2 e ∧ (ctxOf Tryz.prog).ty.get e = some ei ∧ ei.size = 1 ∧ isAggD ei.und = false ∧ ei.und = .int .i64 :=
  ⟨_, 3, _, ctx_ty rfl, rfl, ctx_ty rfl, rfl, rfl, rfl⟩
theorem eqV169 (a b c d : Int) : eqV Tryz.prog (ctxOf Tryz.prog) 20 169 (Pr a b) (Pr c d) = some ((a == c) && (b == d)) := by
  obtain ⟨ti, e, ei, h1, h2, h3, h4, h5, h6⟩ := ty169
  have one : ∀ x y : Int, eqV Tryz.prog (ctxOf Tryz.prog) 19 e (I x) (I y) = some (x == y) := by
    intro x y
    simp only [eqV, h3, h6]; simp
  have p0 : ∀ x y : Int, partA ei [I x, I y] (0 * 1) = some (I x) := by intro x y; simp [partA, h5]
  have p1 : ∀ x y : Int, partA ei [I x, I y] (1 * 1) = some (I y) := by intro x y; simp [partA, h5]
  rw [eqV]
  simp only [h1, h2, h3]
  simp only [show List.range 2 = [0, 1] from rfl, eqIs, h4, p0, p1, one]
  cases (a == c) <;> cases (b == d) <;> rfl
def prV (p : Int × Int) : Value := Pr p.1 p.2
theorem keyPr : KeyOk Tryz.prog 169 prV := by
  refine ⟨fun a => ?_, fun a => ?_, fun a b => ?_, fun a => ?_⟩
  · obtain ⟨ti, e, ei, h1, h2, h3, h4, h5, h6⟩ := ty169
    have one : ∀ x : Int, chkV (ctxOf Tryz.prog) 19 e (I x) = true := by
      intro x
      simp only [chkV, h3, h6]
    have p0 : ∀ x y : Int, partA ei [I x, I y] (0 * 1) = some (I x) := by intro x y; simp [partA, h5]
    have p1 : ∀ x y : Int, partA ei [I x, I y] (1 * 1) = some (I y) := by intro x y; simp [partA, h5]
    have hv : chkV (ctxOf Tryz.prog) 20 169 (Pr a.1 a.2) = true := by
      rw [chkV]
      simp only [h1, h2, h3]
      simp only [show List.range 2 = [0, 1] from rfl, chkIs, h4, p0, p1, one]
      rfl
    simp [keyOk, prV, flatC, Value.cells]
    exact hv
  · simp [prV, flatC, Value.cells]
  · rw [prV, prV, eqV169]
    congr 1
    obtain ⟨a1, a2⟩ := a
    obtain ⟨b1, b2⟩ := b
    by_cases h1 : a1 = b1 <;> by_cases h2 : a2 = b2 <;> simp [h1, h2]
  · simp [sameKey, prV, eqFlats, eqFlat]

structure Fx where
  day : Int
  home : Int
  away : Int