/- Contracts: the reference's word on a list of fixtures. -/
import Derived.Test.YtppflopinmkpgaaDoorFnC
import Derived.Test.YtppflopinmkpgaaDoorSxA
noncomputable section
namespace Go.Proofs.YtppflopinmkpgaaDoor
open Go Go.Den
set_option maxRecDepth 10000

theorem outL_f {n a b : Int} (h : outL n a b = false) : a ≤ n ∧ n ≤ b := by simp [outL] at h; omega