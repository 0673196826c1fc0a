/- The program's context is sound: the evaluator may be used. -/
import Derived.Test.YtiggikjbknoohaaGreatDoorProg
import Derived.Test.YtiggikjbknoohaaGreatDoorSxA
import Derived.KernelRfl
namespace Go.Proofs
open Go Go.Den
instance pcTryz : PC Tryz.prog := ⟨ctxOk (by kernel_rfl) (by kernel_rfl)⟩
end Go.Proofs
