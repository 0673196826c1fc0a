/- The program's context is sound: the evaluator may be used. -/
import Derived.Test.YtfegloadbajbhaaGreatDoorProg
import Derived.Test.YtfegloadbajbhaaGreatDoorSxA
import Derived.KernelRfl
namespace Go.Proofs
open Go Go.Den
instance pcTryz : PC Tryz.prog := ⟨ctxOk (by kernel_rfl) (by kernel_rfl)⟩
end Go.Proofs
