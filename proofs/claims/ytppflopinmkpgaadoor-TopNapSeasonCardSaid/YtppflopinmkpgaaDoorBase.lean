/- The program's context is sound: the evaluator may be used. -/
import Derived.Test.YtppflopinmkpgaaDoorProg
import Derived.Test.YtppflopinmkpgaaDoorSxA
import Derived.KernelRfl
namespace Go.Proofs
open Go Go.Den
instance pcTryz : PC Tryd.prog := ⟨ctxOk (by kernel_rfl) (by kernel_rfl)⟩
end Go.Proofs
