/- Bits of numbers; sets by their bits; the first best set. -/
import Derived.Test.YtiggikjbknoohaaGreatDoorElE
noncomputable section
namespace Go.Proofs.YtiggikjbknoohaaGreatDoor
open Go Go.Den
set_option maxRecDepth 10000

section
variable {P : Program} {l : EL} {h : AHeap}
end

end Go.Proofs.YtiggikjbknoohaaGreatDoor
