/- Contract: Serve, as the reference has it. -/
import Derived.Test.YtfjihdlpohljbaaGreatSvC
import Derived.Test.YtfjihdlpohljbaaGreatOpnD
noncomputable section
namespace Go.Den
section
variable {P : Program} {rd : Option Nat} {nt : Nat} {l : EL} {H : AHeap} {lo : Nat} {L : List (Option ABlk)} {α : Type} {m k0 : Nat} {f : α → List Value} {v : Value} {lst : List α}
theorem LstX.at_ {K : Nat} (hf : ∀ x, (f x).length = m) (h : LstX H L m f K lst) : SlAt (ext H lo L) m f (some ⟨nb H K, 0, none⟩) lst := by
  obtain ⟨s, h3⟩ := h.out
  exact slAt_flat hf (ext_get_new h3)
end
end Go.Den
namespace Go.Proofs.YtfjihdlpohljbaaGreat
open Go Go.Den
set_option maxRecDepth 100000
end Go.Proofs.YtfjihdlpohljbaaGreat
