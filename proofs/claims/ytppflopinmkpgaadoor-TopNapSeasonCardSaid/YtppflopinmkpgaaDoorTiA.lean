/- Contracts: copies, the greatest of a list, what is wrong with points that are to make a team the first one. -/
import Derived.Test.YtppflopinmkpgaaDoorElJ
import Derived.Test.YtppflopinmkpgaaDoorSxT
noncomputable section
namespace Go.Proofs.YtppflopinmkpgaaDoor
open Go Go.Den
set_option maxRecDepth 10000

section
variable {P : Program} {l : EL} {h : AHeap}
/-- append to a list that was written without elements -/
theorem do_appendE {args : Array Operand} {tys : Array TypeId} {st : TypeId} {r : List TypeId} {b o n c m by' z z0 b0 : Nat} {ag k ro ro0 : Bool} {e : TypeId} {zs cs new : List Value} (ha : evs l args.toList = some [.slice (some ⟨b0, 0, none⟩) 0 0, .slice (some ⟨b, o, none⟩) n c]) (hty : tys.toList = st :: st :: r)
    (hs : selOf P st = some (m, ag)) (he : (tyOf P st).map (·.und) = some (.slice e)) (hz : zerOf P e = some zs) (hby : (tyOf P e).map (·.bytes) = some by')
    (hb : h.get b = some (.cells cs z k ro)) (hn : sliceIn cs o (n * m) = some new) (h0 : h.get b0 = some (.cells [] z0 false ro0)) (h1 : (2 * (0 + n) + 1000) * by' ≤ 2 ^ 48) (h2 : by' ≠ 0) (h3 : m ≠ 0) (h4 : 0 < n) :
    Does P l (.call ⟨.builtin .append, args, tys⟩) h (.slice (some ⟨h.fresh, 0, none⟩) n n) (h.add (.cells new m true false)) := by
  refine do_builtin ha ?_
  rw [hty]
  obtain ⟨ei, e1, e2⟩ := appendA_of (r := r) (c := c) hs he hz hby hb hn (s := .slice (some ⟨b0, 0, none⟩) 0 0) rfl h1 h2 h3
  simp only [biA, e2, pushA]
  rw [if_neg (by omega)]
  have hold : sliceIn ([] : List Value) 0 0 = some [] := by simp [sliceIn]
  have hx : exactCap h b0 0 0 = true := by simp [exactCap, h0]
  simp [h0, e1, hold, hx]
end
theorem sliceIn_some {cs x : List Value} {o n : Nat} : sliceIn cs o n = some x ↔ (cs.drop o).take n = x ∧ x.length = n := by
  constructor
  · intro h
    simp only [sliceIn] at h
    split at h
    · rename_i hh
      cases h
      exact ⟨rfl, by simpa using hh⟩
    · cases h
  · rintro ⟨rfl, h⟩
    simp [sliceIn, h]
end Go.Proofs.YtppflopinmkpgaaDoor
