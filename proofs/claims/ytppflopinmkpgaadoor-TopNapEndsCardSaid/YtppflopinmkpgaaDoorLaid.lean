/- What the listed package-level variables hold; the law's own check of the document's examples. -/
import Derived.Test.YtppflopinmkpgaaDoorCards
import Derived.Test.YtppflopinmkpgaaDoorTie
import Derived.Test.YtppflopinmkpgaaDoorBase
import Derived.Test.YtppflopinmkpgaaDoorSxA
import Derived.MakeChecks
import Derived.LaidMore
namespace Go.Proofs.YtppflopinmkpgaaDoor
open Go Go.Den
set_option maxRecDepth 100000

def cs0 : List Value := [.string ⟨⟨[112, 108, 97, 121, 101, 100]⟩⟩, .int .i64 0, .string ⟨⟨[104, 111, 109, 101]⟩⟩, .int .i64 1, .string ⟨⟨[97, 119, 97, 121]⟩⟩, .int .i64 (-1)]
def bl0 : BL := [(0, cs0)]
noncomputable abbrev B0 : Nat → Option BB := bOf bl0
theorem bl0_ok : blOk bl0 = true := by kernel_rfl

def laidList : List (String × DataW Unit) := [("baulk/league.kinds", Rows.laid_baulk_league_kinds)]

theorem b0_flat : ∀ k x, B0 k = some x → x.cs.all flatC = true := fun k x h => (bOf_ok bl0_ok k x h).2

/-- the variables' cells in a world that meets the row's list -/
theorem laid_heap {W : World} (h : laidMetH Tryd.prog laidList W) : ∀ k x, B0 k = some x → ∃ ct fz, W.heap[k]? = some (.cells ⟨x.cs⟩ ct fz) := by
  rw [MakeChecks.laidMetH_plain _ _ _ (by kernel_rfl)] at h
  obtain ⟨ps, hL, _, _⟩ := h
  have h0 := laid_cells hL (n := "baulk/league.kinds") (d := Rows.laid_baulk_league_kinds) (g := 0) (t := 136) (cs := cs0) (by simp [laidList]) (by kernel_rfl) (by kernel_rfl) (by kernel_rfl) (by kernel_rfl)
  have key : ∀ (b : BL), (∀ p ∈ b, ∃ ct fz, W.heap[p.1]? = some (.cells ⟨p.2⟩ ct fz)) → ∀ k x, bOf b k = some x → ∃ ct fz, W.heap[k]? = some (.cells ⟨x.cs⟩ ct fz) := by
    intro b
    induction b with
    | nil => intro _ k x hx; cases hx
    | cons p r ih =>
      obtain ⟨g, cs⟩ := p
      intro hb k x hx
      simp only [bOf] at hx
      split at hx
      · rename_i e
        cases hx
        rw [← Nat.eq_of_beq_eq_true e]
        exact hb (g, cs) (by simp)
      · exact ih (fun p hp => hb p (by simp [hp])) k x hx
  refine key bl0 fun p hp => ?_
  simp only [bl0, List.mem_cons, List.not_mem_nil, or_false] at hp
  subst hp
  exact h0

theorem bOf_real : ∀ (b : BL) k x, bOf b k = some x → x = laidBB k x.cs
  | [], k, x, h => by cases h
  | (g, cs) :: r, k, x, h => by
    simp only [bOf] at h
    split at h
    · rename_i e; cases h; rw [Nat.eq_of_beq_eq_true e]; rfl
    · exact bOf_real r k x h

theorem bb0_ok {W : World} (h : laidMetH Tryd.prog laidList W) : BBok B0 W := by
  refine ⟨fun k x hx _ => ?_, fun k x hx => ?_⟩
  · rw [bOf_real _ k x hx]; exact ⟨rfl, rfl⟩
  · obtain ⟨ct, fz, hw⟩ := laid_heap h k x hx
    have hf := b0_flat k x hx
    rw [bOf_real _ k x hx]
    exact laidBB_ok hw hf

end Go.Proofs.YtppflopinmkpgaaDoor
