/- LeagueEliminates: the contract over every input, the row's forms, the card. -/
import Derived.Test.YtfegloadbajbhaaGreatDoorOpA
import Derived.Test.YtfegloadbajbhaaGreatDoorElI
import Derived.Test.YtfegloadbajbhaaGreatDoorAwake
noncomputable section
namespace Go.Proofs.YtfegloadbajbhaaGreatDoor
open Go Go.Den Go.ChangeShapes Go.WideShapes Go.ChangeAt Go.RowKit Go.Deep
set_option maxRecDepth 10000
noncomputable instance : Inhabited (Int × Int) := ⟨(0, 0)⟩

theorem undPair : Tryz.prog.underlying 81 = some (.array 2 3) := rfl
theorem cellsInt : Tryz.prog.cellsOf 3 = 1 := by decide +kernel
theorem cellsPair : Tryz.prog.cellsOf 81 = 2 := by decide +kernel
section
variable {H : Type} {enc : TypeId × Value → H} {W : World} {sp : Nat → Bool} {hd : Bool} {fuel : Nat}
theorem dec_p2 {cs : List Value} {x : DataW H × List MemPlace} (h : DataW.trod enc Tryz.prog W 0 sp hd fuel 81 cs = some x) : ∃ y, cs = p2 y := by
  cases fuel with
  | zero => simp [DataW.trod] at h
  | succ fuel =>
    unfold DataW.trod at h
    rw [undPair] at h
    simp only at h
    split at h
    · rename_i hlen
      rw [cellsPair] at hlen
      cases hm : (List.range 2).mapM (fun i => DataW.trod enc Tryz.prog W 0 sp hd fuel 3 ((cs.drop (i * Tryz.prog.cellsOf 3)).take (Tryz.prog.cellsOf 3))) with
      | none => rw [hm] at h; cases h
      | some xs =>
        rw [show List.range 2 = [0, 1] from rfl] at hm
        obtain ⟨y, zs, h1, h2, rfl⟩ := mapM_cons_some hm
        obtain ⟨y', zs', h3, h4, rfl⟩ := mapM_cons_some h2
        rw [cellsInt] at h1 h3
        match cs, hlen with
        | [u0, u1], _ =>
          obtain ⟨n0, e0⟩ := trod_i64 h1
          obtain ⟨n1, e1⟩ := trod_i64 h3
          simp at e0 e1
          subst e0; subst e1
          exact ⟨(n0, n1), rfl⟩
    · cases h
end

end Go.Proofs.YtfegloadbajbhaaGreatDoor
