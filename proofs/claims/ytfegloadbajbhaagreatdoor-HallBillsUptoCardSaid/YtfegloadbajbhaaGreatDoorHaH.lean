/- HallSums: the contract over every input. -/
import Derived.Test.YtfegloadbajbhaaGreatDoorOpA
import Derived.Test.YtfegloadbajbhaaGreatDoorTbL
import Derived.Test.YtfegloadbajbhaaGreatDoorAwake
import Derived.Test.YtfegloadbajbhaaGreatDoorHaF
import Derived.Test.YtfegloadbajbhaaGreatDoorSxT
noncomputable section
namespace Go.Proofs.YtfegloadbajbhaaGreatDoor
open Go Go.Den Go.ChangeShapes Go.WideShapes Go.ChangeAt Go.RowKit Go.Deep
set_option maxRecDepth 10000

noncomputable instance : Inhabited Ra := ⟨⟨0, 0, 0⟩⟩
theorem undRa : ∃ f0 f1 f2 : Field, Tryz.prog.underlying 149 = some (.struct #[f0, f1, f2]) ∧ (f0.type = 3 ∧ f0.offset = 0) ∧ (f1.type = 3 ∧ f1.offset = 1) ∧ (f2.type = 3 ∧ f2.offset = 2) := ⟨_, _, _, rfl, ⟨rfl, rfl⟩, ⟨rfl, rfl⟩, ⟨rfl, rfl⟩⟩
theorem undRas : Tryz.prog.underlying 80 = some (.slice 149) := rfl
theorem cellsRa : Tryz.prog.cellsOf 149 = 3 := by decide +kernel
theorem ra_flat (x : Ra) : (ra x).all flatC = true := rfl
section
variable {H : Type} {enc : TypeId × Value → H} {W : World} {sp : Nat → Bool} {hd : Bool} {fuel : Nat}
theorem dec_ra {cs : List Value} {x : DataW H × List MemPlace} (h : DataW.trod enc Tryz.prog W 0 sp hd fuel 149 cs = some x) : ∃ y, cs = ra y := by
  obtain ⟨f0, f1, f2, hu, ⟨a0, b0⟩, ⟨a1, b1⟩, ⟨a2, b2⟩⟩ := undRa
  obtain ⟨y0, y1, y2, n, _, hl, h0, h1, h2⟩ := trod_struct3 hu h
  rw [a0, b0] at h0
  rw [a1, b1] at h1
  rw [a2, b2] at h2
  rw [cellsRa] at hl
  rw [cellsInt] at h0 h1 h2
  match cs, hl with
  | [u0, u1, u2], _ =>
    obtain ⟨n0, e0⟩ := trod_i64 h0
    obtain ⟨n1, e1⟩ := trod_i64 h1
    obtain ⟨n2, e2⟩ := trod_i64 h2
    simp at e0 e1 e2
    subst e0; subst e1; subst e2
    exact ⟨⟨n0, n1, n2⟩, rfl⟩
theorem open_rates {b0 : Nat} {v : Value} {x : DataW H × List MemPlace} (hsp : ∀ b, sp b = true) (h : DataW.trod enc Tryz.prog W 0 sp hd fuel 80 [v] = some x) (hok : Cell.okWide Tryz.prog W .any b0 80 v) : OpS W ra 3 v :=
  open_flat (f := ra) (w := 3) (by omega) ra_len undRas cellsRa dec_ra hsp h hok
end
theorem OpU.low {W : World} {α : Type} {f : α → List Value} {w : Nat} {v : Value} {o : Option BB} {p : Nat → Option Addr} {c : Nat} {l : List α} (h : OpU W f w v o p c l) (k : Nat) : LowS (p k) c l.length := ⟨h.cap, h.nil k, h.spot k⟩
end Go.Proofs.YtfegloadbajbhaaGreatDoor
