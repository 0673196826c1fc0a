/- The symbolic layer: appends of nothing, ends of functions. -/
import Derived.Test.YtfegloadbajbhaaGreatDoorSxT
import Derived.Test.YtfegloadbajbhaaGreatDoorSxP
noncomputable section
namespace Go.Den

section
variable {P : Program} {l : EL} {h : AHeap}
end

section
variable {P : Program} {l : EL} {H : AHeap} {lo : Nat} {L : List (Option ABlk)}
/-- what lay before is the result -/
theorem fin_keep {Q : Value → AHeap → Prop} {rs : Array ResultVar} {vs : List Value} (hc : Closed H) (hr : resE l rs.toList = some vs) (hv : renV (renOf H []) 8 (packA vs) = some (packA vs)) (hq : Q (packA vs) H) : Fin P rs H Q ⟨ofA l, [], ext H lo L⟩ :=
  ⟨⟨_, vs, packA vs, H, rfl, resE_A hr, tidy_of (H0 := H) (ys := []) (ren_ext hc (fun _ _ h => ext_get_old hc h) (l := []) .nil (by simp) rfl (by simp)) hv, hq⟩⟩
theorem renOf_old {b : Nat} {lb : List Nat} (h : b % 2 = 1 ∨ b < H.fresh) : renOf H lb b = some b := if_pos h
end
section
end
end Go.Den
/- The symbolic layer: ranges over functions, calls of yield. -/
noncomputable section
namespace Go.Den

/-- a round, as a call of yield takes it -/
structure RoundT (P : Program) (l : Nat) (args : List Value) (H : AHeap) (Q : Value → AHeap → Prop) : Prop where
  out : ∀ (Γ : Ga) (w : World) (i : BI) (args' : List Value), Rel Γ H w → Γ l = some i → All2 (VR Γ) args args' →
    ∃ fn tmps asg body, (Instr.yield i.real ⟨args'⟩).run P w = .ok (.round i.real fn tmps asg body) w ∧ RoundIn Fence.wide 0 P i.real fn tmps asg body w (PostV Γ H w Q)

section
variable {P : Program} {C : Ctx} {rd : Option Nat} {nt : Nat} {ops : Array Oper}

end

section
variable {P : Program} {rd : Option Nat} {nt : Nat} {ops : Array Oper} {l : EL} {ds : List Nat} {h : AHeap} {K : St → Prop} {i : Nat} {r : List Oper} {ty : TypeId} {pos : String} {af : Array Edge}
end

/-! ### what rounds may change -/
/-- from h to h' just the blocks o and new ones are changed; o' are those that may be changed further -/
structure Only (o o' : List Nat) (h h' : AHeap) : Prop where
  old : ∀ b, b ∉ o → (b % 2 = 1 ∨ b < h.fresh) → h'.get b = h.get b
  nw : ∀ b ∈ o', b ∈ o ∨ (b % 2 = 0 ∧ h.fresh ≤ b)
  fresh : h.fresh ≤ h'.fresh
  closed : Closed h'
  low : h'.low ≤ h'.fresh
theorem Only.trans {o o1 o2 : List Nat} {h h1 h2 : AHeap} (a : Only o o1 h h1) (b : Only o1 o2 h1 h2) : Only o o2 h h2 := by
  refine ⟨fun c hc hl => ?_, fun c hc => ?_, Nat.le_trans a.fresh b.fresh, b.closed, b.low⟩
  · rw [b.old c (fun hm => ?_) (by have := a.fresh; omega), a.old c hc hl]
    rcases a.nw c hm with h | h
    · exact hc h
    · omega
  · rcases b.nw c hc with h | h
    · exact a.nw c h
    · exact .inr ⟨h.1, Nat.le_trans a.fresh h.2⟩
end Go.Den
