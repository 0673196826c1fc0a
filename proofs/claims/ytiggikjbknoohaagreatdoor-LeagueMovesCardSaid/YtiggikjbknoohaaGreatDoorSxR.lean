/- The symbolic layer: ranges over functions, calls of yield. -/
import Derived.Test.YtiggikjbknoohaaGreatDoorSxP
noncomputable section
namespace Go.Den

section
variable {P : Program} {C : Ctx} {rd : Option Nat} {nt : Nat} {ops : Array Oper}

end

section
variable {P : Program} {rd : Option Nat} {nt : Nat} {ops : Array Oper} {l : EL} {ds : List Nat} {h : AHeap} {K : St → Prop} {i : Nat} {r : List Oper} {ty : TypeId} {pos : String} {af : Array Edge}
end

/-! ### what rounds may change -/
/-- from h to h' just the blocks o and new ones are changed; o' are those that may be changed further -/
structure Only (o o' : List Nat) (h h' : AHeap) : Prop where
  old : ∀ b, b ∉ o → (b % 2 = 1 ∨ b < h.fresh) → h'.get b = h.get b
  nw : ∀ b ∈ o', b ∈ o ∨ (b % 2 = 0 ∧ h.fresh ≤ b)
  fresh : h.fresh ≤ h'.fresh
  closed : Closed h'
  low : h'.low ≤ h'.fresh
theorem Only.trans {o o1 o2 : List Nat} {h h1 h2 : AHeap} (a : Only o o1 h h1) (b : Only o1 o2 h1 h2) : Only o o2 h h2 := by
  refine ⟨fun c hc hl => ?_, fun c hc => ?_, Nat.le_trans a.fresh b.fresh, b.closed, b.low⟩
  · rw [b.old c (fun hm => ?_) (by have := a.fresh; omega), a.old c hc hl]
    rcases a.nw c hm with h | h
    · exact hc h
    · omega
  · rcases b.nw c hc with h | h
    · exact a.nw c h
    · exact .inr ⟨h.1, Nat.le_trans a.fresh h.2⟩
theorem hq_base {h : AHeap} (hl : h.low ≤ h.fresh) : HQ h (ext h h.low []) := ⟨fun b => rfl, rfl, (by show h.low = min h.low h.fresh; omega)⟩

/-- a call's end as it is -/
theorem tidy_id {H : AHeap} {v : Value} {H1 : AHeap} : Tidy H v H1 v { H1 with low := min H1.low H.low } := by
  intro Γ Γ1 w w' v' hr h1 ha hv
  refine ⟨Γ1, h1.lower _, ?_, hv⟩
  refine ⟨ha.ext, ha.fresh, ha.size, ha.keep, ha.mine, ha.os, ha.tape, ha.output, ⟨Nat.min_le_right _ _, fun b hb => ?_⟩⟩
  refine ha.kept.get b ?_
  rcases hb with hb | ⟨h1, h2⟩
  · exact .inl hb
  · exact .inr ⟨h1, Nat.lt_of_lt_of_le h2 (Nat.min_le_left _ _)⟩
theorem fin_id {P : Program} {H h : AHeap} {Q : Value → AHeap → Prop} {rs : Array ResultVar} {l : EL} {vs : List Value} (hr : resE l rs.toList = some vs) (hq : Q (packA vs) { h with low := min h.low H.low }) : Fin P rs H Q ⟨ofA l, [], h⟩ :=
  ⟨⟨_, vs, packA vs, _, rfl, resE_A hr, tidy_id, hq⟩⟩
end Go.Den
