/- The symbolic layer: ranges over maps that stay as they are. -/
import Derived.Test.YtfegloadbajbhaaGreatDoorStA
noncomputable section
namespace Go.Den
section
variable {P : Program} {rd : Option Nat} {nt : Nat} {ops : Array Oper} {l : EL} {ds : List Nat} {h : AHeap} {K : St → Prop} {i : Nat} {r : List Oper} {ty : TypeId} {pos : String} {af : Array Edge}

section
variable {α β : Type} {f : α → Value} {g : β → Value}
end

end

/-! ### maps from keys to values -/
section
variable {P : Program} {α β : Type} [DecidableEq α] {f : α → Value} {g : β → Value} {kt : TypeId} {l : EL} {h : AHeap}
def getK (ks : List (α × β)) (a : α) : Option β := (ks.find? fun p => decide (p.1 = a)).map (·.2)
def putK : List (α × β) → α → β → List (α × β)
  | [], a, v => [(a, v)]
  | p :: r, a, v => if p.1 = a then (a, v) :: r else p :: putK r a v
theorem putK_keys {a : α} {v : β} : ∀ {ks : List (α × β)}, (putK ks a v).map (·.1) = addK (ks.map (·.1)) a
  | [] => rfl
  | p :: r => by
    simp only [putK]
    by_cases h : p.1 = a
    · rw [if_pos h]
      simp [addK, h]
    · rw [if_neg h]
      have ih := putK_keys (a := a) (v := v) (ks := r)
      simp only [List.map_cons, ih, addK]
      by_cases h2 : a ∈ r.map (·.1)
      · rw [if_pos h2, if_pos (List.mem_cons_of_mem _ h2)]
      · rw [if_neg h2, if_neg (by simp only [List.mem_cons]; rintro (e | e); exact h e.symm; exact h2 e)]; rfl
theorem getK_put {a b : α} {v : β} : ∀ {ks : List (α × β)}, getK (putK ks a v) b = if a = b then some v else getK ks b
  | [] => by simp [putK, getK]
  | p :: r => by
    have ih := getK_put (a := a) (b := b) (v := v) (ks := r)
    simp only [putK]
    by_cases h : p.1 = a
    · rw [if_pos h]
      by_cases h2 : a = b
      · subst h2; simp [getK]
      · have h3 : ¬ p.1 = b := fun e => h2 (h.symm.trans e)
        simp [getK, h2, h3]
    · rw [if_neg h]
      by_cases h3 : p.1 = b
      · have h2 : ¬ a = b := fun e => h (h3.trans e.symm)
        simp [getK, h2, h3]
      · simp only [getK, List.find?_cons, h3, decide_false] at ih ⊢
        exact ih
end
/-! ### stores, the list behind them told -/
section
variable {P : Program} {rd : Option Nat} {nt : Nat} {ops : Array Oper} {l : EL} {ds : List Nat} {K : St → Prop} {i : Nat} {r : List Oper} {o : Oper} {ty : TypeId} {pos : String} {af : Array Edge} {H : AHeap} {lo : Nat} {L L' : List (Option ABlk)} {Qn : St → Prop} {Qe : Nat → St → Prop} {Qr : St → Prop}
end
section
variable {P : Program} {rd : Option Nat} {nt : Nat} {ops : Array Oper} {ds : List Nat} {l : EL} {H : AHeap} {lo : Nat} {L : List (Option ABlk)} {k i : Nat} {tj lc : List Nat} {K : St → Prop} {r : List Oper} {ty : TypeId} {pos : String} {af : Array Edge}
end
end Go.Den
