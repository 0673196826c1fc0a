/- The symbolic layer: ranges over maps that stay as they are. -/
import Derived.Test.YtfegloadbajbhaaGreatDoorStC
noncomputable section
namespace Go.Den
section
variable {P : Program} {rd : Option Nat} {nt : Nat} {ops : Array Oper} {l : EL} {ds : List Nat} {h : AHeap} {K : St → Prop} {i : Nat} {r : List Oper} {ty : TypeId} {pos : String} {af : Array Edge}

section
variable {α β : Type} {f : α → Value} {g : β → Value}
end

end

/-! ### maps from keys to values -/
section
variable {P : Program} {α β : Type} [DecidableEq α] {f : α → Value} {g : β → Value} {kt : TypeId} {l : EL} {h : AHeap}
end
/-! ### stores, the list behind them told -/
section
variable {P : Program} {rd : Option Nat} {nt : Nat} {ops : Array Oper} {l : EL} {ds : List Nat} {K : St → Prop} {i : Nat} {r : List Oper} {o : Oper} {ty : TypeId} {pos : String} {af : Array Edge} {H : AHeap} {lo : Nat} {L L' : List (Option ABlk)} {Qn : St → Prop} {Qe : Nat → St → Prop} {Qr : St → Prop}
theorem set_mid {α : Type} {p r : List α} {a b : α} {n : Nat} (h : n = p.length) : (p ++ a :: r).set n b = p ++ b :: r := by
  subst h; simp
end
section
variable {P : Program} {rd : Option Nat} {nt : Nat} {ops : Array Oper} {ds : List Nat} {l : EL} {H : AHeap} {lo : Nat} {L : List (Option ABlk)} {k i : Nat} {tj lc : List Nat} {K : St → Prop} {r : List Oper} {ty : TypeId} {pos : String} {af : Array Edge}
/-- in a drawn region: a store beside which nothing looks at blocks -/
theorem sf_ser0 [PC P] {k' : Nat} {op : Op} {v : Value} {y : ABlk} (hc : Closed H) (hfree : isFree op = false) (hser : seriesS ops i = true) (hlt : k' < L.length) (hop : Does P l op (ext H lo L) v ((ext H lo L).put (nb H k') y))
    (hk : SeqD P rd nt ops r (i + 1) ds l H lo (L.set k' (some y)) [] [] K) : SeqF P rd nt ops (⟨none, op, ty, pos, af, none⟩ :: r) i ds l H lo L k tj lc K :=
  sf_ho fun ho => sf_series (o := ⟨none, op, ty, pos, af, none⟩) (v := v) hfree hser (fun _ ha => put0 ho rfl hop ha) (ext_put hc hlt y) (by rw [ext_fresh, ext_fresh, List.length_set]; exact Nat.le_refl _) hk
end
end Go.Den
