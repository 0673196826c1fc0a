/- The symbolic layer: a range over a function. -/
import Derived.Test.YtfegloadbajbhaaGreatDoorSxR
import Derived.Test.YtfegloadbajbhaaGreatDoorSxM
noncomputable section
namespace Go.Den

/-! ### heaps that say the same but for the least block that was changed -/
structure LQ (h h' : AHeap) : Prop where
  get : ∀ b, h.get b = h'.get b
  next : h.next = h'.next
theorem LQ.refl (h : AHeap) : LQ h h := ⟨fun _ => rfl, rfl⟩
theorem LQ.symm {h h' : AHeap} (q : LQ h h') : LQ h' h := ⟨fun b => (q.get b).symm, q.next.symm⟩
theorem LQ.trans {h h1 h2 : AHeap} (q : LQ h h1) (p : LQ h1 h2) : LQ h h2 := ⟨fun b => (q.get b).trans (p.get b), q.next.trans p.next⟩
theorem LQ.fresh {h h' : AHeap} (q : LQ h h') : h.fresh = h'.fresh := by simp only [AHeap.fresh, q.next]
theorem LQ.hq {h h' : AHeap} (q : LQ h h') (hl : h.low = h'.low) : HQ h h' := ⟨q.get, q.next, hl⟩
theorem LQ.rel {h h' : AHeap} (q : LQ h h') {Γ : Ga} {w : World} (r : Rel Γ h w) : Rel Γ h' w :=
  (HQ.mk (h := { h with low := h'.low }) (h' := h') q.get q.next rfl).rel (r.lower _)
theorem LQ.closed {h h' : AHeap} (q : LQ h h') (hc : Closed h) : Closed h' := fun b h1 h2 => by rw [← q.get]; exact hc b h1 (by rw [q.fresh]; exact h2)
theorem LQ.mine {h h' : AHeap} (q : LQ h h') {Γ : Ga} {r : Nat} (m : Mine Γ h r) : Mine Γ h' r := by
  obtain ⟨b, x, i, h1, h2⟩ := m
  exact ⟨b, x, i, by rw [← q.get]; exact h1, h2⟩
/-- a start that is lower is worth more -/
theorem LQ.adv {h h' h2 : AHeap} (q : LQ h h') (hl : h'.low ≤ h.low) {Γ Γ' : Ga} {w w' : World} (a : Adv Γ h' w Γ' h2 w') : Adv Γ h w Γ' h2 w' :=
  ⟨fun b hb => a.ext b (by rw [← q.fresh]; exact hb), by rw [q.fresh]; exact a.fresh, a.size, fun r hr hm => a.keep r hr fun m => hm (q.symm.mine m), fun r hm => (a.mine r hm).imp id q.symm.mine, a.os, a.tape, a.output, ⟨Nat.le_trans a.kept.low hl, fun b hb => by rw [a.kept.get b (by rw [← q.fresh]; exact hb), q.get]⟩⟩
theorem Adv.toR {Γ Γ' : Ga} {H H' H2 : AHeap} {w w' : World} (q : HQ H' H2) (a : Adv Γ H w Γ' H' w') : Adv Γ H w Γ' H2 w' :=
  ⟨a.ext, by rw [← q.fresh]; exact a.fresh, a.size, a.keep, fun r hm => a.mine r (q.symm.mine hm), a.os, a.tape, a.output, ⟨by rw [← q.low]; exact a.kept.low, fun b hb => by rw [← q.get]; exact a.kept.get b (by rw [q.low]; exact hb)⟩⟩
theorem Tidy.to {H : AHeap} {v v2 : Value} {H1 H1' H2 : AHeap} (q : HQ H1 H1') (h : Tidy H v H1' v2 H2) : Tidy H v H1 v2 H2 := by
  intro Γ Γ1 w w' v' hr h1 ha hv
  exact h Γ Γ1 w w' v' hr (q.rel h1) (ha.toR q) hv
theorem RoundT.low {P : Program} {l : Nat} {args : List Value} {h h' : AHeap} {Q : Value → AHeap → Prop} (q : LQ h h') (hl : h'.low ≤ h.low) (p : RoundT P l args h' Q) : RoundT P l args h Q := by
  refine ⟨fun Γ w i args' hr hi ha => ?_⟩
  obtain ⟨fn, tmps, asg, body, h1, h2⟩ := p.out Γ w i args' (q.rel hr) hi ha
  refine ⟨fn, tmps, asg, body, h1, RoundIn.mono h2 ?_⟩
  rintro e w' ⟨v', v, H', Γ', rfl, a1, a2, a3, a4⟩
  exact ⟨v', v, H', Γ', rfl, a1, a2, q.adv hl a3, a4⟩
/-! ### ends of functions that ranged over functions -/
section
variable {P : Program} {H : AHeap} {lo : Nat} {l : EL}
theorem HQ.kill {h h' : AHeap} (q : HQ h h') {b : Nat} (hb : own b = true) : HQ (h.kill b) (h'.kill b) :=
  ⟨fun c => by rw [AHeap.get_kill _ _ _ hb, AHeap.get_kill _ _ _ hb, q.get], q.next, by show min h.low b = min h'.low b; rw [q.low]⟩
end

/-! ### the range itself -/
section
variable {P : Program} {nt : Nat} {l : EL} {ds : List Nat} {H : AHeap} {lo : Nat} {L : List (Option ABlk)} {Qn : St → Prop} {Qe : Nat → St → Prop} {Qr : St → Prop}
end
/-! ### loops whose list of deferred calls grows; several blocks together -/
section
variable {P : Program} {rd : Option Nat} {nt : Nat} {l : EL} {ds : List Nat} {h : AHeap} {Qe : Nat → St → Prop} {Qr : St → Prop}
end
def Has (M : List (Option ABlk)) (F : List (Nat × ABlk)) : Prop := ∀ p ∈ F, M[p.1]? = some (some p.2)
theorem Has.at {M : List (Option ABlk)} {F : List (Nat × ABlk)} (h : Has M F) {k : Nat} {y : ABlk} (hm : (k, y) ∈ F) : M[k]? = some (some y) := h _ hm
theorem Has.app {M : List (Option ABlk)} {F : List (Nat × ABlk)} (h : Has M F) (N : List (Option ABlk)) : Has (M ++ N) F := fun p hp => getApp (h p hp)
theorem Has.set {M : List (Option ABlk)} {F : List (Nat × ABlk)} (h : Has M F) {k : Nat} {x : Option ABlk} (hk : ∀ p ∈ F, p.1 ≠ k) : Has (M.set k x) F := fun p hp => by rw [List.getElem?_set_ne (fun e => hk p hp e.symm)]; exact h p hp
theorem LQ.ext {h h' : AHeap} (q : LQ h h') (hc : Closed h) {lo lo' : Nat} {M : List (Option ABlk)} : LQ (Go.Den.ext h lo M) (Go.Den.ext h' lo' M) := by
  refine ⟨fun b => ?_, by show h.next + M.length = h'.next + M.length; rw [q.next]⟩
  rw [ext_get hc, ext_get (q.closed hc), q.fresh, q.next, q.get]
section
variable {P : Program} {rd : Option Nat} {nt : Nat} {ops : Array Oper} {l : EL} {ds : List Nat} {i : Nat} {ty : TypeId} {pos : String} {af : Array Edge} {H : AHeap} {lo : Nat} {L L' : List (Option ABlk)}
end
section
variable {P : Program} {nt : Nat} {l : EL} {ds : List Nat} {H : AHeap} {lo : Nat} {L : List (Option ABlk)} {Qn : St → Prop} {Qe : Nat → St → Prop} {Qr : St → Prop}
end
end Go.Den
