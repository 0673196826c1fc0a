/- LeagueChecks: the contract over every input. -/
import Derived.Test.YtiggikjbknoohaaGreatDoorFnK
import Derived.Test.YtiggikjbknoohaaGreatDoorLaid
import Derived.WalkKit
import Derived.ProofKit
import Derived.OpenShut
import Derived.Deep.DeepHandedRow
import Derived.Lib.LaidTab
noncomputable section
namespace Go.Proofs.YtiggikjbknoohaaGreatDoor
open Go Go.Den Go.ChangeShapes Go.WideShapes Go.ChangeAt Go.RowKit
set_option maxRecDepth 10000

def B1 (i : BI) (cs : List Value) : Nat → Option BB := fun k => if k = 1000 then some ⟨i, cs⟩ else B0 k
theorem b0_high {k : Nat} {x : BB} (h : B0 k = some x) : k < 1000 := by
  have h2 := (bOf_ok bl0_ok k x h).1
  first | exact h2 | omega | exact h2.1
theorem b1_old {i : BI} {cs : List Value} {k : Nat} {x : BB} (h : B0 k = some x) : B1 i cs k = some x := by
  have := b0_high h
  simp only [B1]
  rw [if_neg (by omega)]; exact h
theorem flat_fxC (m : List Fx) : (m.flatMap fx).all flatC = true := by
  rw [List.all_eq_true]
  intro x hx
  obtain ⟨y, _, hy⟩ := List.mem_flatMap.1 hx
  simp only [fx, List.mem_cons, List.not_mem_nil, or_false] at hy
  rcases hy with rfl | rfl | rfl <;> rfl
theorem b1_ok {W : World} (h : BBok B0 W) {b sh : Nat} {m : List Fx} {rc : Array Value} {ty : TypeId} {fz : Nat × Nat} (hh : W.heap[b]? = some (.cells rc ty fz)) (hle : sh + m.length * 3 ≤ rc.size)
    (hc : ∀ (j : Nat) (u : Value), (m.flatMap fx)[j]? = some u → rc[sh + j]? = some u) : BBok (B1 ⟨b, rc.size, sh, m.length * 3, 3, false⟩ (m.flatMap fx)) W := by
  refine ⟨fun k x hx hk => ?_, fun k x hx => ?_⟩
  · simp only [B1] at hx
    rw [if_neg (by omega)] at hx
    exact h.glob k x hx hk
  · simp only [B1] at hx
    split at hx
    · cases hx
      exact ⟨rc, ty, fz, hh, (len_flat fx_len m).symm, rfl, by rw [len_flat fx_len]; exact hle, rfl, fun j v hv => ⟨v, hc j v hv, flatVR (flat_fxC m) hv⟩⟩
    · obtain ⟨rc', e, fz', h1, h2, h3, h4, h5, h6⟩ := h.blk k x hx
      refine ⟨rc', e, fz', h1, h2, h3, h4, h5, fun j v hv => ?_⟩
      obtain ⟨v', h7, h8⟩ := h6 j v hv
      have hf := b0_flat k x hx
      have hfv : flatC v = true := List.all_eq_true.1 hf v (List.mem_of_getElem? hv)
      have := h8.flatC hfv
      subst this
      exact ⟨_, h7, flatVR hf hv⟩
theorem glo_ext {B : Nat → Option BB} {H : AHeap} (hB : ∀ k x, B0 k = some x → B k = some x) (hE : Ext (heapOf B) H) : Glo B0 H := by
  intro k x hx
  have := hE _ _ (heapOf_get (hB k x hx))
  rw [AHeap.get_odd _ (by omega)] at this
  rw [show (2 * k + 1) / 2 = k by omega] at this
  exact this

theorem law_calls (haw0 : ∀ H, Glo B0 H → Ret Tryz.prog 17 [] H (.bool true) H) {W : World} (hB : BBok B0 W) {H : Type} {enc : TypeId × Value → H} {fuel : Nat} {n : Int} {v : Value} {d : DataW H} {ps : List MemPlace}
    (h : DataW.trod enc Tryz.prog W 0 (fun _ => true) true fuel 99 [v] = some (d, ps)) {b0 : Nat} (hok : Value.okWide Tryz.prog W .any b0 99 v) :
    Calls Tryz.prog 10 ⟨[I n, v]⟩ W fun e W' => e = .returned (.bool true) ∧ Below W.heap.size W W' := by
  rcases open_fx (fun _ => rfl) h hok with rfl | ⟨b, sh, ob, len, cap, m, rc, ty, fz, rfl, hle, hm, hh, hsz, hob, hc⟩
  · refine calls_of_callT (law10 (H := heapOf B0) (q := none) (c := 0) (l := []) (n := n) (fun h hE => haw0 h (glo_ext (fun _ _ hx => hx) hE)) .nil ⟨Nat.le_refl _, fun _ => ⟨rfl, rfl⟩, fun _ e => by cases e⟩) (fun u k hu => hu.1) rfl hB ?_
    exact .cons (.int _ _) (.cons (.sliceN _ _) .nil)
  · subst hm
    have hB1 := b1_ok hB hh hsz hc
    have hg : (heapOf (B1 ⟨b, rc.size, sh, m.length * 3, 3, false⟩ (m.flatMap fx))).get 2001 = some (.cells (m.flatMap fx) 3 false true) := heapOf_get (k := 1000) (x := ⟨⟨b, rc.size, sh, m.length * 3, 3, false⟩, m.flatMap fx⟩) rfl
    have hs : SlAt (heapOf (B1 ⟨b, rc.size, sh, m.length * 3, 3, false⟩ (m.flatMap fx))) 3 fx (some ⟨2001, ob, none⟩) (m.take len) := by
      refine ⟨fun hne => ?_⟩
      have h0 : m.length ≠ 0 := fun e => hne (by rw [List.length_eq_zero_iff.1 e]; simp)
      rw [hob h0]
      exact ((slAt_flat fx_len hg).take len).out hne
    have hl : (m.take len).length = len := by rw [List.length_take]; omega
    have key := law10 (H := heapOf (B1 ⟨b, rc.size, sh, m.length * 3, 3, false⟩ (m.flatMap fx))) (c := m.length) (n := n) (fun h hE => haw0 h (glo_ext (fun _ _ hx => b1_old hx) hE)) hs ⟨by omega, fun e => (by cases e), fun _ e => by cases e; rfl⟩
    rw [hl] at key
    refine calls_of_callT key (fun u k hu => hu.1) rfl hB1 ?_
    have hga : gaOf (B1 ⟨b, rc.size, sh, m.length * 3, 3, false⟩ (m.flatMap fx)) 2001 = some ⟨b, rc.size, sh, m.length * 3, 3, false⟩ := gaOf_at (k := 1000) (x := ⟨⟨b, rc.size, sh, m.length * 3, 3, false⟩, m.flatMap fx⟩) rfl
    exact .cons (.int _ _) (.cons (.slice hga (.inl rfl)) .nil)
