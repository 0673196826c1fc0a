/- LeagueEither: the contract over every input. -/
import Derived.Test.YtppflopinmkpgaaDoorElJ
import Derived.Test.YtppflopinmkpgaaDoorEiA
import Derived.Test.YtppflopinmkpgaaDoorSxT
noncomputable section
namespace Go.Proofs.YtppflopinmkpgaaDoor
open Go Go.Den Go.ChangeShapes Go.WideShapes Go.ChangeAt Go.RowKit Go.Deep
set_option maxRecDepth 10000

/-- a slice argument told by a block of its own, whose size is known -/
theorem OpS.useX {W : World} {α : Type} {f : α → List Value} {w : Nat} {v : Value} (hf : ∀ x, (f x).length = w) (hfl : ∀ x, (f x).all flatC = true) (h : OpS W f w v) : ∃ o p c l, OpU W f w v o p c l ∧ ∀ B k, 1000 ≤ k → B k = o → SlX (heapOf B) w f (p k) c l := by
  rcases h.out with rfl | ⟨b, sh, ob, len, cap, m, rc, ty, fz, rfl, hle, hm, hh, hsz, hob, hc⟩
  · exact ⟨none, fun _ => none, 0, [], ⟨fun x hx => (by cases hx), fun _ _ _ _ => VR.sliceN _ _, fun _ _ _ _ => .nil, Nat.le_refl _, fun _ _ => ⟨rfl, rfl⟩, fun _ _ e => (by cases e)⟩,
      fun _ _ _ _ => ⟨.nil, fun hne => absurd rfl hne, Nat.le_refl _, fun _ => ⟨rfl, rfl⟩, fun _ e => (by cases e)⟩⟩
  · subst hm
    have hfm : (m.flatMap f).all flatC = true := by
      rw [List.all_eq_true]
      intro x hx
      obtain ⟨y, _, hy⟩ := List.mem_flatMap.1 hx
      exact List.all_eq_true.1 (hfl y) x hy
    have hl : (m.take len).length = len := by rw [List.length_take]; omega
    have hat : ∀ B k, 1000 ≤ k → B k = some (⟨⟨b, rc.size, sh, m.length * w, w, false⟩, m.flatMap f⟩ : BB) → SlAt (heapOf B) w f (some ⟨2 * k + 1, ob, none⟩) (m.take len) := fun B k hk hB => by
      have hg := heapOf_get (k := k) hB
      refine ⟨fun hne => ?_⟩
      have h0 : m.length ≠ 0 := fun e => hne (by rw [List.length_eq_zero_iff.1 e]; simp)
      simp only [hob h0]
      exact ((slAt_flat hf hg).take len).out hne
    refine ⟨some ⟨⟨b, rc.size, sh, m.length * w, w, false⟩, m.flatMap f⟩, fun k => some ⟨2 * k + 1, ob, none⟩, m.length, m.take len, ⟨fun x hx B => ?_, fun B k hk hB => ?_, hat, by omega, fun _ e => (by cases e), fun _ _ e => (by cases e; rfl)⟩, fun B k hk hB => ⟨hat B k hk hB, fun _ b' o' e => ?_, by omega, fun e => (by cases e), fun _ e => (by cases e; rfl)⟩⟩
    · cases hx
      exact ⟨rc, ty, fz, hh, (len_flat hf m).symm, rfl, by rw [len_flat hf]; exact hsz, rfl, fun j v hv => ⟨v, hc j v hv, flatVR hfm hv⟩⟩
    · rw [hl]
      have := gaOf_at (k := k) hB
      exact .slice this (.inl rfl)
    · cases e
      exact ⟨_, _, heapOf_get (k := k) hB⟩

end Go.Proofs.YtppflopinmkpgaaDoor
