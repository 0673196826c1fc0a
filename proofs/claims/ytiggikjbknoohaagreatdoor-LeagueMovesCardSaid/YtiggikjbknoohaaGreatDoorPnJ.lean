/- LeaguePlans: the contract over every input. -/
import Derived.Test.YtiggikjbknoohaaGreatDoorOpA
import Derived.Test.YtiggikjbknoohaaGreatDoorElJ
import Derived.Test.YtiggikjbknoohaaGreatDoorPnH
import Derived.Test.YtiggikjbknoohaaGreatDoorElB
import Derived.Test.YtiggikjbknoohaaGreatDoorFnF
import Derived.Lib.SmallJoins
noncomputable section
namespace Go.Proofs.YtiggikjbknoohaaGreatDoor
open Go Go.Den Go.ChangeShapes Go.WideShapes Go.ChangeAt Go.RowKit Go.Deep
set_option maxRecDepth 10000

/-- a slice of flat elements inside another one: without room it may lie anywhere -/
inductive OpI (W : World) {α : Type} (f : α → List Value) (w : Nat) : Value → Prop
  | nil : OpI W f w (.slice none 0 0)
  | zero (a : Addr) : OpI W f w (.slice (some a) 0 0)
  | blk {b sh len : Nat} {m : List α} {rc : Array Value} {ty : TypeId} {fz : Nat × Nat} (hle : len ≤ m.length) (hne : m.length ≠ 0) (hh : W.heap[b]? = some (.cells rc ty fz)) (hsz : sh + m.length * w ≤ rc.size)
      (hc : ∀ (j : Nat) (u : Value), (m.flatMap f)[j]? = some u → rc[sh + j]? = some u) : OpI W f w (.slice (some ⟨b, sh, none⟩) len m.length)

theorem inner_flat {α : Type} [Inhabited α] {f : α → List Value} {w : Nat} {t e : TypeId} (hw : 0 < w) (hf : ∀ x, (f x).length = w) (hu : Tryz.prog.underlying t = some (.slice e)) (hce : Tryz.prog.cellsOf e = w)
    {H : Type} {enc : TypeId × Value → H} {W : World} {sp hd} (dec : ∀ {fuel : Nat} {cs : List Value} {x : DataW H × List MemPlace}, DataW.trod enc Tryz.prog W 0 sp hd fuel e cs = some x → ∃ y, cs = f y)
    {fuel : Nat} {cs : List Value} {x : DataW H × List MemPlace} (hsp : ∀ b, sp b = true)
    (h : DataW.trod enc Tryz.prog W 0 sp hd fuel t cs = some x) : ∃ v, cs = [v] ∧ OpI W f w v := by
  obtain ⟨d, ps⟩ := x
  rcases open_slice hu h with ⟨hv, _⟩ | ⟨a, len, cap, m, n, D, Pl, hv, _, hle, _, hm, _, hel⟩
  · exact ⟨_, hv, .nil⟩
  · refine ⟨_, hv, ?_⟩
    rw [hsp] at hm
    simp only [if_true] at hm
    subst hm
    by_cases h0 : m = 0
    · subst h0
      obtain rfl : len = 0 := by omega
      exact .zero a
    · obtain ⟨ab, ao, asp⟩ := a
      rw [hce] at hel
      have hcell : ∃ rc ty fz, W.heap[ab]? = some (.cells rc ty fz) ∧ asp = none := by
        obtain ⟨cs', h1, h2⟩ := hel 0 (by omega)
        obtain ⟨y, rfl⟩ := dec h2
        obtain ⟨_, _, h3⟩ := World.cells?_some h1
        have hl : 0 < (f y).length := by rw [hf]; exact hw
        have h4 := h3 0 hw
        rw [List.getElem?_eq_getElem hl] at h4
        have e0 : ((⟨ab, ao, asp⟩ : Addr).add (0 * w)).add 0 = ⟨ab, ao, asp⟩ := by simp [Addr.add]
        rw [e0] at h4
        cases asp with
        | none =>
          simp only [World.cell?] at h4
          split at h4
          · rename_i rc ty fz hheap
            exact ⟨rc, ty, fz, hheap, rfl⟩
          · cases h4
        | some x =>
          simp only [World.cell?] at h4
          split at h4
          · simp at h4
          · cases h4
      obtain ⟨rc, ty, fz, hheap, rfl⟩ := hcell
      obtain ⟨F, hF⟩ := Go.Deep.choose_lt (α := α) (p := fun i x => ∀ r u, (f x)[r]? = some u → rc[ao + i * w + r]? = some u) (fun i hi => by
        obtain ⟨cs', h1, h2⟩ := hel i hi
        obtain ⟨y, rfl⟩ := dec h2
        obtain ⟨_, _, h3⟩ := World.cells?_some h1
        refine ⟨y, fun r u hr => ?_⟩
        have hrw : r < w := by have := (List.getElem?_eq_some_iff.1 hr).1; rwa [hf] at this
        have := h3 r hrw
        rw [hr] at this
        rw [add_none, add_none] at this
        simpa [World.cell?, hheap, Nat.add_assoc] using this)
      have hlen : ((List.range m).map F).length = m := by simp
      rw [show (Value.slice (some ⟨ab, ao, none⟩) len m) = .slice (some ⟨ab, ao, none⟩) len ((List.range m).map F).length by rw [hlen]]
      refine .blk (rc := rc) (ty := ty) (fz := fz) (by rw [hlen]; exact hle) (by rw [hlen]; exact h0) hheap ?_ ?_
      · rw [hlen]
        have hlast : (f (F (m - 1))).length - 1 < (f (F (m - 1))).length := by rw [hf]; omega
        have := hF (m - 1) (by omega) ((f (F (m - 1))).length - 1) _ (List.getElem?_eq_getElem hlast)
        have := (Array.getElem?_eq_some_iff.1 this).1
        rw [hf] at this
        have e1 : m * w = (m - 1) * w + w := by
          have : m = (m - 1) + 1 := by omega
          rw [this, Nat.add_mul]; simp
        omega
      · intro j u hu
        obtain ⟨x, hx, hr⟩ := flat_atG hw hf hu
        rw [List.getElem?_map] at hx
        cases hj : (List.range m)[j / w]? with
        | none => rw [hj] at hx; cases hx
        | some k =>
          rw [hj] at hx
          simp only [Option.map_some, Option.some.injEq] at hx
          subst hx
          obtain ⟨hk, hk2⟩ := List.getElem?_eq_some_iff.1 hj
          simp only [List.getElem_range] at hk2
          subst hk2
          have := hF (j / w) (by simpa using hk) _ _ hr
          rw [← this]
          congr 1
          have e : j / w * w + j % w = j := by rw [Nat.mul_comm]; exact Nat.div_add_mod j w
          omega

end Go.Proofs.YtiggikjbknoohaaGreatDoor
