/- The symbolic layer: a call of the library that turns one row, by its proved contract. -/
import Derived.Test.YtfegloadbajbhaaGreatDoorHkB
import Derived.Shelf.Sort.Plain
noncomputable section
namespace Go.Den
open Go.Sort

theorem vr_eq {Γ : Ga} {v v' : Value} (h : VR Γ v v') (hf : flatC v = true) : v' = v := by
  cases h <;> first | rfl | (simp [flatC] at hf)
theorem vr_refl {Γ : Ga} {v : Value} (hf : flatC v = true) : VR Γ v v := by
  cases v <;> first | (simp [flatC] at hf; done) | exact .bool _ | exact .int _ _ | exact .string _
theorem rel_grow {Γ : Ga} {H : AHeap} {w : World} (hr : Rel Γ H w) (os : Array Obj) : Rel Γ H (grow w os) ∧ Adv Γ H w Γ H (grow w os) := by
  have old : ∀ r, r < w.heap.size → (grow w os).heap[r]? = w.heap[r]? := fun r h => Go.Sort.heap_grow_old _ _ h
  refine ⟨⟨hr.dom, fun b x hb => ?_, hr.ownd, hr.sep⟩, ⟨fun _ _ => rfl, Nat.le_refl _, ?_, fun r h _ => old r h, fun _ hm => .inr hm, rfl, rfl, rfl, .refl _⟩⟩
  · obtain ⟨i, o, h1, h2, h3⟩ := hr.blk b x hb
    exact ⟨i, o, h1, by rw [old _ (Array.getElem?_eq_some_iff.1 h2).1]; exact h2, h3⟩
  · show w.heap.size ≤ (w.heap ++ os).size
    simp
theorem turned_row {α : Type} [Inhabited α] {g : α → Value} {w : World} {r n : Nat} {d : Array α} {rc : Array Value} {e : TypeId} {fz : Nat × Nat} (h : w.heap[r]? = some (.cells rc e fz)) :
    Turned w (putRow g (Go.Sort.ahead w n) r 0 d) r (.cells (putCells g 0 d rc) e fz) := by
  refine ⟨by simp [putRow, mapBlock, Go.Sort.ahead], ?_, fun k hk => ?_, rfl, rfl, rfl⟩
  · simp [putRow, mapBlock, Go.Sort.ahead, Array.getElem?_modify, h, onCells]
  · have : ¬ r = k := fun e => hk e.symm
    simp [putRow, mapBlock, Go.Sort.ahead, Array.getElem?_modify, this]
/-- a row of cells without addresses, as the library's contracts look at it -/
theorem row_of {α : Type} [Inhabited α] {g : α → Value} (hf : ∀ x, flatC (g x) = true) {Γ : Ga} {H : AHeap} {w : World} (hr : Rel Γ H w) {b z : Nat} {s : Bool} {T : List α} {i : BI} (hg : H.get b = some (.cells (T.map g) z s false)) (hi : Γ b = some i) :
    ∃ rc e fz, w.heap[i.real]? = some (.cells rc e fz) ∧ i.shift = 0 ∧ T.length ≤ rc.size ∧ Holds g w i.real 0 T.toArray ∧
      ∀ T' : List α, T'.length = T.length → ObjR Γ i (.cells (T'.map g) z s false) (.cells (putCells g 0 T'.toArray rc) e fz) := by
  obtain ⟨i2, o, h1, h2, h3⟩ := hr.blk b _ hg
  rw [hi] at h1; cases h1
  obtain ⟨rc, e, fz, rfl, q1, q2, q3, q4, q5, q6, q7, q8⟩ := h3
  obtain ⟨q9, q10⟩ := q6 rfl
  have hsz : T.length ≤ rc.size := by simp at q4; omega
  refine ⟨rc, e, fz, h2, q9, hsz, fun j hj => ?_, fun T' hT => ?_⟩
  · have hj' : j < T.length := by simpa using hj
    have hz : (T.map g)[j]? = some (g T[j]) := by simp [hj']
    obtain ⟨v', k1, k2⟩ := q8 j (g T[j]) hz
    have k2 := vr_eq k2 (hf _)
    subst k2
    rw [q9, Nat.zero_add] at k1
    refine ⟨?_, ?_⟩
    · simp only [World.cell?, h2, Nat.zero_add, Option.isSome_none, Bool.false_eq_true, if_false]
      rw [k1]
      simp [hj']
    · simp only [World.frozen?, h2, Nat.zero_add]
      exact q10 j
  · refine ⟨_, _, _, rfl, by simpa [hT] using q1, q2, q3, by simpa [putCells, hT] using q4, by simpa [putCells] using q5, q6, q7, fun k v hk => ?_⟩
    obtain ⟨hk1, hk2⟩ := List.getElem?_eq_some_iff.1 hk
    have hk1 : k < T'.length := by simpa using hk1
    refine ⟨v, ?_, ?_⟩
    · rw [q9, Nat.zero_add]
      have hks : k < rc.size := by omega
      simp only [List.getElem_map] at hk2
      simp only [putCells, Array.getElem?_mapIdx, Array.getElem?_eq_getElem hks, Option.map_some]
      rw [if_pos ⟨Nat.zero_le _, by simpa using hk1⟩]
      simp [hk1, hk2]
    · simp only [List.getElem_map] at hk2
      rw [← hk2]; exact vr_refl (hf _)
/-- the library's call turns the row T into T' -/
theorem callT_row {α : Type} [Inhabited α] {g : α → Value} (hf : ∀ x, flatC (g x) = true) {P : Program} {f : FuncId} {H : AHeap} {b z c : Nat} {s : Bool} {T T' : List α} (henter : ∀ args w, (callFunc f args).run P w = .ok (.enter f args) w)
    (hb : own b = true) (hg : H.get b = some (.cells (T.map g) z s false)) (hT : T'.length = T.length)
    (hcall : ∀ blk cap w, Holds g w blk 0 T.toArray → blk < w.heap.size → Calls P f #[.slice (some ⟨blk, 0, none⟩) T.length cap] w fun e w' => e = .returned (.tuple #[]) ∧ ∃ n os, w' = grow (putRow g (Go.Sort.ahead w n) blk 0 T'.toArray) os) :
    Ret P f [.slice (some ⟨b, 0, none⟩) T.length c] H (packA []) (H.put b (.cells (T'.map g) z s false)) := by
  refine ⟨henter, fun Γ w args' hr _ ha => ?_⟩
  cases ha with
  | cons hv hn =>
    cases hn
    cases hv with
    | slice hi hc =>
      rename_i c' i
      obtain ⟨rc, e, fz, h1, h2, h3, h4, h5⟩ := row_of hf hr hg hi
      have hlt := (Array.getElem?_eq_some_iff.1 h1).1
      rw [h2]
      refine callsIn_wide.2 ((hcall i.real c' w h4 hlt).mono ?_)
      rintro e2 w' ⟨rfl, n, os, rfl⟩
      obtain ⟨r1, a1⟩ := hr.put hg rfl hb hi (turned_row (g := g) (n := n) (d := T'.toArray) h1) (h5 T' hT)
      obtain ⟨r2, a2⟩ := rel_grow r1 os
      exact ⟨_, packA [], _, Γ, rfl, ⟨rfl, rfl⟩, r2, a1.trans a2, .tuple .nil⟩
end Go.Den
