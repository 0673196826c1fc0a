/- Opening a list of fixtures. -/
import Derived.Test.YtiggikjbknoohaaGreatDoorFnJ
import Derived.Test.YtiggikjbknoohaaGreatDoorSxA
import Derived.Deep.Slices
import Derived.Deep.Strs
noncomputable section
namespace Go.Proofs.YtiggikjbknoohaaGreatDoor
open Go Go.Den Go.ChangeShapes Go.Deep
set_option maxRecDepth 10000
noncomputable instance : Inhabited Fx := ⟨⟨0, 0, 0⟩⟩

theorem flat126 : flatT Tryz.prog 4 126 = true := by decide +kernel
theorem cells126 : Tryz.prog.cellsOf 126 = 3 := by decide +kernel
theorem und99 : Tryz.prog.underlying 99 = some (.slice 126) := by first | exact Tryz.underlying99 | rfl

theorem trod_i64 {H : Type} {enc : TypeId × Value → H} {W : World} {b : Nat} {sp hd} {fuel : Nat} {cs : List Value} {x : DataW H × List MemPlace} (h : DataW.trod enc Tryz.prog W b sp hd fuel 3 cs = some x) : ∃ n, cs = [I n] := by
  have hu : Tryz.prog.underlying 3 = some (.int .i64) := rfl
  cases fuel with
  | zero => simp [DataW.trod] at h
  | succ fuel =>
    unfold DataW.trod at h
    rw [hu] at h
    match cs, h with
    | [.int k n], h =>
      simp only at h
      split at h
      · rename_i hk
        obtain ⟨rfl, _⟩ := hk
        exact ⟨n, rfl⟩
      · cases h
theorem und126 : ∃ f0 f1 f2 : Field, Tryz.prog.underlying 126 = some (.struct #[f0, f1, f2]) ∧ (f0.type = 3 ∧ f0.offset = 0) ∧ (f1.type = 3 ∧ f1.offset = 1) ∧ (f2.type = 3 ∧ f2.offset = 2) := ⟨_, _, _, rfl, ⟨rfl, rfl⟩, ⟨rfl, rfl⟩, ⟨rfl, rfl⟩⟩
theorem trod_fx {H : Type} {enc : TypeId × Value → H} {W : World} {b : Nat} {sp hd} {fuel : Nat} {cs : List Value} {x : DataW H × List MemPlace} (h : DataW.trod enc Tryz.prog W b sp hd fuel 126 cs = some x) : ∃ y : Fx, cs = fx y := by
  obtain ⟨f0, f1, f2, hu, ⟨a0, b0⟩, ⟨a1, b1⟩, ⟨a2, b2⟩⟩ := und126
  obtain ⟨y0, y1, y2, n, _, hl, h0, h1, h2⟩ := trod_struct3 hu h
  rw [a0, b0] at h0
  rw [a1, b1] at h1
  rw [a2, b2] at h2
  have c3 : Tryz.prog.cellsOf 3 = 1 := by decide +kernel
  rw [cells126] at hl
  rw [c3] at h0 h1 h2
  match cs, hl with
  | [u0, u1, u2], _ =>
    obtain ⟨n0, e0⟩ := trod_i64 h0
    obtain ⟨n1, e1⟩ := trod_i64 h1
    obtain ⟨n2, e2⟩ := trod_i64 h2
    simp at e0 e1 e2
    subst e0; subst e1; subst e2
    exact ⟨⟨n0, n1, n2⟩, rfl⟩

theorem add_none (b o n : Nat) : (⟨b, o, none⟩ : Addr).add n = ⟨b, o + n, none⟩ := by
  unfold Addr.add
  split
  · rename_i h; subst h; rfl
  · rfl
theorem flat_at {m : List Fx} {j : Nat} {u : Value} (h : (m.flatMap fx)[j]? = some u) : ∃ x, m[j / 3]? = some x ∧ (fx x)[j % 3]? = some u := by
  have hl : j < m.length * 3 := by
    have := (List.getElem?_eq_some_iff.1 h).1
    rwa [len_flat fx_len] at this
  have hi : j / 3 < m.length := by omega
  refine ⟨m[j / 3], List.getElem?_eq_getElem hi, ?_⟩
  have e : j = j / 3 * 3 + j % 3 := by omega
  rw [e, ← List.getElem?_drop, drop_flat fx_len, List.drop_eq_getElem_cons hi, List.flatMap_cons, List.getElem?_append_left (by rw [fx_len]; omega)] at h
  have e2 : (j / 3 * 3 + j % 3) % 3 = j % 3 := by omega
  exact h

theorem open_fx {b0 : Nat} {H : Type} {enc : TypeId × Value → H} {W : World} {sp hd} {fuel : Nat} {v : Value} {d : DataW H} {ps : List MemPlace} (hsp : ∀ b, sp b = true)
    (h : DataW.trod enc Tryz.prog W 0 sp hd fuel 99 [v] = some (d, ps)) (hok : Value.okWide Tryz.prog W .any b0 99 v) :
    v = .slice none 0 0 ∨ ∃ (b sh ob len cap : Nat) (m : List Fx) (rc : Array Value) (ty : TypeId) (fz : Nat × Nat), v = .slice (some ⟨b, sh + ob, none⟩) len cap ∧ len ≤ cap ∧ m.length = cap ∧ W.heap[b]? = some (.cells rc ty fz) ∧ sh + cap * 3 ≤ rc.size ∧ (cap ≠ 0 → ob = 0) ∧
      ∀ (j : Nat) (u : Value), (m.flatMap fx)[j]? = some u → rc[sh + j]? = some u := by
  rcases open_slice und99 h with ⟨hv, _⟩ | ⟨a, len, cap, m, n, D, Pl, hv, _, hle, _, hm, _, hel⟩
  · left; cases hv; rfl
  · right
    cases hv
    rw [hsp] at hm
    simp only [if_true] at hm
    subst hm
    simp only [Value.okWide, Cell.okWide, Cell.ok, und99] at hok
    obtain ⟨_, _, _, hspot, row, cells, hsh, hlie⟩ := hok
    obtain ⟨ab, ao, asp⟩ := a
    simp only at hspot
    subst hspot
    simp only [World.shape?] at hsh
    split at hsh
    · rename_i rc ty fz hheap
      rw [cells126] at hel
      obtain ⟨F, hF⟩ := choose_lt (α := Fx) (p := fun i x => ∀ r u, (fx x)[r]? = some u → rc[ao + i * 3 + r]? = some u) (fun i hi => by
        obtain ⟨cs', h1, h2⟩ := hel i hi
        obtain ⟨y, rfl⟩ := trod_fx h2
        obtain ⟨_, _, h3⟩ := World.cells?_some h1
        refine ⟨y, fun r u hr => ?_⟩
        have hr3 : r < 3 := (List.getElem?_eq_some_iff.1 hr).1
        have := h3 r hr3
        rw [hr] at this
        rw [add_none, add_none] at this
        simpa [World.cell?, hheap, Nat.add_assoc] using this)
      by_cases h0 : m = 0
      · subst h0
        exact ⟨ab, 0, ao, len, 0, [], rc, ty, fz, by rw [Nat.zero_add], hle, rfl, hheap, by omega, fun hh => absurd rfl hh, fun j u hu => by simp at hu⟩
      · refine ⟨ab, ao, 0, len, m, (List.range m).map F, rc, ty, fz, rfl, hle, by simp, hheap, ?_, fun _ => rfl, ?_⟩
        · have := hF (m - 1) (by omega) 2 _ rfl
          have := (Array.getElem?_eq_some_iff.1 this).1
          omega
        · intro j u hu
          obtain ⟨x, hx, hr⟩ := flat_at hu
          rw [List.getElem?_map] at hx
          cases hj : (List.range m)[j / 3]? with
          | none => rw [hj] at hx; cases hx
          | some k =>
            rw [hj] at hx
            simp only [Option.map_some, Option.some.injEq] at hx
            subst hx
            obtain ⟨hk, hk2⟩ := List.getElem?_eq_some_iff.1 hj
            simp only [List.getElem_range] at hk2
            subst hk2
            have := hF (j / 3) (by simpa using hk) _ _ hr
            rw [← this]
            congr 1
            omega
    · cases hsh
