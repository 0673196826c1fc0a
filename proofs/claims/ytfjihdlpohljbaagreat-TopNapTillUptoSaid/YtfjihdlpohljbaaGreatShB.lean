/- Contracts: what a cancellation posts. -/
import Derived.Test.YtfjihdlpohljbaaGreatHpC
import Derived.Shelf.Small.Bits
import Derived.Shelf.Small.Wraps
import Derived.Shelf.Strconv.Itoa0
import Derived.Shelf.Sort.Plain
import Derived.Shelf.Bits.Mul64
import Derived.Ground.Names2Prog
import Derived.Shelf.Slices.CompactI
import Derived.Shelf.Slices.CompactS
import Derived.Shelf.Slices.SearchI
import Derived.Shelf.Slices.Cells
import Derived.Shelf.Slices.In.SortNone
import Derived.Test.YtfjihdlpohljbaaGreatProg
import Derived.Test.YtfjihdlpohljbaaGreatSxW
noncomputable section
namespace Go.Proofs.YtfjihdlpohljbaaGreat
open Go Go.Den
set_option maxRecDepth 100000

def cancE (l : List Ra) (dep note : Int) (b : Bk) (quarter : Int) : Int := firstL [chargeE l dep note, bookE b, whenL (outL quarter 0 99999) 3, whenL (decide (quarter > b.frm)) 11]
def accQ (note : Int) (b : Bk) (quarter : Int) : Nat := if quarter + note ≤ b.frm then 0 else 3
def cancL (dep note : Int) (b : Bk) (quarter : Int) : List Po := postL (postL [] ⟨acc 0, acc 1, dep⟩) ⟨acc 1, acc (accQ note b quarter), dep⟩
def cancB (l : List Ra) (dep note : Int) (b : Bk) (quarter : Int) : List Po := if cancE l dep note b quarter ≠ 0 then [] else cancL dep note b quarter
end Go.Proofs.YtfjihdlpohljbaaGreat
/-
  DERIVED: THE SHELF's CONTRACTS AT THIS DUMP, IN PLAIN WORDS (tools/lay-plain.mjs out of 'TryzShelf.lean', which tools/lay-shelf.mjs wrote): THE SAME DECLARATIONS UNDER THE SAME NAMES: 'import', 'namespace', 'open', 'def', 'theorem' AND NOTHING ELSE: no command of the shelf's: FOR A HAND-IN. Each laying: the table of numbers ('.._ren') and one theorem, a field a fact of the dump's own or the kernel's comparison; each contract: ONE APPLICATION.
-/
namespace Go.Proofs
open Go.Shelf
def Tryz.lays190_ren : Go.Shelf.Ren := ⟨fun | 190 => 82 | 125 => 91 | 258 => 110 | 128 => 125 | 129 => 126 | 302 => 129 | 303 => 130 | 304 => 131 | 305 => 132 | 306 => 133 | 307 => 134 | 308 => 135 | 309 => 136 | 310 => 137 | 333 => 153 | 329 => 140 | 330 => 141 | 334 => 154 | 335 => 155 | 336 => 156 | 344 => 161 | n => n, fun | 31 => 102 | 9 => 9 | 3 => 3 | 46 => 131 | 0 => 0 | 51 => 158 | 53 => 148 | 4 => 4 | 183 => 176 | 182 => 175 | 131 => 180 | 5 => 5 | 218 => 192 | 222 => 196 | 228 => 205 | 229 => 206 | n => n, fun | n => n⟩
theorem Tryz.lays190 : Go.Proofs.Lays.n190 Tryz.prog Tryz.lays190_ren := {
  mixed := by kernel_rfl
  f125 := Tryz.func91.trans (congrArg some (by kernel_rfl))
  f128 := Tryz.func125.trans (congrArg some (by kernel_rfl))
  f129 := Tryz.func126.trans (congrArg some (by kernel_rfl))
  f190 := Tryz.func82.trans (congrArg some (by kernel_rfl))
  f258 := Tryz.func110.trans (congrArg some (by kernel_rfl))
  f302 := Tryz.func129.trans (congrArg some (by kernel_rfl))
  f303 := Tryz.func130.trans (congrArg some (by kernel_rfl))
  f304 := Tryz.func131.trans (congrArg some (by kernel_rfl))
  f305 := Tryz.func132.trans (congrArg some (by kernel_rfl))
  f306 := Tryz.func133.trans (congrArg some (by kernel_rfl))
  f307 := Tryz.func134.trans (congrArg some (by kernel_rfl))
  f308 := Tryz.func135.trans (congrArg some (by kernel_rfl))
  f309 := Tryz.func136.trans (congrArg some (by kernel_rfl))
  f310 := Tryz.func137.trans (congrArg some (by kernel_rfl))
  f329 := Tryz.func140.trans (congrArg some (by kernel_rfl))
  f330 := Tryz.func141.trans (congrArg some (by kernel_rfl))
  f333 := Tryz.func153.trans (congrArg some (by kernel_rfl))
  f334 := Tryz.func154.trans (congrArg some (by kernel_rfl))
  f335 := Tryz.func155.trans (congrArg some (by kernel_rfl))
  f336 := Tryz.func156.trans (congrArg some (by kernel_rfl))
  f344 := Tryz.func161.trans (congrArg some (by kernel_rfl))
  t0 := Tryz.underlying0
  a0 := Tryz.isAgg0
  z0 := Tryz.sizeOf0
  v0 := Tryz.zeroValue0
  t3 := Tryz.underlying3
  a3 := Tryz.isAgg3
  z3 := Tryz.sizeOf3
  v3 := Tryz.zeroValue3
  t4 := Tryz.underlying4
  a4 := Tryz.isAgg4
  z4 := Tryz.sizeOf4
  v4 := Tryz.zeroValue4
  t5 := Tryz.underlying5
  a5 := Tryz.isAgg5
  z5 := Tryz.sizeOf5
  v5 := Tryz.zeroValue5
  t9 := Tryz.underlying9
  a9 := Tryz.isAgg9
  z9 := Tryz.sizeOf9
  v9 := Tryz.zeroValue9
  t31 := Tryz.underlying102
  a31 := Tryz.isAgg102
  z31 := Tryz.sizeOf102
  v31 := Tryz.zeroValue102
  t46 := Tryz.underlying131
  a46 := Tryz.isAgg131
  z46 := Tryz.sizeOf131
  v46 := Tryz.zeroValue131
  t51 := Tryz.underlying158
  a51 := Tryz.isAgg158
  z51 := Tryz.sizeOf158
  v51 := Tryz.zeroValue158
  t53 := Tryz.underlying148
  a53 := Tryz.isAgg148
  z53 := Tryz.sizeOf148
  v53 := Tryz.zeroValue148
  t131 := Tryz.underlying180
  a131 := Tryz.isAgg180
  z131 := Tryz.sizeOf180
  v131 := Tryz.zeroValue180
  t182 := Tryz.underlying175
  a182 := Tryz.isAgg175
  z182 := Tryz.sizeOf175
  v182 := Tryz.zeroValue175
  t183 := Tryz.underlying176
  a183 := Tryz.isAgg176
  z183 := Tryz.sizeOf176
  v183 := Tryz.zeroValue176
  t218 := Tryz.underlying192
  a218 := Tryz.isAgg192
  z218 := Tryz.sizeOf192
  v218 := Tryz.zeroValue192
  t222 := Tryz.underlying196
  a222 := Tryz.isAgg196
  z222 := Tryz.sizeOf196
  v222 := Tryz.zeroValue196
  t228 := Tryz.underlying205
  a228 := Tryz.isAgg205
  z228 := Tryz.sizeOf205
  v228 := Tryz.zeroValue205
  t229 := Tryz.underlying206
  a229 := Tryz.isAgg206
  z229 := Tryz.sizeOf206
  v229 := Tryz.zeroValue206 }
open Go.Sort Go.RowKit in
theorem Tryz.slices_Sort_string (blk off cap : Nat) (ss : List (List UInt8)) (w : World) (hH : Holds encStr w blk off ss.toArray) (hblk : blk < w.heap.size) (hsz : ss.length < 4611686018427387904) :
    Calls Tryz.prog 82 #[.slice (some ⟨blk, off, none⟩) ss.length cap] w fun e w' =>
      e = .returned (.tuple #[]) ∧ ∃ n os, w' = grow (putRow encStr (Sort.ahead w n) blk off (ss.mergeSort fun x y => decide (x ≤ y)).toArray) os := Any.slices_Sort_string Tryz.lays190 blk off cap ss w hH hblk hsz
open Go.RowKit Go.Sort in
/-- .. and plain. (LAID: no walk: one application.) -/
theorem Tryz.slices_Sort_string_none (p : Option Addr) (cap : Nat) (w : World) :
    Calls Tryz.prog 82 #[.slice p 0 cap] w fun e w' => e = .returned (.tuple #[]) ∧ w' = w := Any.slices_Sort_string_none Tryz.lays190 p cap w
end Go.Proofs
/- The symbolic layer: a call of the library that turns one row, by its proved contract. -/
noncomputable section
namespace Go.Den
open Go.Sort

theorem vr_eq {Γ : Ga} {v v' : Value} (h : VR Γ v v') (hf : flatC v = true) : v' = v := by
  cases h <;> first | rfl | (simp [flatC] at hf)
theorem vr_refl {Γ : Ga} {v : Value} (hf : flatC v = true) : VR Γ v v := by
  cases v <;> first | (simp [flatC] at hf; done) | exact .bool _ | exact .int _ _ | exact .string _
theorem rel_grow {Γ : Ga} {H : AHeap} {w : World} (hr : Rel Γ H w) (os : Array Obj) : Rel Γ H (grow w os) ∧ Adv Γ H w Γ H (grow w os) := by
  have old : ∀ r, r < w.heap.size → (grow w os).heap[r]? = w.heap[r]? := fun r h => Go.Sort.heap_grow_old _ _ h
  refine ⟨⟨hr.dom, fun b x hb => ?_, hr.ownd, hr.sep⟩, ⟨fun _ _ => rfl, Nat.le_refl _, ?_, fun r h _ => old r h, fun _ hm => .inr hm, rfl, rfl, rfl, .refl _⟩⟩
  · obtain ⟨i, o, h1, h2, h3⟩ := hr.blk b x hb
    exact ⟨i, o, h1, by rw [old _ (Array.getElem?_eq_some_iff.1 h2).1]; exact h2, h3⟩
  · show w.heap.size ≤ (w.heap ++ os).size
    simp
theorem turned_row {α : Type} [Inhabited α] {g : α → Value} {w : World} {r n : Nat} {d : Array α} {rc : Array Value} {e : TypeId} {fz : Nat × Nat} (h : w.heap[r]? = some (.cells rc e fz)) :
    Turned w (putRow g (Go.Sort.ahead w n) r 0 d) r (.cells (putCells g 0 d rc) e fz) := by
  refine ⟨by simp [putRow, mapBlock, Go.Sort.ahead], ?_, fun k hk => ?_, rfl, rfl, rfl⟩
  · simp [putRow, mapBlock, Go.Sort.ahead, Array.getElem?_modify, h, onCells]
  · have : ¬ r = k := fun e => hk e.symm
    simp [putRow, mapBlock, Go.Sort.ahead, Array.getElem?_modify, this]
/-- a row of cells without addresses, as the library's contracts look at it -/
theorem row_of {α : Type} [Inhabited α] {g : α → Value} (hf : ∀ x, flatC (g x) = true) {Γ : Ga} {H : AHeap} {w : World} (hr : Rel Γ H w) {b z : Nat} {s : Bool} {T : List α} {i : BI} (hg : H.get b = some (.cells (T.map g) z s false)) (hi : Γ b = some i) :
    ∃ rc e fz, w.heap[i.real]? = some (.cells rc e fz) ∧ i.shift = 0 ∧ T.length ≤ rc.size ∧ Holds g w i.real 0 T.toArray ∧
      ∀ T' : List α, T'.length = T.length → ObjR Γ i (.cells (T'.map g) z s false) (.cells (putCells g 0 T'.toArray rc) e fz) := by
  obtain ⟨i2, o, h1, h2, h3⟩ := hr.blk b _ hg
  rw [hi] at h1; cases h1
  obtain ⟨rc, e, fz, rfl, q1, q2, q3, q4, q5, q6, q7, q8⟩ := h3
  obtain ⟨q9, q10⟩ := q6 rfl
  have hsz : T.length ≤ rc.size := by simp at q4; omega
  refine ⟨rc, e, fz, h2, q9, hsz, fun j hj => ?_, fun T' hT => ?_⟩
  · have hj' : j < T.length := by simpa using hj
    have hz : (T.map g)[j]? = some (g T[j]) := by simp [hj']
    obtain ⟨v', k1, k2⟩ := q8 j (g T[j]) hz
    have k2 := vr_eq k2 (hf _)
    subst k2
    rw [q9, Nat.zero_add] at k1
    refine ⟨?_, ?_⟩
    · simp only [World.cell?, h2, Nat.zero_add, Option.isSome_none, Bool.false_eq_true, if_false]
      rw [k1]
      simp [hj']
    · simp only [World.frozen?, h2, Nat.zero_add]
      exact q10 j
  · refine ⟨_, _, _, rfl, by simpa [hT] using q1, q2, q3, by simpa [putCells, hT] using q4, by simpa [putCells] using q5, q6, q7, fun k v hk => ?_⟩
    obtain ⟨hk1, hk2⟩ := List.getElem?_eq_some_iff.1 hk
    have hk1 : k < T'.length := by simpa using hk1
    refine ⟨v, ?_, ?_⟩
    · rw [q9, Nat.zero_add]
      have hks : k < rc.size := by omega
      simp only [List.getElem_map] at hk2
      simp only [putCells, Array.getElem?_mapIdx, Array.getElem?_eq_getElem hks, Option.map_some]
      rw [if_pos ⟨Nat.zero_le _, by simpa using hk1⟩]
      simp [hk1, hk2]
    · simp only [List.getElem_map] at hk2
      rw [← hk2]; exact vr_refl (hf _)
/-- the library's call turns the row T into T' -/
theorem callT_row {α : Type} [Inhabited α] {g : α → Value} (hf : ∀ x, flatC (g x) = true) {P : Program} {f : FuncId} {H : AHeap} {b z c : Nat} {s : Bool} {T T' : List α} (henter : ∀ args w, (callFunc f args).run P w = .ok (.enter f args) w)
    (hb : own b = true) (hg : H.get b = some (.cells (T.map g) z s false)) (hT : T'.length = T.length)
    (hcall : ∀ blk cap w, Holds g w blk 0 T.toArray → blk < w.heap.size → Calls P f #[.slice (some ⟨blk, 0, none⟩) T.length cap] w fun e w' => e = .returned (.tuple #[]) ∧ ∃ n os, w' = grow (putRow g (Go.Sort.ahead w n) blk 0 T'.toArray) os) :
    Ret P f [.slice (some ⟨b, 0, none⟩) T.length c] H (packA []) (H.put b (.cells (T'.map g) z s false)) := by
  refine ⟨henter, fun Γ w args' hr _ ha => ?_⟩
  cases ha with
  | cons hv hn =>
    cases hn
    cases hv with
    | slice hi hc =>
      rename_i c' i
      obtain ⟨rc, e, fz, h1, h2, h3, h4, h5⟩ := row_of hf hr hg hi
      have hlt := (Array.getElem?_eq_some_iff.1 h1).1
      rw [h2]
      refine callsIn_wide.2 ((hcall i.real c' w h4 hlt).mono ?_)
      rintro e2 w' ⟨rfl, n, os, rfl⟩
      obtain ⟨r1, a1⟩ := hr.put hg rfl hb hi (turned_row (g := g) (n := n) (d := T'.toArray) h1) (h5 T' hT)
      obtain ⟨r2, a2⟩ := rel_grow r1 os
      exact ⟨_, packA [], _, Γ, rfl, ⟨rfl, rfl⟩, r2, a1.trans a2, .tuple .nil⟩
end Go.Den
