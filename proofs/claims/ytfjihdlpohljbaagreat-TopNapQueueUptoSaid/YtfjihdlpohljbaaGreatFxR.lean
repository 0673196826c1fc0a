/- The symbolic layer: a call of the library that turns one row, by its proved contract. -/
import Derived.Test.YtfjihdlpohljbaaGreatSxW
import Derived.Shelf.Sort.Plain
import Derived.Test.YtfjihdlpohljbaaGreatShA
import Derived.Test.YtfjihdlpohljbaaGreatElJ
import Derived.Test.YtfjihdlpohljbaaGreatPrB
import Derived.Test.YtfjihdlpohljbaaGreatSxK
import Derived.Test.YtfjihdlpohljbaaGreatSxM
import Derived.Test.YtfjihdlpohljbaaGreatSxY
noncomputable section
namespace Go.Den
open Go.Sort
theorem vr_eq {Γ : Ga} {v v' : Value} (h : VR Γ v v') (hf : flatC v = true) : v' = v := by
  cases h <;> first | rfl | (simp [flatC] at hf)
theorem vr_refl {Γ : Ga} {v : Value} (hf : flatC v = true) : VR Γ v v := by
  cases v <;> first | (simp [flatC] at hf; done) | exact .bool _ | exact .int _ _ | exact .string _
theorem rel_grow {Γ : Ga} {H : AHeap} {w : World} (hr : Rel Γ H w) (os : Array Obj) : Rel Γ H (grow w os) ∧ Adv Γ H w Γ H (grow w os) := by
  have old : ∀ r, r < w.heap.size → (grow w os).heap[r]? = w.heap[r]? := fun r h => Go.Sort.heap_grow_old _ _ h
  refine ⟨⟨hr.dom, fun b x hb => ?_, hr.ownd, hr.sep⟩, ⟨fun _ _ => rfl, Nat.le_refl _, ?_, fun r h _ => old r h, fun _ hm => .inr hm, rfl, rfl, rfl, .refl _⟩⟩
  · obtain ⟨i, o, h1, h2, h3⟩ := hr.blk b x hb
    exact ⟨i, o, h1, by rw [old _ (Array.getElem?_eq_some_iff.1 h2).1]; exact h2, h3⟩
  · show w.heap.size ≤ (w.heap ++ os).size
    simp
theorem turned_row {α : Type} [Inhabited α] {g : α → Value} {w : World} {r n : Nat} {d : Array α} {rc : Array Value} {e : TypeId} {fz : Nat × Nat} (h : w.heap[r]? = some (.cells rc e fz)) :
    Turned w (putRow g (Go.Sort.ahead w n) r 0 d) r (.cells (putCells g 0 d rc) e fz) := by
  refine ⟨by simp [putRow, mapBlock, Go.Sort.ahead], ?_, fun k hk => ?_, rfl, rfl, rfl⟩
  · simp [putRow, mapBlock, Go.Sort.ahead, Array.getElem?_modify, h, onCells]
  · have : ¬ r = k := fun e => hk e.symm
    simp [putRow, mapBlock, Go.Sort.ahead, Array.getElem?_modify, this]
theorem row_of {α : Type} [Inhabited α] {g : α → Value} (hf : ∀ x, flatC (g x) = true) {Γ : Ga} {H : AHeap} {w : World} (hr : Rel Γ H w) {b z : Nat} {s : Bool} {T : List α} {i : BI} (hg : H.get b = some (.cells (T.map g) z s false)) (hi : Γ b = some i) :
    ∃ rc e fz, w.heap[i.real]? = some (.cells rc e fz) ∧ i.shift = 0 ∧ T.length ≤ rc.size ∧ Holds g w i.real 0 T.toArray ∧
      ∀ T' : List α, T'.length = T.length → ObjR Γ i (.cells (T'.map g) z s false) (.cells (putCells g 0 T'.toArray rc) e fz) := by
  obtain ⟨i2, o, h1, h2, h3⟩ := hr.blk b _ hg
  rw [hi] at h1; cases h1
  obtain ⟨rc, e, fz, rfl, q1, q2, q3, q4, q5, q6, q7, q8⟩ := h3
  obtain ⟨q9, q10⟩ := q6 rfl
  have hsz : T.length ≤ rc.size := by simp at q4; omega
  refine ⟨rc, e, fz, h2, q9, hsz, fun j hj => ?_, fun T' hT => ?_⟩
  · have hj' : j < T.length := by simpa using hj
    have hz : (T.map g)[j]? = some (g T[j]) := by simp [hj']
    obtain ⟨v', k1, k2⟩ := q8 j (g T[j]) hz
    have k2 := vr_eq k2 (hf _)
    subst k2
    rw [q9, Nat.zero_add] at k1
    refine ⟨?_, ?_⟩
    · simp only [World.cell?, h2, Nat.zero_add, Option.isSome_none, Bool.false_eq_true, if_false]
      rw [k1]
      simp [hj']
    · simp only [World.frozen?, h2, Nat.zero_add]
      exact q10 j
  · refine ⟨_, _, _, rfl, by simpa [hT] using q1, q2, q3, by simpa [putCells, hT] using q4, by simpa [putCells] using q5, q6, q7, fun k v hk => ?_⟩
    obtain ⟨hk1, hk2⟩ := List.getElem?_eq_some_iff.1 hk
    have hk1 : k < T'.length := by simpa using hk1
    refine ⟨v, ?_, ?_⟩
    · rw [q9, Nat.zero_add]
      have hks : k < rc.size := by omega
      simp only [List.getElem_map] at hk2
      simp only [putCells, Array.getElem?_mapIdx, Array.getElem?_eq_getElem hks, Option.map_some]
      rw [if_pos ⟨Nat.zero_le _, by simpa using hk1⟩]
      simp [hk1, hk2]
    · simp only [List.getElem_map] at hk2
      rw [← hk2]; exact vr_refl (hf _)
theorem callT_row {α : Type} [Inhabited α] {g : α → Value} (hf : ∀ x, flatC (g x) = true) {P : Program} {f : FuncId} {H : AHeap} {b z c : Nat} {s : Bool} {T T' : List α} (henter : ∀ args w, (callFunc f args).run P w = .ok (.enter f args) w)
    (hb : own b = true) (hg : H.get b = some (.cells (T.map g) z s false)) (hT : T'.length = T.length)
    (hcall : ∀ blk cap w, Holds g w blk 0 T.toArray → blk < w.heap.size → Calls P f #[.slice (some ⟨blk, 0, none⟩) T.length cap] w fun e w' => e = .returned (.tuple #[]) ∧ ∃ n os, w' = grow (putRow g (Go.Sort.ahead w n) blk 0 T'.toArray) os) :
    Ret P f [.slice (some ⟨b, 0, none⟩) T.length c] H (packA []) (H.put b (.cells (T'.map g) z s false)) := by
  refine ⟨henter, fun Γ w args' hr _ ha => ?_⟩
  cases ha with
  | cons hv hn =>
    cases hn
    cases hv with
    | slice hi hc =>
      rename_i c' i
      obtain ⟨rc, e, fz, h1, h2, h3, h4, h5⟩ := row_of hf hr hg hi
      have hlt := (Array.getElem?_eq_some_iff.1 h1).1
      rw [h2]
      refine callsIn_wide.2 ((hcall i.real c' w h4 hlt).mono ?_)
      rintro e2 w' ⟨rfl, n, os, rfl⟩
      obtain ⟨r1, a1⟩ := hr.put hg rfl hb hi (turned_row (g := g) (n := n) (d := T'.toArray) h1) (h5 T' hT)
      obtain ⟨r2, a2⟩ := rel_grow r1 os
      exact ⟨_, packA [], _, Γ, rfl, ⟨rfl, rfl⟩, r2, a1.trans a2, .tuple .nil⟩
end Go.Den
/- Contracts: lists of integers and of texts are sorted and compacted. -/
noncomputable section
namespace Go.Den
open Go.Sort
theorem callT_rowS {α : Type} [Inhabited α] {g : α → Value} (hf : ∀ x, flatC (g x) = true) {P : Program} {f : FuncId} {H : AHeap} {b z c k : Nat} {s : Bool} {T T' : List α} (henter : ∀ args w, (callFunc f args).run P w = .ok (.enter f args) w)
    (hb : own b = true) (hg : H.get b = some (.cells (T.map g) z s false)) (hT : T'.length = T.length) (hcap : T.length ≤ c)
    (hcall : ∀ blk cap w, T.length ≤ cap → Holds g w blk 0 T.toArray → blk < w.heap.size → Calls P f #[.slice (some ⟨blk, 0, none⟩) T.length cap] w fun e w' => e = .returned (.slice (some ⟨blk, 0, none⟩) k cap) ∧ ∃ q, w' = putRow g (Go.Sort.ahead w q) blk 0 T'.toArray) :
    Ret P f [.slice (some ⟨b, 0, none⟩) T.length c] H (.slice (some ⟨b, 0, none⟩) k c) (H.put b (.cells (T'.map g) z s false)) := by
  refine ⟨henter, fun Γ w args' hr _ ha => ?_⟩
  cases ha with
  | cons hv hn =>
    cases hn
    cases hv with
    | slice hi hc =>
      rename_i c' i
      obtain ⟨rc, e, fz, h1, h2, h3, h4, h5⟩ := row_of hf hr hg hi
      have hlt := (Array.getElem?_eq_some_iff.1 h1).1
      have hc' : c ≤ c' := by
        rcases hc with h | ⟨_, _, h, _⟩
        · omega
        · exact h
      have hv' := VR.slice (Γ := Γ) (o := 0) (n := k) hi hc
      rw [h2] at hv' ⊢
      refine callsIn_wide.2 ((hcall i.real c' w (by omega) h4 hlt).mono ?_)
      rintro e2 w' ⟨rfl, n, rfl⟩
      obtain ⟨r1, a1⟩ := hr.put hg rfl hb hi (turned_row (g := g) (n := n) (d := T'.toArray) h1) (h5 T' hT)
      exact ⟨_, _, _, Γ, rfl, ⟨rfl, rfl⟩, r1, a1, hv'⟩
theorem callT_none {P : Program} {f : FuncId} {H : AHeap} {v : Value} (henter : ∀ args w, (callFunc f args).run P w = .ok (.enter f args) w)
    (hcall : ∀ w, Calls P f #[.slice none 0 0] w fun e w' => e = .returned v ∧ w' = w) (hv : ∀ Γ, VR Γ v v) : Ret P f [.slice none 0 0] H v H := by
  refine ⟨henter, fun Γ w args' hr _ ha => ?_⟩
  cases ha with
  | cons hv' hn =>
    cases hn
    cases hv'
    refine callsIn_wide.2 ((hcall w).mono ?_)
    rintro e2 w' ⟨rfl, rfl⟩
    exact ⟨_, _, _, Γ, rfl, ⟨rfl, rfl⟩, hr, .refl _ _ _, hv Γ⟩
end Go.Den
namespace Go.Proofs.YtfjihdlpohljbaaGreat
open Go Go.Den Go.Sort
set_option maxRecDepth 100000
def srtI (l : List Int) : List Int := l.mergeSort fun x y => decide (x ≤ y)
theorem srtI_perm (l : List Int) : (srtI l).Perm l := List.mergeSort_perm ..
theorem srtI_len (l : List Int) : (srtI l).length = l.length := (srtI_perm l).length_eq
theorem srtI_srt (l : List Int) : (srtI l).Pairwise (· ≤ ·) := by
  have := List.pairwise_mergeSort (le := fun x y : Int => decide (x ≤ y)) (fun a b c h1 h2 => by simp at h1 h2 ⊢; omega) (fun a b => by simp; omega) l
  exact this.imp fun h => by simpa using h
theorem sort_c {H : AHeap} {b z c : Nat} {s : Bool} {T : List Int} (hb : own b = true) (hg : H.get b = some (.cells (T.map I) z s false)) (hn : T.length < 4000000000000000000) :
    Ret Tryz.prog 55 [.slice (some ⟨b, 0, none⟩) T.length c] H (packA []) (H.put b (.cells ((srtI T).map I) z s false)) :=
  callT_row (g := I) (fun _ => rfl) (enters_of Tryz.func55 rfl rfl) hb hg (srtI_len T) fun blk cap w hH hlt => Tryz.slices_Sort_int blk 0 cap T w hH hlt (by omega)
theorem sort0_c {H : AHeap} : Ret Tryz.prog 55 [.slice none 0 0] H (packA []) H :=
  callT_none (enters_of Tryz.func55 rfl rfl) (fun w => Tryz.slices_Sort_int_none none 0 w) fun _ => .tuple .nil
theorem compact_c {H : AHeap} {b z c : Nat} {s : Bool} {T : List Int} (hb : own b = true) (hg : H.get b = some (.cells (T.map I) z s false)) (hn : T.length < 4000000000000000000) (hc : T.length ≤ c) (hl : (Lib.compact T).length ≤ T.length) :
    Ret Tryz.prog 98 [.slice (some ⟨b, 0, none⟩) T.length c] H (.slice (some ⟨b, 0, none⟩) (Lib.compact T).length c) (H.put b (.cells ((Lib.compact T ++ List.replicate (T.length - (Lib.compact T).length) 0).map I) z s false)) :=
  callT_rowS (g := I) (fun _ => rfl) (enters_of Tryz.func98 rfl rfl) hb hg (by simp; omega) hc fun blk cap w hcap hH hlt => Tryz.slices_Compact_int blk 0 cap T w hH (by omega) hcap
theorem compact0_c {H : AHeap} : Ret Tryz.prog 98 [.slice none 0 0] H (.slice none 0 0) H :=
  callT_none (enters_of Tryz.func98 rfl rfl) (fun w => Tryz.slices_Compact_int_empty none 0 w) fun _ => .sliceN _ _
def strB (s : List UInt8) : ByteArray := ⟨s.toArray⟩
def srtS (l : List (List UInt8)) : List (List UInt8) := l.mergeSort fun x y => decide (x ≤ y)
theorem srtS_perm (l : List (List UInt8)) : (srtS l).Perm l := List.mergeSort_perm ..
theorem srtS_len (l : List (List UInt8)) : (srtS l).length = l.length := (srtS_perm l).length_eq
theorem sortS_c {H : AHeap} {b z c : Nat} {s : Bool} {T : List (List UInt8)} (hb : own b = true) (hg : H.get b = some (.cells (T.map encStr) z s false)) (hn : T.length < 4000000000000000000) :
    Ret Tryz.prog 82 [.slice (some ⟨b, 0, none⟩) T.length c] H (packA []) (H.put b (.cells ((srtS T).map encStr) z s false)) :=
  callT_row (g := encStr) (fun _ => rfl) (enters_of Tryz.func82 rfl rfl) hb hg (srtS_len T) fun blk cap w hH hlt => Tryz.slices_Sort_string blk 0 cap T w hH hlt (by omega)
theorem sortS0_c {H : AHeap} : Ret Tryz.prog 82 [.slice none 0 0] H (packA []) H :=
  callT_none (enters_of Tryz.func82 rfl rfl) (fun w => Tryz.slices_Sort_string_none none 0 w) fun _ => .tuple .nil
theorem compactS_c {H : AHeap} {b z c : Nat} {s : Bool} {T : List (List UInt8)} (hb : own b = true) (hg : H.get b = some (.cells (T.map encStr) z s false)) (hn : T.length < 4000000000000000000) (hc : T.length ≤ c) (hl : (Lib.compact T).length ≤ T.length) :
    Ret Tryz.prog 95 [.slice (some ⟨b, 0, none⟩) T.length c] H (.slice (some ⟨b, 0, none⟩) (Lib.compact T).length c) (H.put b (.cells ((Lib.compact T ++ List.replicate (T.length - (Lib.compact T).length) []).map encStr) z s false)) :=
  callT_rowS (g := encStr) (fun _ => rfl) (enters_of Tryz.func95 rfl rfl) hb hg (by simp; omega) hc fun blk cap w hcap hH hlt => Tryz.slices_Compact_string blk 0 cap T w hH (by omega) hcap
theorem compactS0_c {H : AHeap} : Ret Tryz.prog 95 [.slice none 0 0] H (.slice none 0 0) H :=
  callT_none (enters_of Tryz.func95 rfl rfl) (fun w => Tryz.slices_Compact_string_empty none 0 w) fun _ => .sliceN _ _
end Go.Proofs.YtfjihdlpohljbaaGreat
/- Plain law: a list without neighbours that are alike. -/
noncomputable section
namespace Go.Proofs.YtfjihdlpohljbaaGreat
open Go Go.Den Go.Sort
theorem compact_get {α : Type} [Inhabited α] [DecidableEq α] {l : List α} {i : Nat} (h : i < l.length) : l.toArray[i]! = l[i] := by
  simp [getElem!_pos, h]
theorem compact_mem {α : Type} [Inhabited α] [DecidableEq α] {l : List α} {x : α} : x ∈ Lib.compact l ↔ x ∈ l := by
  unfold Lib.compact Lib.compactUpTo
  rw [List.mem_map]
  constructor
  · rintro ⟨i, hi, rfl⟩
    have hi := List.mem_range.1 (List.mem_filter.1 hi).1
    rw [compact_get hi]; exact List.getElem_mem hi
  · intro hx
    obtain ⟨j, hj, e⟩ := List.getElem_of_mem hx
    have key : ∀ n j (hj : j < l.length), j ≤ n → l[j] = x → ∃ a, a ∈ (List.range l.length).filter (Lib.keeps l.toArray) ∧ l.toArray[a]! = x := by
      intro n
      induction n with
      | zero =>
        intro j hj hn e
        refine ⟨j, List.mem_filter.2 ⟨List.mem_range.2 hj, Lib.keeps_lt_one _ _ (by omega)⟩, by rw [compact_get hj]; exact e⟩
      | succ n ih =>
        intro j hj hn e
        by_cases h0 : j = 0
        · exact ih j hj (by omega) e
        by_cases h1 : l[j - 1]'(by omega) = x
        · exact ih (j - 1) (by omega) (by omega) h1
        · refine ⟨j, List.mem_filter.2 ⟨List.mem_range.2 hj, Lib.keeps_pos ?_⟩, by rw [compact_get hj]; exact e⟩
          rw [compact_get hj, compact_get (by omega), e]
          exact fun h => h1 h.symm
    exact key j j hj (Nat.le_refl _) e
theorem compact_srt {α : Type} [Inhabited α] [DecidableEq α] {R : α → α → Prop} (an : ∀ a b, R a b → R b a → a = b) (rf : ∀ a, R a a) {l : List α} (h : l.Pairwise R) : (Lib.compact l).Pairwise fun a b => R a b ∧ a ≠ b := by
  unfold Lib.compact Lib.compactUpTo
  rw [List.pairwise_map]
  have h0 : ((List.range l.length).filter (Lib.keeps l.toArray)).Pairwise (· < ·) := List.Pairwise.filter _ List.pairwise_lt_range
  have get : ∀ i j (hi : i < l.length) (hj : j < l.length), i ≤ j → R l[i] l[j] := by
    intro i j hi hj hij
    rcases Nat.lt_or_ge i j with h1 | h1
    · exact List.pairwise_iff_getElem.1 h i j hi hj h1
    · obtain rfl : i = j := by omega
      exact rf _
  refine h0.imp_of_mem fun {i j} hi hj hij => ?_
  have hj1 := List.mem_range.1 (List.mem_filter.1 hj).1
  have hk := (List.mem_filter.1 hj).2
  rw [compact_get (by omega), compact_get hj1]
  refine ⟨get i j (by omega) hj1 (by omega), fun e => ?_⟩
  have e1 : l[j - 1]'(by omega) = l[j] := by
    refine an _ _ (get _ _ _ _ (by omega)) ?_
    rw [← e]
    exact get i (j - 1) (by omega) (by omega) (by omega)
  have := Lib.keeps_neg (d := l.toArray) (m := j) (by omega) (by rw [compact_get hj1, compact_get (by omega)]; exact e1.symm)
  rw [this] at hk; cases hk
end Go.Proofs.YtfjihdlpohljbaaGreat
/- Contracts: a round, as the program yields it. -/
noncomputable section
namespace Go.Proofs.YtfjihdlpohljbaaGreat
open Go Go.Den
set_option maxRecDepth 100000
theorem low_ext {h : AHeap} {lo : Nat} {M : List (Option ABlk)} : (ext h lo M).low ≤ (ext h lo M).fresh := by
  have : (ext h lo M).low = min lo h.fresh := rfl
  have : (ext h lo M).fresh = nb h M.length := ext_fresh
  have := nb_ge (H := h) M.length
  omega
end Go.Proofs.YtfjihdlpohljbaaGreat
