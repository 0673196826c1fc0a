/- Contracts: lists of integers and of texts are sorted and compacted. -/
import Derived.Test.YtflbffhahoblfaaGreatDoorShA
import Derived.Test.YtflbffhahoblfaaGreatDoorShB
import Derived.Test.YtflbffhahoblfaaGreatDoorPrA
import Derived.Test.YtflbffhahoblfaaGreatDoorPrB
noncomputable section
namespace Go.Den
open Go.Sort
theorem callT_rowS {α : Type} [Inhabited α] {g : α → Value} (hf : ∀ x, flatC (g x) = true) {P : Program} {f : FuncId} {H : AHeap} {b z c k : Nat} {s : Bool} {T T' : List α} (henter : ∀ args w, (callFunc f args).run P w = .ok (.enter f args) w)
    (hb : own b = true) (hg : H.get b = some (.cells (T.map g) z s false)) (hT : T'.length = T.length) (hcap : T.length ≤ c)
    (hcall : ∀ blk cap w, T.length ≤ cap → Holds g w blk 0 T.toArray → blk < w.heap.size → Calls P f #[.slice (some ⟨blk, 0, none⟩) T.length cap] w fun e w' => e = .returned (.slice (some ⟨blk, 0, none⟩) k cap) ∧ ∃ q, w' = putRow g (Go.Sort.ahead w q) blk 0 T'.toArray) :
    Ret P f [.slice (some ⟨b, 0, none⟩) T.length c] H (.slice (some ⟨b, 0, none⟩) k c) (H.put b (.cells (T'.map g) z s false)) := by
  refine ⟨henter, fun Γ w args' hr _ ha => ?_⟩
  cases ha with
  | cons hv hn =>
    cases hn
    cases hv with
    | slice hi hc =>
      rename_i c' i
      obtain ⟨rc, e, fz, h1, h2, h3, h4, h5⟩ := row_of hf hr hg hi
      have hlt := (Array.getElem?_eq_some_iff.1 h1).1
      have hc' : c ≤ c' := by
        rcases hc with h | ⟨_, _, h, _⟩
        · omega
        · exact h
      have hv' := VR.slice (Γ := Γ) (o := 0) (n := k) hi hc
      rw [h2] at hv' ⊢
      refine callsIn_wide.2 ((hcall i.real c' w (by omega) h4 hlt).mono ?_)
      rintro e2 w' ⟨rfl, n, rfl⟩
      obtain ⟨r1, a1⟩ := hr.put hg rfl hb hi (turned_row (g := g) (n := n) (d := T'.toArray) h1) (h5 T' hT)
      exact ⟨_, _, _, Γ, rfl, ⟨rfl, rfl⟩, r1, a1, hv'⟩
theorem callT_none {P : Program} {f : FuncId} {H : AHeap} {v : Value} (henter : ∀ args w, (callFunc f args).run P w = .ok (.enter f args) w)
    (hcall : ∀ w, Calls P f #[.slice none 0 0] w fun e w' => e = .returned v ∧ w' = w) (hv : ∀ Γ, VR Γ v v) : Ret P f [.slice none 0 0] H v H := by
  refine ⟨henter, fun Γ w args' hr _ ha => ?_⟩
  cases ha with
  | cons hv' hn =>
    cases hn
    cases hv'
    refine callsIn_wide.2 ((hcall w).mono ?_)
    rintro e2 w' ⟨rfl, rfl⟩
    exact ⟨_, _, _, Γ, rfl, ⟨rfl, rfl⟩, hr, .refl _ _ _, hv Γ⟩
end Go.Den
namespace Go.Proofs.YtflbffhahoblfaaGreatDoor
open Go Go.Den Go.Sort
set_option maxRecDepth 100000
def srtI (l : List Int) : List Int := l.mergeSort fun x y => decide (x ≤ y)
theorem srtI_perm (l : List Int) : (srtI l).Perm l := List.mergeSort_perm ..
theorem srtI_len (l : List Int) : (srtI l).length = l.length := (srtI_perm l).length_eq
theorem srtI_srt (l : List Int) : (srtI l).Pairwise (· ≤ ·) := by
  have := List.pairwise_mergeSort (le := fun x y : Int => decide (x ≤ y)) (fun a b c h1 h2 => by simp at h1 h2 ⊢; omega) (fun a b => by simp; omega) l
  exact this.imp fun h => by simpa using h
theorem sort_c {H : AHeap} {b z c : Nat} {s : Bool} {T : List Int} (hb : own b = true) (hg : H.get b = some (.cells (T.map I) z s false)) (hn : T.length < 4000000000000000000) :
    Ret Tryz.prog 55 [.slice (some ⟨b, 0, none⟩) T.length c] H (packA []) (H.put b (.cells ((srtI T).map I) z s false)) :=
  callT_row (g := I) (fun _ => rfl) (enters_of Tryz.func55 rfl rfl) hb hg (srtI_len T) fun blk cap w hH hlt => Tryz.slices_Sort_int blk 0 cap T w hH hlt (by omega)
theorem sort0_c {H : AHeap} : Ret Tryz.prog 55 [.slice none 0 0] H (packA []) H :=
  callT_none (enters_of Tryz.func55 rfl rfl) (fun w => Tryz.slices_Sort_int_none none 0 w) fun _ => .tuple .nil
theorem compact_c {H : AHeap} {b z c : Nat} {s : Bool} {T : List Int} (hb : own b = true) (hg : H.get b = some (.cells (T.map I) z s false)) (hn : T.length < 4000000000000000000) (hc : T.length ≤ c) (hl : (Lib.compact T).length ≤ T.length) :
    Ret Tryz.prog 56 [.slice (some ⟨b, 0, none⟩) T.length c] H (.slice (some ⟨b, 0, none⟩) (Lib.compact T).length c) (H.put b (.cells ((Lib.compact T ++ List.replicate (T.length - (Lib.compact T).length) 0).map I) z s false)) :=
  callT_rowS (g := I) (fun _ => rfl) (enters_of Tryz.func56 rfl rfl) hb hg (by simp; omega) hc fun blk cap w hcap hH hlt => Tryz.slices_Compact_int blk 0 cap T w hH (by omega) hcap
theorem compact0_c {H : AHeap} : Ret Tryz.prog 56 [.slice none 0 0] H (.slice none 0 0) H :=
  callT_none (enters_of Tryz.func56 rfl rfl) (fun w => Tryz.slices_Compact_int_empty none 0 w) fun _ => .sliceN _ _
def strB (s : List UInt8) : ByteArray := ⟨s.toArray⟩
def srtS (l : List (List UInt8)) : List (List UInt8) := l.mergeSort fun x y => decide (x ≤ y)
theorem srtS_perm (l : List (List UInt8)) : (srtS l).Perm l := List.mergeSort_perm ..
theorem srtS_len (l : List (List UInt8)) : (srtS l).length = l.length := (srtS_perm l).length_eq
theorem sortS_c {H : AHeap} {b z c : Nat} {s : Bool} {T : List (List UInt8)} (hb : own b = true) (hg : H.get b = some (.cells (T.map encStr) z s false)) (hn : T.length < 4000000000000000000) :
    Ret Tryz.prog 93 [.slice (some ⟨b, 0, none⟩) T.length c] H (packA []) (H.put b (.cells ((srtS T).map encStr) z s false)) :=
  callT_row (g := encStr) (fun _ => rfl) (enters_of Tryz.func93 rfl rfl) hb hg (srtS_len T) fun blk cap w hH hlt => Tryz.slices_Sort_string blk 0 cap T w hH hlt (by omega)
theorem sortS0_c {H : AHeap} : Ret Tryz.prog 93 [.slice none 0 0] H (packA []) H :=
  callT_none (enters_of Tryz.func93 rfl rfl) (fun w => Tryz.slices_Sort_string_none none 0 w) fun _ => .tuple .nil
theorem compactS_c {H : AHeap} {b z c : Nat} {s : Bool} {T : List (List UInt8)} (hb : own b = true) (hg : H.get b = some (.cells (T.map encStr) z s false)) (hn : T.length < 4000000000000000000) (hc : T.length ≤ c) (hl : (Lib.compact T).length ≤ T.length) :
    Ret Tryz.prog 94 [.slice (some ⟨b, 0, none⟩) T.length c] H (.slice (some ⟨b, 0, none⟩) (Lib.compact T).length c) (H.put b (.cells ((Lib.compact T ++ List.replicate (T.length - (Lib.compact T).length) []).map encStr) z s false)) :=
  callT_rowS (g := encStr) (fun _ => rfl) (enters_of Tryz.func94 rfl rfl) hb hg (by simp; omega) hc fun blk cap w hcap hH hlt => Tryz.slices_Compact_string blk 0 cap T w hH (by omega) hcap
theorem compactS0_c {H : AHeap} : Ret Tryz.prog 94 [.slice none 0 0] H (.slice none 0 0) H :=
  callT_none (enters_of Tryz.func94 rfl rfl) (fun w => Tryz.slices_Compact_string_empty none 0 w) fun _ => .sliceN _ _
end Go.Proofs.YtflbffhahoblfaaGreatDoor
/- Plain law: a list without neighbours that are alike. -/
noncomputable section
namespace Go.Proofs.YtflbffhahoblfaaGreatDoor
open Go Go.Den Go.Sort
theorem compact_get {α : Type} [Inhabited α] [DecidableEq α] {l : List α} {i : Nat} (h : i < l.length) : l.toArray[i]! = l[i] := by
  simp [getElem!_pos, h]
theorem compact_mem {α : Type} [Inhabited α] [DecidableEq α] {l : List α} {x : α} : x ∈ Lib.compact l ↔ x ∈ l := by
  unfold Lib.compact Lib.compactUpTo
  rw [List.mem_map]
  constructor
  · rintro ⟨i, hi, rfl⟩
    have hi := List.mem_range.1 (List.mem_filter.1 hi).1
    rw [compact_get hi]; exact List.getElem_mem hi
  · intro hx
    obtain ⟨j, hj, e⟩ := List.getElem_of_mem hx
    have key : ∀ n j (hj : j < l.length), j ≤ n → l[j] = x → ∃ a, a ∈ (List.range l.length).filter (Lib.keeps l.toArray) ∧ l.toArray[a]! = x := by
      intro n
      induction n with
      | zero =>
        intro j hj hn e
        refine ⟨j, List.mem_filter.2 ⟨List.mem_range.2 hj, Lib.keeps_lt_one _ _ (by omega)⟩, by rw [compact_get hj]; exact e⟩
      | succ n ih =>
        intro j hj hn e
        by_cases h0 : j = 0
        · exact ih j hj (by omega) e
        by_cases h1 : l[j - 1]'(by omega) = x
        · exact ih (j - 1) (by omega) (by omega) h1
        · refine ⟨j, List.mem_filter.2 ⟨List.mem_range.2 hj, Lib.keeps_pos ?_⟩, by rw [compact_get hj]; exact e⟩
          rw [compact_get hj, compact_get (by omega), e]
          exact fun h => h1 h.symm
    exact key j j hj (Nat.le_refl _) e
theorem compact_srt {α : Type} [Inhabited α] [DecidableEq α] {R : α → α → Prop} (an : ∀ a b, R a b → R b a → a = b) (rf : ∀ a, R a a) {l : List α} (h : l.Pairwise R) : (Lib.compact l).Pairwise fun a b => R a b ∧ a ≠ b := by
  unfold Lib.compact Lib.compactUpTo
  rw [List.pairwise_map]
  have h0 : ((List.range l.length).filter (Lib.keeps l.toArray)).Pairwise (· < ·) := List.Pairwise.filter _ List.pairwise_lt_range
  have get : ∀ i j (hi : i < l.length) (hj : j < l.length), i ≤ j → R l[i] l[j] := by
    intro i j hi hj hij
    rcases Nat.lt_or_ge i j with h1 | h1
    · exact List.pairwise_iff_getElem.1 h i j hi hj h1
    · obtain rfl : i = j := by omega
      exact rf _
  refine h0.imp_of_mem fun {i j} hi hj hij => ?_
  have hj1 := List.mem_range.1 (List.mem_filter.1 hj).1
  have hk := (List.mem_filter.1 hj).2
  rw [compact_get (by omega), compact_get hj1]
  refine ⟨get i j (by omega) hj1 (by omega), fun e => ?_⟩
  have e1 : l[j - 1]'(by omega) = l[j] := by
    refine an _ _ (get _ _ _ _ (by omega)) ?_
    rw [← e]
    exact get i (j - 1) (by omega) (by omega) (by omega)
  have := Lib.keeps_neg (d := l.toArray) (m := j) (by omega) (by rw [compact_get hj1, compact_get (by omega)]; exact e1.symm)
  rw [this] at hk; cases hk
end Go.Proofs.YtflbffhahoblfaaGreatDoor
