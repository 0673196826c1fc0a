/- Contracts: lists of integers and of texts are sorted and compacted. -/
import Derived.Test.YtfegloadbajbhaaGreatDoorShA
import Derived.Test.YtfegloadbajbhaaGreatDoorShB
import Derived.Test.YtfegloadbajbhaaGreatDoorStA
import Derived.Test.YtfegloadbajbhaaGreatDoorPrB
noncomputable section
namespace Go.Den
open Go.Sort
/-- the library's call turns the row T into T' and returns its first k elements -/
theorem callT_rowS {α : Type} [Inhabited α] {g : α → Value} (hf : ∀ x, flatC (g x) = true) {P : Program} {f : FuncId} {H : AHeap} {b z c k : Nat} {s : Bool} {T T' : List α} (henter : ∀ args w, (callFunc f args).run P w = .ok (.enter f args) w)
    (hb : own b = true) (hg : H.get b = some (.cells (T.map g) z s false)) (hT : T'.length = T.length) (hcap : T.length ≤ c)
    (hcall : ∀ blk cap w, T.length ≤ cap → Holds g w blk 0 T.toArray → blk < w.heap.size → Calls P f #[.slice (some ⟨blk, 0, none⟩) T.length cap] w fun e w' => e = .returned (.slice (some ⟨blk, 0, none⟩) k cap) ∧ ∃ q, w' = putRow g (Go.Sort.ahead w q) blk 0 T'.toArray) :
    Ret P f [.slice (some ⟨b, 0, none⟩) T.length c] H (.slice (some ⟨b, 0, none⟩) k c) (H.put b (.cells (T'.map g) z s false)) := by
  refine ⟨henter, fun Γ w args' hr _ ha => ?_⟩
  cases ha with
  | cons hv hn =>
    cases hn
    cases hv with
    | slice hi hc =>
      rename_i c' i
      obtain ⟨rc, e, fz, h1, h2, h3, h4, h5⟩ := row_of hf hr hg hi
      have hlt := (Array.getElem?_eq_some_iff.1 h1).1
      have hc' : c ≤ c' := by
        rcases hc with h | ⟨_, _, h, _⟩
        · omega
        · exact h
      have hv' := VR.slice (Γ := Γ) (o := 0) (n := k) hi hc
      rw [h2] at hv' ⊢
      refine callsIn_wide.2 ((hcall i.real c' w (by omega) h4 hlt).mono ?_)
      rintro e2 w' ⟨rfl, n, rfl⟩
      obtain ⟨r1, a1⟩ := hr.put hg rfl hb hi (turned_row (g := g) (n := n) (d := T'.toArray) h1) (h5 T' hT)
      exact ⟨_, _, _, Γ, rfl, ⟨rfl, rfl⟩, r1, a1, hv'⟩
/-- the library's call at a slice of no element -/
theorem callT_none {P : Program} {f : FuncId} {H : AHeap} {v : Value} (henter : ∀ args w, (callFunc f args).run P w = .ok (.enter f args) w)
    (hcall : ∀ w, Calls P f #[.slice none 0 0] w fun e w' => e = .returned v ∧ w' = w) (hv : ∀ Γ, VR Γ v v) : Ret P f [.slice none 0 0] H v H := by
  refine ⟨henter, fun Γ w args' hr _ ha => ?_⟩
  cases ha with
  | cons hv' hn =>
    cases hn
    cases hv'
    refine callsIn_wide.2 ((hcall w).mono ?_)
    rintro e2 w' ⟨rfl, rfl⟩
    exact ⟨_, _, _, Γ, rfl, ⟨rfl, rfl⟩, hr, .refl _ _ _, hv Γ⟩
end Go.Den
namespace Go.Proofs.YtfegloadbajbhaaGreatDoor
open Go Go.Den Go.Sort
set_option maxRecDepth 100000

/-- the sorted list -/
def srtI (l : List Int) : List Int := l.mergeSort fun x y => decide (x ≤ y)
theorem srtI_perm (l : List Int) : (srtI l).Perm l := List.mergeSort_perm ..
theorem srtI_len (l : List Int) : (srtI l).length = l.length := (srtI_perm l).length_eq
theorem srtI_srt (l : List Int) : (srtI l).Pairwise (· ≤ ·) := by
  have := List.pairwise_mergeSort (le := fun x y : Int => decide (x ≤ y)) (fun a b c h1 h2 => by simp at h1 h2 ⊢; omega) (fun a b => by simp; omega) l
  exact this.imp fun h => by simpa using h
theorem sort_c {H : AHeap} {b z c : Nat} {s : Bool} {T : List Int} (hb : own b = true) (hg : H.get b = some (.cells (T.map I) z s false)) (hn : T.length < 4000000000000000000) :
    Ret Tryz.prog 112 [.slice (some ⟨b, 0, none⟩) T.length c] H (packA []) (H.put b (.cells ((srtI T).map I) z s false)) :=
  callT_row (g := I) (fun _ => rfl) (enters_of Tryz.func112 rfl rfl) hb hg (srtI_len T) fun blk cap w hH hlt => Tryz.slices_Sort_int blk 0 cap T w hH hlt (by omega)
theorem sort0_c {H : AHeap} : Ret Tryz.prog 112 [.slice none 0 0] H (packA []) H :=
  callT_none (enters_of Tryz.func112 rfl rfl) (fun w => Tryz.slices_Sort_int_none none 0 w) fun _ => .tuple .nil
theorem compact_c {H : AHeap} {b z c : Nat} {s : Bool} {T : List Int} (hb : own b = true) (hg : H.get b = some (.cells (T.map I) z s false)) (hn : T.length < 4000000000000000000) (hc : T.length ≤ c) (hl : (Lib.compact T).length ≤ T.length) :
    Ret Tryz.prog 113 [.slice (some ⟨b, 0, none⟩) T.length c] H (.slice (some ⟨b, 0, none⟩) (Lib.compact T).length c) (H.put b (.cells ((Lib.compact T ++ List.replicate (T.length - (Lib.compact T).length) 0).map I) z s false)) :=
  callT_rowS (g := I) (fun _ => rfl) (enters_of Tryz.func113 rfl rfl) hb hg (by simp; omega) hc fun blk cap w hcap hH hlt => Tryz.slices_Compact_int blk 0 cap T w hH (by omega) hcap
theorem compact0_c {H : AHeap} : Ret Tryz.prog 113 [.slice none 0 0] H (.slice none 0 0) H :=
  callT_none (enters_of Tryz.func113 rfl rfl) (fun w => Tryz.slices_Compact_int_empty none 0 w) fun _ => .sliceN _ _
/-- a text of bytes -/
def strB (s : List UInt8) : ByteArray := ⟨s.toArray⟩
def srtS (l : List (List UInt8)) : List (List UInt8) := l.mergeSort fun x y => decide (x ≤ y)
theorem srtS_perm (l : List (List UInt8)) : (srtS l).Perm l := List.mergeSort_perm ..
theorem srtS_len (l : List (List UInt8)) : (srtS l).length = l.length := (srtS_perm l).length_eq
theorem sortS_c {H : AHeap} {b z c : Nat} {s : Bool} {T : List (List UInt8)} (hb : own b = true) (hg : H.get b = some (.cells (T.map encStr) z s false)) (hn : T.length < 4000000000000000000) :
    Ret Tryz.prog 158 [.slice (some ⟨b, 0, none⟩) T.length c] H (packA []) (H.put b (.cells ((srtS T).map encStr) z s false)) :=
  callT_row (g := encStr) (fun _ => rfl) (enters_of Tryz.func158 rfl rfl) hb hg (srtS_len T) fun blk cap w hH hlt => Tryz.slices_Sort_string blk 0 cap T w hH hlt (by omega)
theorem sortS0_c {H : AHeap} : Ret Tryz.prog 158 [.slice none 0 0] H (packA []) H :=
  callT_none (enters_of Tryz.func158 rfl rfl) (fun w => Tryz.slices_Sort_string_none none 0 w) fun _ => .tuple .nil
theorem compactS_c {H : AHeap} {b z c : Nat} {s : Bool} {T : List (List UInt8)} (hb : own b = true) (hg : H.get b = some (.cells (T.map encStr) z s false)) (hn : T.length < 4000000000000000000) (hc : T.length ≤ c) (hl : (Lib.compact T).length ≤ T.length) :
    Ret Tryz.prog 159 [.slice (some ⟨b, 0, none⟩) T.length c] H (.slice (some ⟨b, 0, none⟩) (Lib.compact T).length c) (H.put b (.cells ((Lib.compact T ++ List.replicate (T.length - (Lib.compact T).length) []).map encStr) z s false)) :=
  callT_rowS (g := encStr) (fun _ => rfl) (enters_of Tryz.func159 rfl rfl) hb hg (by simp; omega) hc fun blk cap w hcap hH hlt => Tryz.slices_Compact_string blk 0 cap T w hH (by omega) hcap
theorem compactS0_c {H : AHeap} : Ret Tryz.prog 159 [.slice none 0 0] H (.slice none 0 0) H :=
  callT_none (enters_of Tryz.func159 rfl rfl) (fun w => Tryz.slices_Compact_string_empty none 0 w) fun _ => .sliceN _ _
end Go.Proofs.YtfegloadbajbhaaGreatDoor
