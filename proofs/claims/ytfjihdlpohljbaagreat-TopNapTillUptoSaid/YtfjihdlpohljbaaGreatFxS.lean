/- Contracts: lists of integers and of texts are sorted and compacted. -/
import Derived.Test.YtfjihdlpohljbaaGreatShB
import Derived.Test.YtfjihdlpohljbaaGreatSxP
import Derived.Test.YtfjihdlpohljbaaGreatPrB
import Derived.Test.YtfjihdlpohljbaaGreatFnL
import Derived.Test.YtfjihdlpohljbaaGreatSxK
import Derived.Test.YtfjihdlpohljbaaGreatTcB
import Derived.Test.YtfjihdlpohljbaaGreatSxY
import Derived.Test.YtfjihdlpohljbaaGreatHkA
noncomputable section
namespace Go.Den
open Go.Sort
/-- the library's call at a slice of no element -/
theorem callT_none {P : Program} {f : FuncId} {H : AHeap} {v : Value} (henter : ∀ args w, (callFunc f args).run P w = .ok (.enter f args) w)
    (hcall : ∀ w, Calls P f #[.slice none 0 0] w fun e w' => e = .returned v ∧ w' = w) (hv : ∀ Γ, VR Γ v v) : Ret P f [.slice none 0 0] H v H := by
  refine ⟨henter, fun Γ w args' hr _ ha => ?_⟩
  cases ha with
  | cons hv' hn =>
    cases hn
    cases hv'
    refine callsIn_wide.2 ((hcall w).mono ?_)
    rintro e2 w' ⟨rfl, rfl⟩
    exact ⟨_, _, _, Γ, rfl, ⟨rfl, rfl⟩, hr, .refl _ _ _, hv Γ⟩
end Go.Den
namespace Go.Proofs.YtfjihdlpohljbaaGreat
open Go Go.Den Go.Sort
set_option maxRecDepth 100000

/-- the sorted list -/
def srtI (l : List Int) : List Int := l.mergeSort fun x y => decide (x ≤ y)
theorem srtI_perm (l : List Int) : (srtI l).Perm l := List.mergeSort_perm ..
theorem srtI_srt (l : List Int) : (srtI l).Pairwise (· ≤ ·) := by
  have := List.pairwise_mergeSort (le := fun x y : Int => decide (x ≤ y)) (fun a b c h1 h2 => by simp at h1 h2 ⊢; omega) (fun a b => by simp; omega) l
  exact this.imp fun h => by simpa using h
/-- a text of bytes -/
def strB (s : List UInt8) : ByteArray := ⟨s.toArray⟩
def srtS (l : List (List UInt8)) : List (List UInt8) := l.mergeSort fun x y => decide (x ≤ y)
theorem srtS_perm (l : List (List UInt8)) : (srtS l).Perm l := List.mergeSort_perm ..
theorem srtS_len (l : List (List UInt8)) : (srtS l).length = l.length := (srtS_perm l).length_eq
theorem sortS_c {H : AHeap} {b z c : Nat} {s : Bool} {T : List (List UInt8)} (hb : own b = true) (hg : H.get b = some (.cells (T.map encStr) z s false)) (hn : T.length < 4000000000000000000) :
    Ret Tryz.prog 82 [.slice (some ⟨b, 0, none⟩) T.length c] H (packA []) (H.put b (.cells ((srtS T).map encStr) z s false)) :=
  callT_row (g := encStr) (fun _ => rfl) (enters_of Tryz.func82 rfl rfl) hb hg (srtS_len T) fun blk cap w hH hlt => Tryz.slices_Sort_string blk 0 cap T w hH hlt (by omega)
theorem sortS0_c {H : AHeap} : Ret Tryz.prog 82 [.slice none 0 0] H (packA []) H :=
  callT_none (enters_of Tryz.func82 rfl rfl) (fun w => Tryz.slices_Sort_string_none none 0 w) fun _ => .tuple .nil
end Go.Proofs.YtfjihdlpohljbaaGreat
/- Plain law: a list without neighbours that are alike. -/
noncomputable section
namespace Go.Proofs.YtfjihdlpohljbaaGreat
open Go Go.Den Go.Sort

theorem compact_get {α : Type} [Inhabited α] [DecidableEq α] {l : List α} {i : Nat} (h : i < l.length) : l.toArray[i]! = l[i] := by
  simp [getElem!_pos, h]
theorem compact_mem {α : Type} [Inhabited α] [DecidableEq α] {l : List α} {x : α} : x ∈ Lib.compact l ↔ x ∈ l := by
  unfold Lib.compact Lib.compactUpTo
  rw [List.mem_map]
  constructor
  · rintro ⟨i, hi, rfl⟩
    have hi := List.mem_range.1 (List.mem_filter.1 hi).1
    rw [compact_get hi]; exact List.getElem_mem hi
  · intro hx
    obtain ⟨j, hj, e⟩ := List.getElem_of_mem hx
    have key : ∀ n j (hj : j < l.length), j ≤ n → l[j] = x → ∃ a, a ∈ (List.range l.length).filter (Lib.keeps l.toArray) ∧ l.toArray[a]! = x := by
      intro n
      induction n with
      | zero =>
        intro j hj hn e
        refine ⟨j, List.mem_filter.2 ⟨List.mem_range.2 hj, Lib.keeps_lt_one _ _ (by omega)⟩, by rw [compact_get hj]; exact e⟩
      | succ n ih =>
        intro j hj hn e
        by_cases h0 : j = 0
        · exact ih j hj (by omega) e
        by_cases h1 : l[j - 1]'(by omega) = x
        · exact ih (j - 1) (by omega) (by omega) h1
        · refine ⟨j, List.mem_filter.2 ⟨List.mem_range.2 hj, Lib.keeps_pos ?_⟩, by rw [compact_get hj]; exact e⟩
          rw [compact_get hj, compact_get (by omega), e]
          exact fun h => h1 h.symm
    exact key j j hj (Nat.le_refl _) e
theorem compact_srt {α : Type} [Inhabited α] [DecidableEq α] {R : α → α → Prop} (an : ∀ a b, R a b → R b a → a = b) (rf : ∀ a, R a a) {l : List α} (h : l.Pairwise R) : (Lib.compact l).Pairwise fun a b => R a b ∧ a ≠ b := by
  unfold Lib.compact Lib.compactUpTo
  rw [List.pairwise_map]
  have h0 : ((List.range l.length).filter (Lib.keeps l.toArray)).Pairwise (· < ·) := List.Pairwise.filter _ List.pairwise_lt_range
  have get : ∀ i j (hi : i < l.length) (hj : j < l.length), i ≤ j → R l[i] l[j] := by
    intro i j hi hj hij
    rcases Nat.lt_or_ge i j with h1 | h1
    · exact List.pairwise_iff_getElem.1 h i j hi hj h1
    · obtain rfl : i = j := by omega
      exact rf _
  refine h0.imp_of_mem fun {i j} hi hj hij => ?_
  have hj1 := List.mem_range.1 (List.mem_filter.1 hj).1
  have hk := (List.mem_filter.1 hj).2
  rw [compact_get (by omega), compact_get hj1]
  refine ⟨get i j (by omega) hj1 (by omega), fun e => ?_⟩
  have e1 : l[j - 1]'(by omega) = l[j] := by
    refine an _ _ (get _ _ _ _ (by omega)) ?_
    rw [← e]
    exact get i (j - 1) (by omega) (by omega) (by omega)
  have := Lib.keeps_neg (d := l.toArray) (m := j) (by omega) (by rw [compact_get hj1, compact_get (by omega)]; exact e1.symm)
  rw [this] at hk; cases hk
end Go.Proofs.YtfjihdlpohljbaaGreat
/- Contracts: a round, as the program yields it. -/
noncomputable section
namespace Go.Proofs.YtfjihdlpohljbaaGreat
open Go Go.Den
set_option maxRecDepth 100000

theorem low_ext {h : AHeap} {lo : Nat} {M : List (Option ABlk)} : (ext h lo M).low ≤ (ext h lo M).fresh := by
  have : (ext h lo M).low = min lo h.fresh := rfl
  have : (ext h lo M).fresh = nb h M.length := ext_fresh
  have := nb_ge (H := h) M.length
  omega
end Go.Proofs.YtfjihdlpohljbaaGreat
/- Contracts: the quarters at which bookings begin, as they are yielded. -/
noncomputable section
namespace Go.Proofs.YtfjihdlpohljbaaGreat
open Go Go.Den
set_option maxRecDepth 100000

def froms (l : List Bk) (k : ByteArray) : List Int := (l.filter fun x => decide (x.kind = k)).map (·.frm)
/-- where bookings of a kind begin -/
def begL (l : List Bk) (k : ByteArray) : List Int := Lib.compact (srtI (froms l k))
def begP (l : List Bk) (k : ByteArray) : List (Int × Int) := (begL l k).map fun q => (q, (cntD l k q : Int))
end Go.Proofs.YtfjihdlpohljbaaGreat
/- Contracts: all rounds, as the program makes them. -/
noncomputable section
namespace Go.Proofs.YtfjihdlpohljbaaGreat
open Go Go.Den
set_option maxRecDepth 100000

theorem Lst.setL {α : Type} {H : AHeap} {L : List (Option ABlk)} {m : Nat} {f : α → List Value} {l : List α} {k0 K : Nat} {v : Value} {x : Option ABlk} {y : ABlk} (h : Lst H L m f k0 v l) (hK : L[K]? = some (some y)) (hy : ∀ cs, y ≠ .cells cs m true false) : Lst H (L.set K x) m f k0 v l := by
  rcases h.out with ⟨rfl, rfl⟩ | ⟨hne, k, h1, rfl, h2⟩
  · exact ⟨.inl ⟨rfl, rfl⟩⟩
  · refine ⟨.inr ⟨hne, k, h1, rfl, ?_⟩⟩
    rw [List.getElem?_set_ne (fun e => ?_)]
    · exact h2
    · subst e
      rw [h2, Option.some.injEq, Option.some.injEq] at hK
      exact hy _ hK.symm
abbrev bx (vs : List Value) : ABlk := .cells vs 0 false false
end Go.Proofs.YtfjihdlpohljbaaGreat
