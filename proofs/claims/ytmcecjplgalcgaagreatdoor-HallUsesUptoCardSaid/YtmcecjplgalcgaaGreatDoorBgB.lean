/- LeagueEliminates: the contract over every input, the row's forms, the card. -/
import Derived.Test.YtmcecjplgalcgaaGreatDoorOpA
import Derived.Test.YtmcecjplgalcgaaGreatDoorHaB
import Derived.Test.YtmcecjplgalcgaaGreatDoorAwake
import Derived.Test.YtmcecjplgalcgaaGreatDoorNuF
import Derived.Test.YtmcecjplgalcgaaGreatDoorSxZ
import Derived.Test.YtmcecjplgalcgaaGreatDoorPrL
import Derived.Test.YtmcecjplgalcgaaGreatDoorHkA
noncomputable section
namespace Go.Proofs.YtmcecjplgalcgaaGreatDoor
open Go Go.Den Go.ChangeShapes Go.WideShapes Go.ChangeAt Go.RowKit Go.Deep
set_option maxRecDepth 10000
noncomputable instance : Inhabited (Int × Int) := ⟨(0, 0)⟩
theorem undInts : Tryz.prog.underlying 24 = some (.slice 3) := rfl
theorem cellsInt : Tryz.prog.cellsOf 3 = 1 := by decide +kernel
theorem i1_len (x : Int) : (i1 x).length = 1 := rfl
theorem flat_i1 (x : Int) : (i1 x).all flatC = true := rfl
section
variable {H : Type} {enc : TypeId × Value → H} {W : World} {sp : Nat → Bool} {hd : Bool} {fuel : Nat}
theorem dec_i1 {cs : List Value} {x : DataW H × List MemPlace} (h : DataW.trod enc Tryz.prog W 0 sp hd fuel 3 cs = some x) : ∃ y, cs = i1 y := trod_i64 h
theorem open_ints {b0 : Nat} {v : Value} {x : DataW H × List MemPlace} (hsp : ∀ b, sp b = true) (h : DataW.trod enc Tryz.prog W 0 sp hd fuel 24 [v] = some x) (hok : Cell.okWide Tryz.prog W .any b0 24 v) : OpS W i1 1 v :=
 open_flat (f := i1) (w := 1) (by omega) (fun _ => rfl) undInts cellsInt dec_i1 hsp h hok
end
end Go.Proofs.YtmcecjplgalcgaaGreatDoor
/- Contracts: lists of integers and of texts are sorted and compacted. -/
noncomputable section
namespace Go.Den
open Go.Sort
end Go.Den
namespace Go.Proofs.YtmcecjplgalcgaaGreatDoor
open Go Go.Den Go.Sort
set_option maxRecDepth 100000
def srtI (l : List Int) : List Int := l.mergeSort fun x y => decide (x ≤ y)
def strB (s : List UInt8) : ByteArray := ⟨s.toArray⟩
end Go.Proofs.YtmcecjplgalcgaaGreatDoor
/- Contracts: all rounds, as the program makes them. -/
noncomputable section
namespace Go.Proofs.YtmcecjplgalcgaaGreatDoor
open Go Go.Den
set_option maxRecDepth 100000
abbrev bx (vs : List Value) : ABlk := .cells vs 0 false false
end Go.Proofs.YtmcecjplgalcgaaGreatDoor
/- Contracts: the function that yields the beginnings; ends with blocks that hold old addresses. -/
noncomputable section
namespace Go.Den
def OldS (H : AHeap) (q : Option Addr) : Prop := ∀ x, q = some x → (x.block % 2 = 1 ∨ x.block < H.fresh) ∧ x.spot = none
theorem OldS.ext {H : AHeap} {q : Option Addr} (h : OldS H q) {lo : Nat} {L : List (Option ABlk)} : OldS (ext H lo L) q := fun x hx => by
 obtain ⟨h1, h2⟩ := h x hx
 refine ⟨h1.imp id fun h => ?_, h2⟩
 rw [ext_fresh]
 have := nb_ge (H := H) L.length
 omega
theorem OldS.nil {H : AHeap} : OldS H none := fun _ h => by cases h
theorem OldS.new {H : AHeap} {lo k o : Nat} {L : List (Option ABlk)} (h : k < L.length) : OldS (Go.Den.ext H lo L) (some ⟨Go.Den.nb H k, o, none⟩) := fun x hx => by
 cases hx
 refine ⟨.inr ?_, rfl⟩
 rw [ext_fresh]; simp only [Go.Den.nb]; omega
theorem OldS.ren {H : AHeap} {q : Option Addr} (h : OldS H q) {lb : List Nat} {n c d : Nat} : renV (renOf H lb) (d + 1) (.slice q n c) = some (.slice q n c) := by
 cases q with
 | none => rfl
 | some x =>
  obtain ⟨h1, h2⟩ := h x rfl
  obtain ⟨b, o, s⟩ := x
  simp only at h1 h2
  subst h2
  simp [renV, renOf_old h1]
end Go.Den
namespace Go.Proofs.YtmcecjplgalcgaaGreatDoor
open Go Go.Den
set_option maxRecDepth 100000
theorem OpU.odd {W : World} {α : Type} {f : α → List Value} {w : Nat} {v : Value} {o : Option BB} {p : Nat → Option Addr} {c : Nat} {l : List α} (h : OpU W f w v o p c l) {B : Nat → Option BB} {k : Nat} (hk : 1000 ≤ k) (hb : B k = o) {H : AHeap} : OldS H (p k) := fun x hx => by
 have h1 := h.vr B k hk hb
 have h2 := h.spot k x hx
 rw [hx] at h1
 obtain ⟨b, off, s⟩ := x
 simp only at h2
 subst h2
 refine ⟨.inl ?_, rfl⟩
 cases h1 with
 | slice hi _ =>
  unfold gaOf at hi
  split at hi
  ·assumption
  ·cases hi
end Go.Proofs.YtmcecjplgalcgaaGreatDoor
