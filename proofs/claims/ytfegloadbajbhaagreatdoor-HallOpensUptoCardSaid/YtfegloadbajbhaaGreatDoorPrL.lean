/- LeagueCounts: the contract over every input of bulk at most 1048576. -/
import Derived.Test.YtfegloadbajbhaaGreatDoorStA
import Derived.Test.YtfegloadbajbhaaGreatDoorTcJ
import Derived.Test.YtfegloadbajbhaaGreatDoorElI
import Derived.Lib.SmallJoins
import Derived.Test.YtfegloadbajbhaaGreatDoorRows
import Derived.Test.YtfegloadbajbhaaGreatDoorSxX
import Derived.Test.YtfegloadbajbhaaGreatDoorSxM
import Derived.Test.YtfegloadbajbhaaGreatDoorFnL
import Derived.Test.YtfegloadbajbhaaGreatDoorSxQ
import Derived.Test.YtfegloadbajbhaaGreatDoorSxZ
import Derived.Test.YtfegloadbajbhaaGreatDoorSxU
import Derived.Test.YtfegloadbajbhaaGreatDoorAwake
noncomputable section
namespace Go.Proofs.YtfegloadbajbhaaGreatDoor
open Go Go.Den Go.ChangeShapes Go.WideShapes Go.ChangeAt Go.RowKit Go.Deep
set_option maxRecDepth 10000

noncomputable instance : Inhabited Ma := ⟨⟨0, 0, 0, 0, ByteArray.empty⟩⟩
theorem undTx : Tryz.prog.underlying 9 = some .string := rfl
theorem cellsTx : Tryz.prog.cellsOf 9 = 1 := by decide +kernel
theorem bulk_part {H : Type} {d : DataW H} {l : List (DataW H)} (h : d ∈ l) : Rows.uptoBulk d ≤ Rows.uptoBulkAll l := by
  induction l with
  | nil => cases h
  | cons x r ih =>
    simp only [Rows.uptoBulkAll]
    rcases List.mem_cons.1 h with e | e
    · subst e; omega
    · have := ih e; omega
theorem bulk_one {H : Type} (d : DataW H) : 1 ≤ Rows.uptoBulk d := by
  cases d with
  | lit l => cases l <;> simp [Rows.uptoBulk]
  | nil => simp [Rows.uptoBulk]
  | ptr d => simp [Rows.uptoBulk]
  | slice elems spare => simp [Rows.uptoBulk]
  | agg parts => simp [Rows.uptoBulk]
  | iface t d => simp [Rows.uptoBulk]
  | map entries => simp [Rows.uptoBulk]
  | held h => simp [Rows.uptoBulk]
theorem bulk_len {H : Type} (l : List (DataW H)) : l.length ≤ Rows.uptoBulkAll l := by
  induction l with
  | nil => simp [Rows.uptoBulkAll]
  | cons x r ih => have := bulk_one x; simp only [Rows.uptoBulkAll, List.length_cons]; omega
theorem bulk_slice {H : Type} (d : DataW H) : Go.Joins.sliceLen d ≤ Rows.uptoBulk d := by
  cases d with
  | slice elems spare =>
    have := bulk_len elems
    simp only [Go.Joins.sliceLen, Rows.uptoBulk]; omega
  | _ => simp [Go.Joins.sliceLen]
theorem vr_len {Γ : Ga} {p : Option Addr} {n c : Nat} {v : Value} (h : VR Γ (.slice p n c) v) : ∃ p' c', v = .slice p' n c' := by
  cases h <;> exact ⟨_, _, rfl⟩
section
variable {H : Type} {enc : TypeId × Value → H} {W : World} {sp : Nat → Bool} {hd : Bool} {fuel : Nat}
end

end Go.Proofs.YtfegloadbajbhaaGreatDoor
/- HallPrices: the contract over every input of bulk at most 1048576. -/
noncomputable section
namespace Go.Proofs.YtfegloadbajbhaaGreatDoor
open Go Go.Den Go.ChangeShapes Go.WideShapes Go.ChangeAt Go.RowKit Go.Deep
set_option maxRecDepth 10000

theorem slice_bulk {H : Type} {enc : TypeId × Value → H} {W : World} {sp : Nat → Bool} {hd : Bool} {fuel : Nat} {t e : TypeId} {p : Option Addr} {k c : Nat} {x : DataW H × List MemPlace} (hu : Tryz.prog.underlying t = some (.slice e)) (h : DataW.trod enc Tryz.prog W 0 sp hd fuel t [.slice p k c] = some x) : k ≤ Rows.uptoBulk x.1 := by
  have q1 := Go.Joins.sliceLen_trod (d := x.1) (ps := x.2) hu h
  have q2 := bulk_slice x.1
  omega
end Go.Proofs.YtfegloadbajbhaaGreatDoor
/- LeaguePromotions: the plain functions. -/
noncomputable section
namespace Go.Proofs.YtfegloadbajbhaaGreatDoor
open Go Go.Den
set_option maxRecDepth 100000

def alphaI (c : Int) : Bool := (decide (c ≥ 97) && decide (c ≤ 122)) || (decide (c ≥ 65) && decide (c ≤ 90))
def nameC (i : Nat) (c : Int) : Bool := alphaI c || (decide (i ≠ 0) && ((decide (c ≥ 48) && decide (c ≤ 57)) || c == 95))
def nameB (s : ByteArray) : Bool := (decide (1 ≤ s.size) && decide (s.size ≤ 24)) && (List.range s.size).all fun i => nameC i (byteI s i)
theorem nameB_bad {s : ByteArray} {i : Nat} (hi : i < s.size) (h : nameC i (byteI s i) = false) : nameB s = false := by
  unfold nameB
  have : ((List.range s.size).all fun i => nameC i (byteI s i)) = false := by
    rw [List.all_eq_false]
    exact ⟨i, List.mem_range.2 hi, by rw [h]; simp⟩
  rw [this, Bool.and_false]
theorem nameB_all {s : ByteArray} (h : ∀ i, i < s.size → nameC i (byteI s i) = true) : nameB s = (decide (1 ≤ s.size) && decide (s.size ≤ 24)) := by
  unfold nameB
  have : ((List.range s.size).all fun i => nameC i (byteI s i)) = true := by
    rw [List.all_eq_true]
    exact fun i hi => h i (List.mem_range.1 hi)
  rw [this, Bool.and_true]
theorem nameC_high {i : Nat} {c : Int} (h : 128 ≤ c) : nameC i c = false := by
  have h1 : decide (c ≤ 122) = false := by simp; omega
  have h2 : decide (c ≤ 90) = false := by simp; omega
  have h3 : decide (c ≤ 57) = false := by simp; omega
  have h4 : (c == 95) = false := by simp; omega
  simp [nameC, alphaI, h1, h2, h3, h4]

end Go.Proofs.YtfegloadbajbhaaGreatDoor
