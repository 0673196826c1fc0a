/-
  No cell of these rows narrows 'for every input' (looked for: loops, veiled, ifaces, maps, wideKeys, modest, calm, conditions, laid).
  DERIVED. THE GIVEN ROWS OF THIS SEAT. 3 by the template 'for every input the law returns true; each argument reads behind the call as it read before'; 0 by the template 'total and deterministic' (their statements: YtfjihdlpohljbaaGreatTotals.lean).
  GIVEN WITH THE SEED: the statements are not yours to turn. If you find one false, say at which input.
  Laid BY PROGRAM, IN A SANDBOX (cutbox-rows.mjs): the forced cells as the released guide's own fill.sh prints them over the translation dfddda5c40ae117f… (all of the seat's roots in one cut). By AI agents, Wed Nov 11 2026. No macro, syntax, notation, axiom, sorry.
-/
import Derived.Test.YtfjihdlpohljbaaGreatChecked
import GoSem.Claim
import GoSem.ClaimJoined
import GoSem.ClaimMapViews
import Derived.JoinedTies
import Derived.KernelRfl
namespace Go.Proofs.YtfjihdlpohljbaaGreat
/- THE CELL 'sum', in the pinned program and in every row, IS THE sha256 OF THE DUMP (.gsa) THAT YtfjihdlpohljbaaGreatProg.lean LOADS. Nothing in Lean hashes anything: it is a label: what it is worth is what the hold of that sum in a sandbox is worth. -/
noncomputable def Tryz.pinned : Pinned := { name := "ytfjihdlpohljbaagreat", sum := "dfddda5c40ae117fdcc3b5ac736ce70e9bf4f90fe01fd960f5df7bd6d4b5409a", checked := Tryz.checked }
namespace Rows
def none {H : Type} : Left H := { results := [], args := [] }

/-- 'baulktop.TopNapTill': WHATEVER THE INPUT: true; the input reads as it did. -/
def topNapTillSpec : ChangeSpec := { name := "topNapTill", fn := fun _ => fun
  | [d1, d2, d3] => { results := [.lit (.bool true)], args := [d1, d2, d3] }
  | _ => none }
def topNapTillRow : OpenClaim := { program := "ytfjihdlpohljbaagreat", sum := "dfddda5c40ae117fdcc3b5ac736ce70e9bf4f90fe01fd960f5df7bd6d4b5409a", func := "baulk/baulktop.TopNapTill", spec := "topNapTill", unfollowed := true, recurses := true, apart := false }
def TopNapTillSaid : Prop := topNapTillRow.holds Tryz.pinned (OpenSpec.ofChange topNapTillSpec)

/-- ITS FALSE NEIGHBOUR: 'it returns false'. Refute it at one input. -/
def topNapTillWrong : ChangeSpec := { name := "topNapTill", fn := fun _ => fun
  | [d1, d2, d3] => { results := [.lit (.bool false)], args := [d1, d2, d3] }
  | _ => none }
def TopNapTillWrongFalsely : Prop := topNapTillRow.holds Tryz.pinned (OpenSpec.ofChange topNapTillWrong)

/-- 'baulktop.TopNapQueue': WHATEVER THE INPUT: true; the input reads as it did. -/
def topNapQueueSpec : ChangeSpec := { name := "topNapQueue", fn := fun _ => fun
  | [d1, d2, d3] => { results := [.lit (.bool true)], args := [d1, d2, d3] }
  | _ => none }
def topNapQueueRow : OpenClaim := { program := "ytfjihdlpohljbaagreat", sum := "dfddda5c40ae117fdcc3b5ac736ce70e9bf4f90fe01fd960f5df7bd6d4b5409a", func := "baulk/baulktop.TopNapQueue", spec := "topNapQueue", unfollowed := true, recurses := true, apart := false }
def TopNapQueueSaid : Prop := topNapQueueRow.holds Tryz.pinned (OpenSpec.ofChange topNapQueueSpec)

/-- ITS FALSE NEIGHBOUR: 'it returns false'. Refute it at one input. -/
def topNapQueueWrong : ChangeSpec := { name := "topNapQueue", fn := fun _ => fun
  | [d1, d2, d3] => { results := [.lit (.bool false)], args := [d1, d2, d3] }
  | _ => none }
def TopNapQueueWrongFalsely : Prop := topNapQueueRow.holds Tryz.pinned (OpenSpec.ofChange topNapQueueWrong)

/-- 'baulktop.TopNapUsed': WHATEVER THE INPUT: true; the input reads as it did. -/
def topNapUsedSpec : ChangeSpec := { name := "topNapUsed", fn := fun _ => fun
  | [d1, d2] => { results := [.lit (.bool true)], args := [d1, d2] }
  | _ => none }
def topNapUsedRow : OpenClaim := { program := "ytfjihdlpohljbaagreat", sum := "dfddda5c40ae117fdcc3b5ac736ce70e9bf4f90fe01fd960f5df7bd6d4b5409a", func := "baulk/baulktop.TopNapUsed", spec := "topNapUsed", unfollowed := true, recurses := true, apart := false }
def TopNapUsedSaid : Prop := topNapUsedRow.holds Tryz.pinned (OpenSpec.ofChange topNapUsedSpec)

/-- ITS FALSE NEIGHBOUR: 'it returns false'. Refute it at one input. -/
def topNapUsedWrong : ChangeSpec := { name := "topNapUsed", fn := fun _ => fun
  | [d1, d2] => { results := [.lit (.bool false)], args := [d1, d2] }
  | _ => none }
def TopNapUsedWrongFalsely : Prop := topNapUsedRow.holds Tryz.pinned (OpenSpec.ofChange topNapUsedWrong)

/- THE SECOND FORM. 'bulk': how many values and letters a reading holds, each counted each time it is reached (what is shared counts as often as it is met; a slice's spare places count too). A statement '..UptoSaid' is the law's where the arguments, and the package variables that the reading takes, are together of bulk at most 1048576: NARROWER than '..Said'. Prove '..Said' where nothing that the law and all that it calls make is longer than what came in: it says more and counts as full. Else prove '..UptoSaid'. A law counts once. -/
mutual
def uptoBulk {H : Type} : DataW H → Nat
  | .lit (.string bytes) => bytes.length + 1
  | .lit _ => 1
  | .nil => 1
  | .ptr d => uptoBulk d + 1
  | .slice elems spare => uptoBulkAll elems + uptoBulkAll spare + 1
  | .agg parts => uptoBulkAll parts + 1
  | .iface _ d => uptoBulk d + 1
  | .map entries => uptoBulkEntries entries + 1
  | .held _ => 1
def uptoBulkAll {H : Type} : List (DataW H) → Nat
  | [] => 0
  | d :: r => uptoBulk d + uptoBulkAll r
def uptoBulkEntries {H : Type} : List (Lit × DataW H) → Nat
  | [] => 0
  | x :: r => uptoBulkEntry x + uptoBulkEntries r
def uptoBulkEntry {H : Type} : Lit × DataW H → Nat
  | (.string bytes, d) => bytes.length + uptoBulk d + 1
  | (_, d) => uptoBulk d + 1
 end
def uptoSmall : (H : Type) → List (DataW H) → Bool := fun _ ds => decide (uptoBulkAll ds ≤ 1048576)
def OpenSpec.upto (s : _root_.Go.ChangeSpec) : _root_.Go.OpenSpec := { _root_.Go.OpenSpec.ofChange s with cond := some uptoSmall }

/-- 'baulktop.TopNapTill', WHERE WHAT IT READS IS OF BULK AT MOST 1048576: true; the input reads as it did. -/
def topNapTillUptoRow : OpenClaim := { program := "ytfjihdlpohljbaagreat", sum := "dfddda5c40ae117fdcc3b5ac736ce70e9bf4f90fe01fd960f5df7bd6d4b5409a", func := "baulk/baulktop.TopNapTill", spec := "topNapTill", unfollowed := true, recurses := true, apart := false, narrowed := true }
def TopNapTillUptoSaid : Prop := topNapTillUptoRow.holds Tryz.pinned (OpenSpec.upto topNapTillSpec)

/-- 'baulktop.TopNapQueue', WHERE WHAT IT READS IS OF BULK AT MOST 1048576: true; the input reads as it did. -/
def topNapQueueUptoRow : OpenClaim := { program := "ytfjihdlpohljbaagreat", sum := "dfddda5c40ae117fdcc3b5ac736ce70e9bf4f90fe01fd960f5df7bd6d4b5409a", func := "baulk/baulktop.TopNapQueue", spec := "topNapQueue", unfollowed := true, recurses := true, apart := false, narrowed := true }
def TopNapQueueUptoSaid : Prop := topNapQueueUptoRow.holds Tryz.pinned (OpenSpec.upto topNapQueueSpec)

/-- 'baulktop.TopNapUsed', WHERE WHAT IT READS IS OF BULK AT MOST 1048576: true; the input reads as it did. -/
def topNapUsedUptoRow : OpenClaim := { program := "ytfjihdlpohljbaagreat", sum := "dfddda5c40ae117fdcc3b5ac736ce70e9bf4f90fe01fd960f5df7bd6d4b5409a", func := "baulk/baulktop.TopNapUsed", spec := "topNapUsed", unfollowed := true, recurses := true, apart := false, narrowed := true }
def TopNapUsedUptoSaid : Prop := topNapUsedUptoRow.holds Tryz.pinned (OpenSpec.upto topNapUsedSpec)

end Rows
end Go.Proofs.YtfjihdlpohljbaaGreat
