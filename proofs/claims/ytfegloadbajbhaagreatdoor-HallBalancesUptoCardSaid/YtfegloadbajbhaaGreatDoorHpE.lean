/- HallBills: the law's own walk. -/
import Derived.Test.YtfegloadbajbhaaGreatDoorHpD
import Derived.Test.YtfegloadbajbhaaGreatDoorSxU
import Derived.Test.YtfegloadbajbhaaGreatDoorAwake
noncomputable section
namespace Go.Den
section
variable {P : Program} {rd : Option Nat} {nt : Nat} {ops : Array Oper} {l : EL} {ds : List Nat} {K : St → Prop} {i : Nat} {r : List Oper} {ty : TypeId} {pos : String} {af : Array Edge} {H : AHeap} {lo : Nat} {L0 : List (Option ABlk)} {ow : List Nat} {N : List ABlk}
end
end Go.Den
namespace Go.Proofs.YtfegloadbajbhaaGreatDoor
open Go Go.Den
set_option maxRecDepth 100000

theorem books_one (b : Bk) : booksE [b] = bookE b := by
  unfold booksE
  rw [if_neg (by simp)]
  by_cases h : bookE b = 0
  · rw [h]; exact restG_none fun j hj => by
      obtain rfl : j = 0 := by simpa using hj
      rw [errG_at (by simp)]; exact h
  · rw [restG_at (i := 0) (by simp) (fun j hj => by omega) (by rw [errG_at (by simp)]; exact h), errG_at (by simp)]; rfl
/-- where the own charge and booking lie -/
structure OwnB (H : AHeap) (q : Option Addr) (c : Nat) (l : List Ra) (dep note : Int) (b : Bk) (k7 k8 : Nat) (p : Option Addr) (L : List (Option ABlk)) : Prop where
  b0 : L[0]? = some (some (.cells [.slice q l.length c, I dep, I note] 0 false false))
  b1 : L[1]? = some (some (.cells (bk b) 0 false false))
  b7 : L[k7]? = some (some (.cells [.slice p l.length l.length, I dep, I note] 0 false false))
  b8 : L[k8]? = some (some (.cells (bk b) 0 false false))
  sl : ∀ L' lo, Keeps L L' → SlAt (ext H lo L') 3 ra p l
theorem OwnB.keeps {H : AHeap} {q : Option Addr} {c : Nat} {l : List Ra} {dep note : Int} {b : Bk} {k7 k8 : Nat} {p : Option Addr} {L L' : List (Option ABlk)} (h : OwnB H q c l dep note b k7 k8 p L) (k : Keeps L L') : OwnB H q c l dep note b k7 k8 p L' :=
  ⟨k _ _ h.b0, k _ _ h.b1, k _ _ h.b7, k _ _ h.b8, fun L2 lo k2 => h.sl L2 lo (k.trans k2)⟩
end Go.Proofs.YtfegloadbajbhaaGreatDoor
