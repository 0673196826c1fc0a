/- Contracts: plans, what is wrong with them. -/
import Derived.Test.YtfegloadbajbhaaGreatDoorElA
import Derived.Test.YtfegloadbajbhaaGreatDoorSxT
noncomputable section
namespace Go.Proofs.YtfegloadbajbhaaGreatDoor
open Go Go.Den
set_option maxRecDepth 100000

/-- the days on which a team is busy -/
structure Bz where
  p : Option Addr
  c : Nat
  l : List Int
def bz (x : Bz) : List Value := [.slice x.p x.l.length x.c]
structure BzAt (H : AHeap) (q : Option Addr) (busy : List Bz) : Prop where
  at_ : SlAt H 1 bz q busy
  each : ∀ x ∈ busy, SlAt H 1 i1 x.p x.l
theorem BzAt.ext {H H' : AHeap} {q : Option Addr} {busy : List Bz} (h : BzAt H q busy) (hE : Ext H H') : BzAt H' q busy := ⟨h.at_.ext hE, fun x hx => (h.each x hx).ext hE⟩
end Go.Proofs.YtfegloadbajbhaaGreatDoor
