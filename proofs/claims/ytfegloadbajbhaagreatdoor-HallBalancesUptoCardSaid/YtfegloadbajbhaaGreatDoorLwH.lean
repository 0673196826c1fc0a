/- HallBalances: the contract over every input of bulk at most 1048576. -/
import Derived.Test.YtfegloadbajbhaaGreatDoorHkO
import Derived.Test.YtfegloadbajbhaaGreatDoorPrL
import Derived.Test.YtfegloadbajbhaaGreatDoorBcE
import Derived.Test.YtfegloadbajbhaaGreatDoorFnL
import Derived.Test.YtfegloadbajbhaaGreatDoorAwake
import Derived.Test.YtfegloadbajbhaaGreatDoorTie
import Derived.Test.YtfegloadbajbhaaGreatDoorCards
noncomputable section
namespace Go.Proofs.YtfegloadbajbhaaGreatDoor
open Go Go.Den Go.ChangeShapes Go.WideShapes Go.ChangeAt Go.RowKit Go.Deep
set_option maxRecDepth 10000

theorem bals_calls {W : World} (hB : BBok B0 W) {v0 v1 : Value} {dep note : Int} {b : Bk} (h0 : OpS W po 3 v0) (h1 : OpS W ra 3 v1) (hl0 : ∀ p k c, v0 = .slice p k c → k ≤ 1048576) (hl1 : ∀ p k c, v1 = .slice p k c → k ≤ 1048576) :
    Calls Tryz.prog 14 ⟨[v0, .agg ⟨[v1, I dep, I note]⟩, .agg ⟨bk b⟩]⟩ W fun e W' => e = .returned (.bool true) ∧ Below W.heap.size W W' := by
  obtain ⟨o0, p0, c0, l0, k0⟩ := h0.use po_len po_flat
  obtain ⟨o1, p1, c1, l1, k1⟩ := h1.use ra_len ra_flat
  have hB1 : BBok (extB [o0, o1]) W := extB_ok hB fun k x hx => by
    match k, hx with
    | 0, hx => exact k0.blk x (by simpa using hx) _
    | 1, hx => exact k1.blk x (by simpa using hx) _
  have b0 := extB_new (bs := [o0, o1]) (k := 0) rfl
  have b1 := extB_new (bs := [o0, o1]) (k := 1) rfl
  have n0 : l0.length ≤ 1048576 := by
    obtain ⟨p', c', e⟩ := vr_len (k0.vr _ 1000 (by omega) b0)
    exact hl0 _ _ _ e
  have n1 : l1.length ≤ 1048576 := by
    obtain ⟨p', c', e⟩ := vr_len (k1.vr _ 1001 (by omega) b1)
    exact hl1 _ _ _ e
  refine calls_of_callT (bals_w (c := c0) (cr := c1) (dep := dep) (note := note) (b := b) (fun h hE => awake17 (glo_extB hE)) (k0.at_ _ 1000 (by omega) b0) (k0.low 1000) n0 (k1.at_ _ 1001 (by omega) b1) (k1.low 1001) n1) (fun u k hu => hu.1) rfl hB1 ?_
  exact .cons (k0.vr _ 1000 (by omega) b0) (.cons (.agg (.cons (k1.vr _ 1001 (by omega) b1) (.cons (.int _ _) (.cons (.int _ _) .nil)))) (.cons (.agg (.cons (.string _) (.cons (.string _) (.cons (.int _ _) (.cons (.int _ _) .nil))))) .nil))
theorem bals_contract (H : Type) (enc : TypeId × Value → H) (W : World) (base : Nat) (args : Array Value) (ds gs : List (DataW H)) (before : List MemPlace)
    (hval : ∀ (j : Nat) t v, Tryz.f14.params[j]? = some t → args[j]? = some v → Value.okWide Tryz.prog W .any base t v)
    (hW : DataW.Whole enc Tryz.prog Tryz.f14.params.toList Rows.hallBalancesSpec.vars false W args.toList ds gs before) (hk : Rows.uptoSmall H (ds ++ gs) = true) (hL : laidMetH Tryz.prog Rows.hallBalancesUptoRow.laid W) :
    Calls Tryz.prog 14 args W fun e W' => ∃ v, e = .returned v ∧ Rows.hallBalancesSpec.post enc Tryz.prog Tryz.f14 false true false false W args v W' := by
  have hW' := hW
  obtain ⟨p, q, hA0, hV, rfl, hfz, hnd⟩ := hW
  have hA : DataW.TrodAll enc Tryz.prog W 0 (fun _ => true) true [101, 95, 59] args.toList ds p := hA0
  obtain ⟨v0, vs0, d0, ds0, p0, q0, hargs, rfl, rfl, h0, r0⟩ := trodAll_cons hA
  obtain ⟨v1, vs1, d1, ds1, p1, q1, rfl, rfl, rfl, h1, r1⟩ := trodAll_cons r0
  obtain ⟨v2, vs2, d2, ds2, p2', q2, rfl, rfl, rfl, h2, r2⟩ := trodAll_cons r1
  obtain ⟨rfl, rfl, rfl⟩ := trodAll_nil r2
  obtain rfl : args = #[v0, v1, v2] := by cases args; simp_all
  obtain ⟨rfl, rfl⟩ := trodVars_none hV
  have hb : Rows.uptoBulkAll ([d0, d1, d2] ++ []) ≤ 1048576 := of_decide_eq_true hk
  have hb0 : Rows.uptoBulk d0 ≤ 1048576 := Nat.le_trans (bulk_part (by simp)) hb
  have hb1 : Rows.uptoBulk d1 ≤ 1048576 := Nat.le_trans (bulk_part (by simp)) hb
  have hok0 := ok_sl undPos (hval 0 _ v0 rfl rfl)
  obtain ⟨f0, hf0⟩ := h0
  have hv0 : v0.cells.toList = [v0] := by
    cases v0 <;> first | rfl | (simp [Cell.okWide, Cell.ok] at hok0)
  rw [hv0] at hf0
  obtain ⟨f1, hf1⟩ := h1
  obtain ⟨u, dep, note, rfl, o1, hlen⟩ := open_charge (fun _ => rfl) hf1 (hval 1 _ v1 rfl rfl)
  obtain ⟨f2, hf2⟩ := h2
  obtain ⟨b, rfl⟩ := open_booking hf2 (hval 2 _ v2 rfl rfl)
  refine (bals_calls (bb0_ok hL) (dep := dep) (note := note) (b := b) (open_pos (fun _ => rfl) hf0 hok0) o1 (fun p k c e => ?_) (fun p k c e => Nat.le_trans (hlen p k c e) hb1)).mono fun e W' ⟨he, hb⟩ => ?_
  · subst e; exact Nat.le_trans (slice_bulk undPos hf0) hb0
  · exact ⟨_, he, law_post (tb := 4) (by kernel_rfl) rfl (by kernel_rfl) hW' rfl hb rfl (by first | exact Tryz.underlying4 | rfl)⟩
end Go.Proofs.YtfegloadbajbhaaGreatDoor
/- The world in which a row's list is met. -/
noncomputable section
namespace Go.Proofs.YtfegloadbajbhaaGreatDoor
open Go Go.Den Go.ChangeShapes Go.WideShapes Go.ChangeAt Go.RowKit

theorem own0 : ownKnob Tryz.prog.godebug = none := by kernel_rfl
noncomputable def putCs (cs : List Value) : Obj → Obj
  | .cells _ t frozen => .cells ⟨cs⟩ t frozen
  | o => o
noncomputable def laidWorld (os : Os) : World :=
  { World.holding Tryz.prog os ⟨#[], #[], []⟩ with heap := (((World.holding Tryz.prog os ⟨#[], #[], []⟩).heap.modify 2 (putCs cs2)).modify 4 (putCs cs4)).modify 5 (putCs cs5) }

end Go.Proofs.YtfegloadbajbhaaGreatDoor
