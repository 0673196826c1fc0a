/- LeagueDays: the contract over every input. -/
import Derived.Test.YtiggikjbknoohaaGreatDoorPnJ
import Derived.Test.YtiggikjbknoohaaGreatDoorDyB
noncomputable section
namespace Go.Proofs.YtiggikjbknoohaaGreatDoor
open Go Go.Den Go.ChangeShapes Go.WideShapes Go.ChangeAt Go.RowKit Go.Deep
set_option maxRecDepth 10000

theorem days_calls {W : World} (hB : BBok B0 W) {v0 v1 : Value} {frm to : Int} (h0 : OpS W p2 2 v0) (h1 : OpS W (fun y : {u // OpI W i1 1 u} => [y.1]) 1 v1) :
    Calls Tryz.prog 9 ⟨[.agg ⟨[v0, v1, I frm, I to]⟩]⟩ W fun e W' => e = .returned (.bool true) ∧ Below W.heap.size W W' := by
  obtain ⟨o0, p0, c0, l0, k0⟩ := h0.use p2_len flat_p2
  obtain ⟨o1, os, q, c1, l1, k1⟩ := grid_use i1_len flat_i1 Bz.mk bz (fun _ _ _ => rfl) (fun _ => rfl) h1 (k1 := 1001) (by omega)
  have b0 := extB_new (bs := o0 :: o1 :: os) (k := 0) rfl
  obtain ⟨k2, k3, k4, k5, k6, _⟩ := k1 (extB (o0 :: o1 :: os)) (extB_new (k := 1) rfl) (fun i x hx => by
    rw [show 1001 + 1 + i = 1000 + (i + 2) by omega]
    exact extB_new (by simpa using hx))
  have hB1 : BBok (extB (o0 :: o1 :: os)) W := extB_ok hB fun k x hx => by
    match k, hx with
    | 0, hx => exact k0.blk x (by simpa using hx) _
    | 1, hx => exact k2 x (by simpa using hx)
    | k + 2, hx => exact k3 x (List.mem_of_getElem? (by simpa using hx))
  refine calls_of_callT (law9 (mc := c0) (bc := c1) (frm := frm) (to := to) (fun h hE => awake17 (glo_extB hE)) (k0.at_ _ 1000 (by omega) b0) k0.cap ⟨k5, fun x hx => by obtain ⟨_, _, _, rfl, h, _⟩ := k6 x hx; exact h⟩) (fun u k hu => hu) rfl hB1 ?_
  exact .cons (.agg (.cons (k0.vr _ 1000 (by omega) b0) (.cons k4 (.cons (.int _ _) (.cons (.int _ _) .nil))))) .nil

theorem days_contract (H : Type) (enc : TypeId × Value → H) (W : World) (base : Nat) (args : Array Value) (ds gs : List (DataW H)) (before : List MemPlace)
    (hval : ∀ (j : Nat) t v, Tryz.f9.params[j]? = some t → args[j]? = some v → Value.okWide Tryz.prog W .any base t v)
    (hW : DataW.Whole enc Tryz.prog Tryz.f9.params.toList Rows.leagueDaysSpec.vars false W args.toList ds gs before) (hL : laidMetH Tryz.prog Rows.leagueDaysRow.laid W) :
    Calls Tryz.prog 9 args W fun e W' => ∃ v, e = .returned v ∧ Rows.leagueDaysSpec.post enc Tryz.prog Tryz.f9 false true false false W args v W' := by
  have hW' := hW
  obtain ⟨p, q, hA0, hV, rfl, hfz, hnd⟩ := hW
  have hA : DataW.TrodAll enc Tryz.prog W 0 (fun _ => true) true [57] args.toList ds p := hA0
  obtain ⟨v0, vs0, d0, ds0, p0, q0, hargs, rfl, rfl, h0, r0⟩ := trodAll_cons hA
  obtain ⟨rfl, rfl, rfl⟩ := trodAll_nil r0
  obtain rfl : args = #[v0] := by cases args; simp_all
  obtain ⟨rfl, rfl⟩ := trodVars_none hV
  obtain ⟨f0, hf0⟩ := h0
  obtain ⟨u0, u1, frm, to, rfl, o0, o1⟩ := open_plan (fun _ => rfl) hf0 (hval 0 _ v0 rfl rfl)
  refine (days_calls (bb0_ok hL) o0 o1).mono fun e W' ⟨he, hb⟩ => ?_
  exact ⟨_, he, law_post (tb := 4) (by kernel_rfl) rfl (by kernel_rfl) hW' rfl hb rfl (by first | exact Tryz.underlying4 | rfl)⟩
end Go.Proofs.YtiggikjbknoohaaGreatDoor
