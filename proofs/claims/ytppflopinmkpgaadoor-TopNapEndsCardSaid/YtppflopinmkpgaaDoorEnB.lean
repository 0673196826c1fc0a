/- TopNapEnds: the contract over every input. -/
import Derived.Test.YtppflopinmkpgaaDoorElJ
import Derived.Test.YtppflopinmkpgaaDoorEiC
import Derived.Test.YtppflopinmkpgaaDoorAwake
import Derived.Test.YtppflopinmkpgaaDoorEnA
noncomputable section
namespace Go.Proofs.YtppflopinmkpgaaDoor
open Go Go.Den Go.ChangeShapes Go.WideShapes Go.ChangeAt Go.RowKit Go.Deep
set_option maxRecDepth 10000

theorem ends_calls {W : World} (hB : BBok B0 W) {v0 v1 : Value} (h0 : OpS W i1 1 v0) (h1 : OpS W p2 2 v1) :
    Calls Tryd.prog 4 ⟨[.agg ⟨[v0, v1]⟩]⟩ W fun e W' => e = .returned (.bool true) ∧ Below W.heap.size W W' := by
  obtain ⟨o0, p0, c0, l0, k0⟩ := h0.use i1_len flat_i1
  obtain ⟨o1, p1, c1, l1, k1, x1⟩ := h1.useX p2_len flat_p2
  have hB1 : BBok (extB [o0, o1]) W := extB_ok hB fun k x hx => by
    match k, hx with
    | 0, hx => exact k0.blk x (by simpa using hx) _
    | 1, hx => exact k1.blk x (by simpa using hx) _
  have b0 := extB_new (bs := [o0, o1]) (k := 0) rfl
  have b1 := extB_new (bs := [o0, o1]) (k := 1) rfl
  refine calls_of_callT (ends_w (c := c0) (d := c1) (fun h hE => nap_c (glo_extB hE)) (k0.at_ _ 1000 (by omega) b0) (k1.at_ _ 1001 (by omega) b1)) (fun u k hu => hu.1) rfl hB1 ?_
  exact .cons (.agg (.cons (k0.vr _ 1000 (by omega) b0) (.cons (k1.vr _ 1001 (by omega) b1) .nil))) .nil

theorem ends_contract (H : Type) (enc : TypeId × Value → H) (W : World) (base : Nat) (args : Array Value) (ds gs : List (DataW H)) (before : List MemPlace)
    (hval : ∀ (j : Nat) t v, Tryd.f4.params[j]? = some t → args[j]? = some v → Value.okWide Tryd.prog W .any base t v)
    (hW : DataW.Whole enc Tryd.prog Tryd.f4.params.toList Rows.topNapEndsSpec.vars false W args.toList ds gs before) (hL : laidMetH Tryd.prog Rows.topNapEndsRow.laid W) :
    Calls Tryd.prog 4 args W fun e W' => ∃ v, e = .returned v ∧ Rows.topNapEndsSpec.post enc Tryd.prog Tryd.f4 false true false false W args v W' := by
  have hW' := hW
  obtain ⟨p, q, hA0, hV, rfl, hfz, hnd⟩ := hW
  have hA : DataW.TrodAll enc Tryd.prog W 0 (fun _ => true) true [43] args.toList ds p := hA0
  obtain ⟨v0, vs0, d0, ds0, p0, q0, hargs, rfl, rfl, h0, r0⟩ := trodAll_cons hA
  obtain ⟨rfl, rfl, rfl⟩ := trodAll_nil r0
  obtain rfl : args = #[v0] := by cases args; simp_all
  obtain ⟨rfl, rfl⟩ := trodVars_none hV
  obtain ⟨f0, hf0⟩ := h0
  obtain ⟨u0, u1, rfl, o0, o1⟩ := open_race (fun _ => rfl) hf0 (hval 0 _ v0 rfl rfl)
  refine (ends_calls (bb0_ok hL) o0 o1).mono fun e W' ⟨he, hb⟩ => ?_
  exact ⟨_, he, law_post (tb := 4) (by kernel_rfl) rfl (by kernel_rfl) hW' rfl hb rfl (by first | exact Tryd.underlying4 | rfl)⟩
end Go.Proofs.YtppflopinmkpgaaDoor
