/- LeagueMoves: the contract over every input. -/
import Derived.Test.YtiggikjbknoohaaGreatDoorPrI
import Derived.Test.YtiggikjbknoohaaGreatDoorMvA
noncomputable section
namespace Go.Proofs.YtiggikjbknoohaaGreatDoor
open Go Go.Den Go.ChangeShapes Go.WideShapes Go.ChangeAt Go.RowKit Go.Deep
set_option maxRecDepth 10000

theorem moves_calls {W : World} (hB : BBok B0 W) {v0 : Value} {k : Int} (h0 : OpS W (fun y : {u // OpI W s1 1 u} => [y.1]) 1 v0) :
    Calls Tryz.prog 8 ⟨[v0, I k]⟩ W fun e W' => e = .returned (.bool true) ∧ Below W.heap.size W W' := by
  obtain ⟨o1, os, q, c1, l1, k1⟩ := grid_useW s1_len flat_s1 Sz.mk sz (fun _ _ _ => rfl) (fun _ => rfl) h0 (k1 := 1000) (by omega)
  obtain ⟨k2, k3, k4, k5, k6, _⟩ := k1 (extB (o1 :: os)) (extB_new (k := 0) rfl) (fun i x hx => by
    rw [show 1000 + 1 + i = 1000 + (i + 1) by omega]
    exact extB_new (by simpa using hx))
  have hB1 : BBok (extB (o1 :: os)) W := extB_ok hB fun k x hx => by
    match k, hx with
    | 0, hx => exact k2 x (by simpa using hx)
    | k + 1, hx => exact k3 x (List.mem_of_getElem? (by simpa using hx))
  refine calls_of_callT (law8 (c := c1) (k := k) (fun h hE => awake17 (glo_extB hE)) ⟨k5, fun x hx => by obtain ⟨_, _, _, rfl, h⟩ := k6 x hx; exact h⟩) (fun u k hu => hu) rfl hB1 ?_
  exact .cons k4 (.cons (.int _ _) .nil)

theorem moves_contract (H : Type) (enc : TypeId × Value → H) (W : World) (base : Nat) (args : Array Value) (ds gs : List (DataW H)) (before : List MemPlace)
    (hval : ∀ (j : Nat) t v, Tryz.f8.params[j]? = some t → args[j]? = some v → Value.okWide Tryz.prog W .any base t v)
    (hW : DataW.Whole enc Tryz.prog Tryz.f8.params.toList Rows.leagueMovesSpec.vars false W args.toList ds gs before) (hL : laidMetH Tryz.prog Rows.leagueMovesRow.laid W) :
    Calls Tryz.prog 8 args W fun e W' => ∃ v, e = .returned v ∧ Rows.leagueMovesSpec.post enc Tryz.prog Tryz.f8 false true false false W args v W' := by
  have hW' := hW
  obtain ⟨p, q, hA0, hV, rfl, hfz, hnd⟩ := hW
  have hA : DataW.TrodAll enc Tryz.prog W 0 (fun _ => true) true [45, 3] args.toList ds p := hA0
  obtain ⟨v0, vs0, d0, ds0, p0, q0, hargs, rfl, rfl, h0, r0⟩ := trodAll_cons hA
  obtain ⟨v1, vs1, d1, ds1, p1, q1, rfl, rfl, rfl, h1, r1⟩ := trodAll_cons r0
  obtain ⟨rfl, rfl, rfl⟩ := trodAll_nil r1
  obtain rfl : args = #[v0, v1] := by cases args; simp_all
  obtain ⟨rfl, rfl⟩ := trodVars_none hV
  obtain ⟨n, rfl, rfl, rfl, _⟩ := open_int (k := .i64) (show Tryz.prog.underlying 3 = some (.int .i64) from rfl) (hval 1 3 v1 rfl rfl) h1
  have hok0 := ok_divs (hval 0 _ v0 rfl rfl)
  obtain ⟨f0, hf0⟩ := h0
  have hv0 : v0.cells.toList = [v0] := by
    cases v0 <;> first | rfl | (simp [Cell.okWide, Cell.ok] at hok0)
  rw [hv0] at hf0
  have o0 := open_divs (fun _ => rfl) hf0 hok0
  refine (moves_calls (bb0_ok hL) o0).mono fun e W' ⟨he, hb⟩ => ?_
  exact ⟨_, he, law_post (tb := 4) (by kernel_rfl) rfl (by kernel_rfl) hW' rfl hb rfl (by first | exact Tryz.underlying4 | rfl)⟩
end Go.Proofs.YtiggikjbknoohaaGreatDoor
