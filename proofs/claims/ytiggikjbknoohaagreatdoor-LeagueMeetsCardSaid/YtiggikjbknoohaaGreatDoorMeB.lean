/- LeagueMeets: the contract over every input. -/
import Derived.Test.YtiggikjbknoohaaGreatDoorMeA
import Derived.Test.YtiggikjbknoohaaGreatDoorAwake
import Derived.Test.YtiggikjbknoohaaGreatDoorElJ
noncomputable section
namespace Go.Proofs.YtiggikjbknoohaaGreatDoor
open Go Go.Den Go.ChangeShapes Go.WideShapes Go.ChangeAt Go.RowKit Go.Deep
set_option maxRecDepth 10000

theorem meets_calls {W : World} (hB : BBok B0 W) {n left : Int} :
    Calls Tryz.prog 15 ⟨[I n, I left]⟩ W fun e W' => e = .returned (.bool true) ∧ Below W.heap.size W W' := by
  refine calls_of_callT (law15 (H := heapOf B0) (n := n) (left := left) (fun h hE => awake17 (glo_ext (fun _ _ h => h) hE))) (fun u k hu => hu.1) rfl hB ?_
  exact .cons (.int _ _) (.cons (.int _ _) .nil)
theorem meets_contract (H : Type) (enc : TypeId × Value → H) (W : World) (base : Nat) (args : Array Value) (ds gs : List (DataW H)) (before : List MemPlace)
    (hval : ∀ (j : Nat) t v, Tryz.f15.params[j]? = some t → args[j]? = some v → Value.okWide Tryz.prog W .any base t v)
    (hW : DataW.Whole enc Tryz.prog Tryz.f15.params.toList Rows.leagueMeetsSpec.vars false W args.toList ds gs before) (hL : laidMetH Tryz.prog Rows.leagueMeetsRow.laid W) :
    Calls Tryz.prog 15 args W fun e W' => ∃ v, e = .returned v ∧ Rows.leagueMeetsSpec.post enc Tryz.prog Tryz.f15 false true false false W args v W' := by
  have hW' := hW
  obtain ⟨p, q, hA0, hV, rfl, hfz, hnd⟩ := hW
  have hA : DataW.TrodAll enc Tryz.prog W 0 (fun _ => true) true [3, 3] args.toList ds p := hA0
  obtain ⟨v0, vs0, d0, ds0, p0, q0, hargs, rfl, rfl, h0, r0⟩ := trodAll_cons hA
  obtain ⟨v1, vs1, d1, ds1, p1, q1, rfl, rfl, rfl, h1, r1⟩ := trodAll_cons r0
  obtain ⟨rfl, rfl, rfl⟩ := trodAll_nil r1
  obtain rfl : args = #[v0, v1] := by cases args; simp_all
  obtain ⟨rfl, rfl⟩ := trodVars_none hV
  obtain ⟨n, rfl, rfl, rfl, _⟩ := open_int (k := .i64) (show Tryz.prog.underlying 3 = some (.int .i64) from rfl) (hval 0 3 v0 rfl rfl) h0
  obtain ⟨left, rfl, rfl, rfl, _⟩ := open_int (k := .i64) (show Tryz.prog.underlying 3 = some (.int .i64) from rfl) (hval 1 3 v1 rfl rfl) h1
  refine (meets_calls (bb0_ok hL) (n := n) (left := left)).mono fun e W' ⟨he, hb⟩ => ?_
  exact ⟨_, he, law_post (tb := 4) (by kernel_rfl) rfl (by kernel_rfl) hW' rfl hb rfl (by first | exact Tryz.underlying4 | rfl)⟩
end Go.Proofs.YtiggikjbknoohaaGreatDoor
