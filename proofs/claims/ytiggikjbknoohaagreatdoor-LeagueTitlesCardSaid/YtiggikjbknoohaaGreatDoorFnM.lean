/- LeagueChecks: the contract over every input, the row's forms. -/
import Derived.Test.YtiggikjbknoohaaGreatDoorFnL
noncomputable section
namespace Go.Proofs.YtiggikjbknoohaaGreatDoor
open Go Go.Den Go.ChangeShapes Go.WideShapes Go.ChangeAt Go.RowKit
set_option maxRecDepth 10000

theorem checks_contract (haw0 : ∀ H, Glo B0 H → Ret Tryz.prog 17 [] H (.bool true) H) (H : Type) (enc : TypeId × Value → H) (W : World) (base : Nat) (args : Array Value) (ds gs : List (DataW H)) (before : List MemPlace)
    (hval : ∀ (j : Nat) t v, Tryz.f10.params[j]? = some t → args[j]? = some v → Value.okWide Tryz.prog W .any base t v)
    (hW : DataW.Whole enc Tryz.prog Tryz.f10.params.toList Rows.leagueChecksSpec.vars false W args.toList ds gs before) (hL : laidMetH Tryz.prog Rows.leagueChecksRow.laid W) :
    Calls Tryz.prog 10 args W fun e W' => ∃ v, e = .returned v ∧ Rows.leagueChecksSpec.post enc Tryz.prog Tryz.f10 false true false false W args v W' := by
  have hW' := hW
  obtain ⟨p, q, hA0, hV, rfl, hfz, hnd⟩ := hW
  have hA : DataW.TrodAll enc Tryz.prog W 0 (fun _ => true) true [3, 99] args.toList ds p := hA0
  obtain ⟨v0, vs0, d0, ds0, p0, q0, hargs, rfl, rfl, h0, r0⟩ := trodAll_cons hA
  obtain ⟨v1, vs1, d1, ds1, p1, q1, rfl, rfl, rfl, h1, r1⟩ := trodAll_cons r0
  obtain ⟨rfl, rfl, rfl⟩ := trodAll_nil r1
  obtain rfl : args = #[v0, v1] := by cases args; simp_all
  obtain ⟨rfl, rfl⟩ := trodVars_none hV
  obtain ⟨n, rfl, rfl, rfl, _⟩ := open_int (k := .i64) (show Tryz.prog.underlying 3 = some (.int .i64) from rfl) (hval 0 3 v0 rfl rfl) h0
  have hok := hval 1 99 v1 rfl rfl
  have hv1 : v1.cells.toList = [v1] := by
    cases v1 <;> first | rfl | (simp [Value.okWide, Cell.okWide, Cell.ok] at hok)
  obtain ⟨fuel, hf⟩ := h1
  rw [hv1] at hf
  refine (law_calls (n := n) haw0 (bb0_ok hL) hf hok).mono fun e W' ⟨he, hb⟩ => ?_
  exact ⟨_, he, law_post (tb := 4) (by kernel_rfl) rfl (by kernel_rfl) hW' rfl hb rfl (by first | exact Tryz.underlying4 | rfl)⟩
