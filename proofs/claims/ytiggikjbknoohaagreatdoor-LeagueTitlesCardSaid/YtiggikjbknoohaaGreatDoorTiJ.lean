/- LeagueTitles: the contract over every input. -/
import Derived.Test.YtiggikjbknoohaaGreatDoorElJ
import Derived.Test.YtiggikjbknoohaaGreatDoorTiI
noncomputable section
namespace Go.Proofs.YtiggikjbknoohaaGreatDoor
open Go Go.Den Go.ChangeShapes Go.WideShapes Go.ChangeAt Go.RowKit Go.Deep
set_option maxRecDepth 10000

theorem titles_calls {W : World} (hB : BBok B0 W) {v0 v1 v2 : Value} {team : Int} (h0 : OpS W i1 1 v0) (h1 : OpS W p2 2 v1) (h2 : OpS W i1 1 v2) :
    Calls Tryz.prog 12 ⟨[.agg ⟨[v0, v1]⟩, I team, v2]⟩ W fun e W' => e = .returned (.bool true) ∧ Below W.heap.size W W' := by
  obtain ⟨o0, p0, c0, l0, k0⟩ := h0.use i1_len flat_i1
  obtain ⟨o1, p1, c1, l1, k1⟩ := h1.use p2_len flat_p2
  obtain ⟨o2, p2', c2, l2, k2⟩ := h2.use i1_len flat_i1
  have hB1 : BBok (extB [o0, o1, o2]) W := extB_ok hB fun k x hx => by
    match k, hx with
    | 0, hx => exact k0.blk x (by simpa using hx) _
    | 1, hx => exact k1.blk x (by simpa using hx) _
    | 2, hx => exact k2.blk x (by simpa using hx) _
  have b0 := extB_new (bs := [o0, o1, o2]) (k := 0) rfl
  have b1 := extB_new (bs := [o0, o1, o2]) (k := 1) rfl
  have b2 := extB_new (bs := [o0, o1, o2]) (k := 2) rfl
  refine calls_of_callT (law12 (c := c0) (d := c1) (e := c2) (team := team) (fun h hE => awake17 (glo_extB hE)) (k0.at_ _ 1000 (by omega) b0) (k1.at_ _ 1001 (by omega) b1) (k2.at_ _ 1002 (by omega) b2)) (fun u k hu => hu.1) rfl hB1 ?_
  exact .cons (.agg (.cons (k0.vr _ 1000 (by omega) b0) (.cons (k1.vr _ 1001 (by omega) b1) .nil))) (.cons (.int _ _) (.cons (k2.vr _ 1002 (by omega) b2) .nil))

theorem titles_contract (H : Type) (enc : TypeId × Value → H) (W : World) (base : Nat) (args : Array Value) (ds gs : List (DataW H)) (before : List MemPlace)
    (hval : ∀ (j : Nat) t v, Tryz.f12.params[j]? = some t → args[j]? = some v → Value.okWide Tryz.prog W .any base t v)
    (hW : DataW.Whole enc Tryz.prog Tryz.f12.params.toList Rows.leagueTitlesSpec.vars false W args.toList ds gs before) (hL : laidMetH Tryz.prog Rows.leagueTitlesRow.laid W) :
    Calls Tryz.prog 12 args W fun e W' => ∃ v, e = .returned v ∧ Rows.leagueTitlesSpec.post enc Tryz.prog Tryz.f12 false true false false W args v W' := by
  have hW' := hW
  obtain ⟨p, q, hA0, hV, rfl, hfz, hnd⟩ := hW
  have hA : DataW.TrodAll enc Tryz.prog W 0 (fun _ => true) true [108, 3, 33] args.toList ds p := hA0
  obtain ⟨v0, vs0, d0, ds0, p0, q0, hargs, rfl, rfl, h0, r0⟩ := trodAll_cons hA
  obtain ⟨v1, vs1, d1, ds1, p1, q1, rfl, rfl, rfl, h1, r1⟩ := trodAll_cons r0
  obtain ⟨v2, vs2, d2, ds2, p2', q2, rfl, rfl, rfl, h2, r2⟩ := trodAll_cons r1
  obtain ⟨rfl, rfl, rfl⟩ := trodAll_nil r2
  obtain rfl : args = #[v0, v1, v2] := by cases args; simp_all
  obtain ⟨rfl, rfl⟩ := trodVars_none hV
  obtain ⟨n, rfl, rfl, rfl, _⟩ := open_int (k := .i64) (show Tryz.prog.underlying 3 = some (.int .i64) from rfl) (hval 1 3 v1 rfl rfl) h1
  obtain ⟨f0, hf0⟩ := h0
  obtain ⟨u0, u1, rfl, o0, o1⟩ := open_race (fun _ => rfl) hf0 (hval 0 _ v0 rfl rfl)
  have hok2 := ok_ints (hval 2 _ v2 rfl rfl)
  obtain ⟨f2, hf2⟩ := h2
  have hv2 : v2.cells.toList = [v2] := by
    cases v2 <;> first | rfl | (simp [Cell.okWide, Cell.ok] at hok2)
  rw [hv2] at hf2
  have o2 := open_ints (fun _ => rfl) hf2 hok2
  refine (titles_calls (bb0_ok hL) o0 o1 o2).mono fun e W' ⟨he, hb⟩ => ?_
  exact ⟨_, he, law_post (tb := 4) (by kernel_rfl) rfl (by kernel_rfl) hW' rfl hb rfl (by first | exact Tryz.underlying4 | rfl)⟩
end Go.Proofs.YtiggikjbknoohaaGreatDoor
