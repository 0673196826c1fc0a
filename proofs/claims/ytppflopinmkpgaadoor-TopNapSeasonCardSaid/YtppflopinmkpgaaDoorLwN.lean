/- TopNapSeason: the contract over every input. -/
import Derived.Test.YtppflopinmkpgaaDoorElJ
import Derived.Test.YtppflopinmkpgaaDoorSeB
import Derived.Test.YtppflopinmkpgaaDoorFnL
import Derived.Test.YtppflopinmkpgaaDoorTie
import Derived.Test.YtppflopinmkpgaaDoorCards
noncomputable section
namespace Go.Proofs.YtppflopinmkpgaaDoor
open Go Go.Den Go.ChangeShapes Go.WideShapes Go.ChangeAt Go.RowKit Go.Deep
set_option maxRecDepth 10000

theorem undBytes : Tryd.prog.underlying 22 = some (.slice 5) := rfl
theorem undByte : Tryd.prog.underlying 5 = some (.int .u8) := rfl
theorem cellsByte : Tryd.prog.cellsOf 5 = 1 := by decide +kernel
theorem flat_u1 (x : _root_.Fin 256) : (u1 x).all flatC = true := rfl
theorem byte_of {n : Int} (h : (Lit.int .u8 n).wf = true) : ∃ x : _root_.Fin 256, n = ((x.val : Nat) : Int) := by
  have h2 : (decide (IntKind.u8.min ≤ n) && decide (n ≤ IntKind.u8.max)) = true := h
  simp only [Bool.and_eq_true, decide_eq_true_eq] at h2
  have a : (0 : Int) ≤ n := h2.1
  have b : n ≤ 255 := h2.2
  exact ⟨⟨n.toNat, by omega⟩, by simp only; omega⟩
section
variable {H : Type} {enc : TypeId × Value → H} {W : World} {sp : Nat → Bool} {hd : Bool} {fuel : Nat}
theorem dec_u1 {cs : List Value} {x : DataW H × List MemPlace} (h : DataW.trod enc Tryd.prog W 0 sp hd fuel 5 cs = some x) : ∃ y, cs = u1 y := by
  cases fuel with
  | zero => simp [DataW.trod] at h
  | succ fuel =>
    unfold DataW.trod at h
    rw [undByte] at h
    match cs, h with
    | [.int k n], h =>
      simp only at h
      split at h
      · rename_i hk
        obtain ⟨rfl, hw⟩ := hk
        obtain ⟨y, rfl⟩ := byte_of hw
        exact ⟨y, rfl⟩
      · cases h
theorem open_bytes {b0 : Nat} {v : Value} {x : DataW H × List MemPlace} (hsp : ∀ b, sp b = true) (h : DataW.trod enc Tryd.prog W 0 sp hd fuel 22 [v] = some x) (hok : Cell.okWide Tryd.prog W .any b0 22 v) : OpS W u1 1 v :=
  haveI : Inhabited (_root_.Fin 256) := ⟨⟨0, by decide⟩⟩
  open_flat (f := u1) (w := 1) (by omega) (fun _ => rfl) undBytes cellsByte dec_u1 hsp h hok
theorem ok_bytes {b0 : Nat} {v : Value} (h : Value.okWide Tryd.prog W .any b0 22 v) : Cell.okWide Tryd.prog W .any b0 22 v := by
  unfold Value.okWide at h
  rw [undBytes] at h
  exact h
end

theorem season_calls {W : World} (hB : BBok B0 W) {v1 : Value} {n : Int} {out : _root_.Fin 256} (h1 : OpS W u1 1 v1) :
    Calls Tryd.prog 3 ⟨[I n, v1, .int .u8 ((out.val : Nat) : Int)]⟩ W fun e W' => e = .returned (.bool true) ∧ Below W.heap.size W W' := by
  obtain ⟨o1, p1, c1, l1, k1⟩ := h1.use u1_len flat_u1
  have hB1 : BBok (extB [o1]) W := extB_ok hB fun k x hx => by
    match k, hx with
    | 0, hx => exact k1.blk x (by simpa using hx) _
  have b1 := extB_new (bs := [o1]) (k := 0) rfl
  have hG : (heapOf (extB [o1])).get 1 = some (.cells cs0 0 false true) := heapOf_get (extB_old (k := 0) (x := laidBB 0 cs0) rfl)
  refine calls_of_callT (season_w (c := c1) (n := n) (out := out) (fun h hE => nap_c (glo_extB hE)) (k1.at_ _ 1000 (by omega) b1) hG) (fun u k hu => hu.1) rfl hB1 ?_
  exact .cons (.int _ _) (.cons (k1.vr _ 1000 (by omega) b1) (.cons (.int _ _) .nil))

theorem season_contract (H : Type) (enc : TypeId × Value → H) (W : World) (base : Nat) (args : Array Value) (ds gs : List (DataW H)) (before : List MemPlace)
    (hval : ∀ (j : Nat) t v, Tryd.f3.params[j]? = some t → args[j]? = some v → Value.okWide Tryd.prog W .any base t v)
    (hW : DataW.Whole enc Tryd.prog Tryd.f3.params.toList Rows.topNapSeasonSpec.vars false W args.toList ds gs before) (hL : laidMetH Tryd.prog Rows.topNapSeasonRow.laid W) :
    Calls Tryd.prog 3 args W fun e W' => ∃ v, e = .returned v ∧ Rows.topNapSeasonSpec.post enc Tryd.prog Tryd.f3 false true false false W args v W' := by
  have hW' := hW
  obtain ⟨p, q, hA0, hV, rfl, hfz, hnd⟩ := hW
  have hA : DataW.TrodAll enc Tryd.prog W 0 (fun _ => true) true [3, 22, 5] args.toList ds p := hA0
  obtain ⟨v0, vs0, d0, ds0, p0, q0, hargs, rfl, rfl, h0, r0⟩ := trodAll_cons hA
  obtain ⟨v1, vs1, d1, ds1, p1, q1, rfl, rfl, rfl, h1, r1⟩ := trodAll_cons r0
  obtain ⟨v2, vs2, d2, ds2, p2', q2, rfl, rfl, rfl, h2, r2⟩ := trodAll_cons r1
  obtain ⟨rfl, rfl, rfl⟩ := trodAll_nil r2
  obtain rfl : args = #[v0, v1, v2] := by cases args; simp_all
  obtain ⟨rfl, rfl⟩ := trodVars_none hV
  obtain ⟨n, rfl, rfl, rfl, _⟩ := open_int (k := .i64) (show Tryd.prog.underlying 3 = some (.int .i64) from rfl) (hval 0 3 v0 rfl rfl) h0
  obtain ⟨m, rfl, rfl, rfl, hm⟩ := open_int (k := .u8) undByte (hval 2 5 v2 rfl rfl) h2
  obtain ⟨out, rfl⟩ := byte_of hm
  have hok1 := ok_bytes (hval 1 _ v1 rfl rfl)
  obtain ⟨f1, hf1⟩ := h1
  have hv1 : v1.cells.toList = [v1] := by
    cases v1 <;> first | rfl | (simp [Cell.okWide, Cell.ok] at hok1)
  rw [hv1] at hf1
  have o1 := open_bytes (fun _ => rfl) hf1 hok1
  refine (season_calls (bb0_ok hL) o1).mono fun e W' ⟨he, hb⟩ => ?_
  exact ⟨_, he, law_post (tb := 4) (by kernel_rfl) rfl (by kernel_rfl) hW' rfl hb rfl (by first | exact Tryd.underlying4 | rfl)⟩
end Go.Proofs.YtppflopinmkpgaaDoor
/- The world in which a row's list is met. -/
noncomputable section
namespace Go.Proofs.YtppflopinmkpgaaDoor
open Go Go.Den Go.ChangeShapes Go.WideShapes Go.ChangeAt Go.RowKit

theorem own0 : ownKnob Tryd.prog.godebug = none := by kernel_rfl
noncomputable def putCs (cs : List Value) : Obj → Obj
  | .cells _ t frozen => .cells ⟨cs⟩ t frozen
  | o => o
noncomputable def laidWorld (os : Os) : World :=
  { World.holding Tryd.prog os ⟨#[], #[], []⟩ with heap := (World.holding Tryd.prog os ⟨#[], #[], []⟩).heap.modify 0 (putCs cs0) }

end Go.Proofs.YtppflopinmkpgaaDoor
