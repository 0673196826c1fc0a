/- TopNapTill: the contract over every input of bulk at most 1048576. -/
import Derived.Test.YtfjihdlpohljbaaGreatHpB
import Derived.Test.YtfjihdlpohljbaaGreatPrL
import Derived.Test.YtfjihdlpohljbaaGreatAwake
import Derived.Test.YtfjihdlpohljbaaGreatTlA
import Derived.Test.YtfjihdlpohljbaaGreatFnL
noncomputable section
namespace Go.Proofs.YtfjihdlpohljbaaGreat
open Go Go.Den Go.ChangeShapes Go.WideShapes Go.ChangeAt Go.RowKit Go.Deep
set_option maxRecDepth 10000

theorem till_calls {W : World} (hB : BBok B0 W) {v0 v1 : Value} {dep note n : Int} (h0 : OpS W ra 3 v0) (h1 : OpS W bk 4 v1) (hl0 : ∀ p k c, v0 = .slice p k c → k ≤ 1048576) (hl1 : ∀ p k c, v1 = .slice p k c → k ≤ 1048576) :
    Calls Tryz.prog 3 ⟨[.agg ⟨[v0, I dep, I note]⟩, v1, I n]⟩ W fun e W' => e = .returned (.bool true) ∧ Below W.heap.size W W' := by
  obtain ⟨o0, p0, c0, l0, k0⟩ := h0.use ra_len ra_flat
  obtain ⟨o1, p1, c1, l1, k1⟩ := h1.use bk_len bk_flat
  have hB1 : BBok (extB [o0, o1]) W := extB_ok hB fun k x hx => by
    match k, hx with
    | 0, hx => exact k0.blk x (by simpa using hx) _
    | 1, hx => exact k1.blk x (by simpa using hx) _
  have b0 := extB_new (bs := [o0, o1]) (k := 0) rfl
  have b1 := extB_new (bs := [o0, o1]) (k := 1) rfl
  have n0 : l0.length ≤ 1048576 := by
    obtain ⟨p', c', e⟩ := vr_len (k0.vr _ 1000 (by omega) b0)
    exact hl0 _ _ _ e
  have n1 : l1.length ≤ 1048576 := by
    obtain ⟨p', c', e⟩ := vr_len (k1.vr _ 1001 (by omega) b1)
    exact hl1 _ _ _ e
  refine calls_of_callT (till_w (c := c1) (cr := c0) (dep := dep) (note := note) (n := n) (fun h hE => awake17 (glo_extB hE)) (k0.at_ _ 1000 (by omega) b0) (k0.low 1000) n0 (k1.at_ _ 1001 (by omega) b1) n1) (fun u k hu => hu.1) rfl hB1 ?_
  exact .cons (.agg (.cons (k0.vr _ 1000 (by omega) b0) (.cons (.int _ _) (.cons (.int _ _) .nil)))) (.cons (k1.vr _ 1001 (by omega) b1) (.cons (.int _ _) .nil))
theorem till_contract (H : Type) (enc : TypeId × Value → H) (W : World) (base : Nat) (args : Array Value) (ds gs : List (DataW H)) (before : List MemPlace)
    (hval : ∀ (j : Nat) t v, Tryz.f3.params[j]? = some t → args[j]? = some v → Value.okWide Tryz.prog W .any base t v)
    (hW : DataW.Whole enc Tryz.prog Tryz.f3.params.toList Rows.topNapTillSpec.vars false W args.toList ds gs before) (hk : Rows.uptoSmall H (ds ++ gs) = true) :
    Calls Tryz.prog 3 args W fun e W' => ∃ v, e = .returned v ∧ Rows.topNapTillSpec.post enc Tryz.prog Tryz.f3 false true false false W args v W' := by
  have hW' := hW
  obtain ⟨p, q, hA0, hV, rfl, hfz, hnd⟩ := hW
  have hA : DataW.TrodAll enc Tryz.prog W 0 (fun _ => true) true [24, 25, 3] args.toList ds p := hA0
  obtain ⟨v0, vs0, d0, ds0, p0, q0, hargs, rfl, rfl, h0, r0⟩ := trodAll_cons hA
  obtain ⟨v1, vs1, d1, ds1, p1, q1, rfl, rfl, rfl, h1, r1⟩ := trodAll_cons r0
  obtain ⟨v2, vs2, d2, ds2, p2', q2, rfl, rfl, rfl, h2, r2⟩ := trodAll_cons r1
  obtain ⟨rfl, rfl, rfl⟩ := trodAll_nil r2
  obtain rfl : args = #[v0, v1, v2] := by cases args; simp_all
  obtain ⟨rfl, rfl⟩ := trodVars_none hV
  have hb : Rows.uptoBulkAll ([d0, d1, d2] ++ []) ≤ 1048576 := of_decide_eq_true hk
  have hb0 : Rows.uptoBulk d0 ≤ 1048576 := Nat.le_trans (bulk_part (by simp)) hb
  have hb1 : Rows.uptoBulk d1 ≤ 1048576 := Nat.le_trans (bulk_part (by simp)) hb
  obtain ⟨n, rfl, rfl, rfl, _⟩ := open_int (k := .i64) (show Tryz.prog.underlying 3 = some (.int .i64) from rfl) (hval 2 3 v2 rfl rfl) h2
  obtain ⟨f0, hf0⟩ := h0
  obtain ⟨u, dep, note, rfl, o0, hlen⟩ := open_charge (fun _ => rfl) hf0 (hval 0 _ v0 rfl rfl)
  have hok1 := ok_sl undBks (hval 1 _ v1 rfl rfl)
  obtain ⟨f1, hf1⟩ := h1
  have hv1 : v1.cells.toList = [v1] := by
    cases v1 <;> first | rfl | (simp [Cell.okWide, Cell.ok] at hok1)
  rw [hv1] at hf1
  refine (till_calls bb0_ok (dep := dep) (note := note) (n := n) o0 (open_bks (fun _ => rfl) hf1 hok1) (fun p k c e => Nat.le_trans (hlen p k c e) hb0) (fun p k c e => ?_)).mono fun e W' ⟨he, hb⟩ => ?_
  · subst e; exact Nat.le_trans (slice_bulk undBks hf1) hb1
  · exact ⟨_, he, law_post (tb := 4) (by kernel_rfl) rfl (by kernel_rfl) hW' rfl hb rfl (by first | exact Tryz.underlying4 | rfl)⟩
end Go.Proofs.YtfjihdlpohljbaaGreat
/- A world in which a row's reading is met (seat of TopNapTill, TopNapQueue, TopNapUsed). -/
noncomputable section
namespace Go.Proofs.YtfjihdlpohljbaaGreat
open Go Go.Den Go.ChangeShapes Go.WideShapes Go.ChangeAt Go.RowKit

theorem own0 : ownKnob Tryz.prog.godebug = none := by kernel_rfl
noncomputable def laidWorld (os : Os) : World := World.holding Tryz.prog os ⟨#[], #[], []⟩
end Go.Proofs.YtfjihdlpohljbaaGreat
