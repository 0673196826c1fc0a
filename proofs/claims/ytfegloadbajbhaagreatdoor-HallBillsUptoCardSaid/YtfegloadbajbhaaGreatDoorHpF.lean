/- HallBills: the contract over every input of bulk at most 1048576. -/
import Derived.Test.YtfegloadbajbhaaGreatDoorHkO
import Derived.Test.YtfegloadbajbhaaGreatDoorHpE
noncomputable section
namespace Go.Proofs.YtfegloadbajbhaaGreatDoor
open Go Go.Den Go.ChangeShapes Go.WideShapes Go.ChangeAt Go.RowKit Go.Deep
set_option maxRecDepth 10000

theorem bills_calls {W : World} (hB : BBok B0 W) {v0 : Value} {dep note n : Int} {b : Bk} (h0 : OpS W ra 3 v0) (hlen : ∀ p k c, v0 = .slice p k c → k ≤ 1048576) :
    Calls Tryz.prog 8 ⟨[.agg ⟨[v0, I dep, I note]⟩, .agg ⟨bk b⟩, I n]⟩ W fun e W' => e = .returned (.bool true) ∧ Below W.heap.size W W' := by
  obtain ⟨o0, p0, c0, l0, k0⟩ := h0.use ra_len ra_flat
  have hB1 : BBok (extB [o0]) W := extB_ok hB fun k x hx => by
    match k, hx with
    | 0, hx => exact k0.blk x (by simpa using hx) _
  have b0 := extB_new (bs := [o0]) (k := 0) rfl
  have hl0 : l0.length ≤ 1048576 := by
    obtain ⟨p', c', e⟩ := vr_len (k0.vr _ 1000 (by omega) b0)
    exact hlen _ _ _ e
  refine calls_of_callT (bills_w (c := c0) (dep := dep) (note := note) (quarter := n) (b := b) (fun h hE => awake17 (glo_extB hE)) (k0.at_ _ 1000 (by omega) b0) (k0.low 1000) hl0) (fun u k hu => hu.1) rfl hB1 ?_
  exact .cons (.agg (.cons (k0.vr _ 1000 (by omega) b0) (.cons (.int _ _) (.cons (.int _ _) .nil)))) (.cons (.agg (.cons (.string _) (.cons (.string _) (.cons (.int _ _) (.cons (.int _ _) .nil))))) (.cons (.int _ _) .nil))
theorem bills_contract (H : Type) (enc : TypeId × Value → H) (W : World) (base : Nat) (args : Array Value) (ds gs : List (DataW H)) (before : List MemPlace)
    (hval : ∀ (j : Nat) t v, Tryz.f8.params[j]? = some t → args[j]? = some v → Value.okWide Tryz.prog W .any base t v)
    (hW : DataW.Whole enc Tryz.prog Tryz.f8.params.toList Rows.hallBillsSpec.vars false W args.toList ds gs before) (hk : Rows.uptoSmall H (ds ++ gs) = true) (hL : laidMetH Tryz.prog Rows.hallBillsUptoRow.laid W) :
    Calls Tryz.prog 8 args W fun e W' => ∃ v, e = .returned v ∧ Rows.hallBillsSpec.post enc Tryz.prog Tryz.f8 false true false false W args v W' := by
  have hW' := hW
  obtain ⟨p, q, hA0, hV, rfl, hfz, hnd⟩ := hW
  have hA : DataW.TrodAll enc Tryz.prog W 0 (fun _ => true) true [95, 59, 3] args.toList ds p := hA0
  obtain ⟨v0, vs0, d0, ds0, p0, q0, hargs, rfl, rfl, h0, r0⟩ := trodAll_cons hA
  obtain ⟨v1, vs1, d1, ds1, p1, q1, rfl, rfl, rfl, h1, r1⟩ := trodAll_cons r0
  obtain ⟨v2, vs2, d2, ds2, p2', q2, rfl, rfl, rfl, h2, r2⟩ := trodAll_cons r1
  obtain ⟨rfl, rfl, rfl⟩ := trodAll_nil r2
  obtain rfl : args = #[v0, v1, v2] := by cases args; simp_all
  obtain ⟨rfl, rfl⟩ := trodVars_none hV
  have hbulk : Rows.uptoBulk d0 ≤ 1048576 := by
    have h : Rows.uptoBulkAll _ ≤ 1048576 := of_decide_eq_true hk
    exact Nat.le_trans (bulk_part (by simp)) h
  obtain ⟨n, rfl, rfl, rfl, _⟩ := open_int (k := .i64) (show Tryz.prog.underlying 3 = some (.int .i64) from rfl) (hval 2 3 v2 rfl rfl) h2
  obtain ⟨f0, hf0⟩ := h0
  obtain ⟨u, dep, note, rfl, o0, hlen⟩ := open_charge (fun _ => rfl) hf0 (hval 0 _ v0 rfl rfl)
  obtain ⟨f1, hf1⟩ := h1
  obtain ⟨b, rfl⟩ := open_booking hf1 (hval 1 _ v1 rfl rfl)
  refine (bills_calls (bb0_ok hL) (dep := dep) (note := note) (b := b) (n := n) o0 fun p k c e => Nat.le_trans (hlen p k c e) hbulk).mono fun e W' ⟨he, hb⟩ => ?_
  exact ⟨_, he, law_post (tb := 4) (by kernel_rfl) rfl (by kernel_rfl) hW' rfl hb rfl (by first | exact Tryz.underlying4 | rfl)⟩
end Go.Proofs.YtfegloadbajbhaaGreatDoor
