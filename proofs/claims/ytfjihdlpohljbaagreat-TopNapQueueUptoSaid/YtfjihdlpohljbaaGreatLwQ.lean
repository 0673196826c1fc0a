/- TopNapQueue: the contract over every input of bulk at most 1048576. -/
import Derived.Test.YtfjihdlpohljbaaGreatHkO
import Derived.Test.YtfjihdlpohljbaaGreatPrL
import Derived.Test.YtfjihdlpohljbaaGreatNqO
import Derived.Test.YtfjihdlpohljbaaGreatElJ
import Derived.Test.YtfjihdlpohljbaaGreatNqA
import Derived.Test.YtfjihdlpohljbaaGreatSxK
noncomputable section
namespace Go.Proofs.YtfjihdlpohljbaaGreat
open Go Go.Den Go.ChangeShapes Go.WideShapes Go.ChangeAt Go.RowKit Go.Deep
set_option maxRecDepth 10000
theorem nq_calls {W : World} (hB : BBok B0 W) {v0 v1 v2 : Value} (h0 : OpS W tb 2 v0) (h1 : OpS W bk 4 v1) (h2 : OpS W rq 4 v2) (hl0 : ∀ p k c, v0 = .slice p k c → k ≤ 1048576) (hl1 : ∀ p k c, v1 = .slice p k c → k ≤ 1048576) (hl2 : ∀ p k c, v2 = .slice p k c → k ≤ 1048576) :
    Calls Tryz.prog 4 ⟨[v0, v1, v2]⟩ W fun e W' => e = .returned (.bool true) ∧ Below W.heap.size W W' := by
  obtain ⟨o0, p0, c0, l0, k0, kb0⟩ := OpS.useB tb_len tb_flat h0
  obtain ⟨o1, p1, c1, l1, k1, kb1⟩ := OpS.useB bk_len bk_flat h1
  obtain ⟨o2, p2, c2, l2, k2⟩ := h2.use rq_len rq_flat
  have hB1 : BBok (extB [o0, o1, o2]) W := extB_ok hB fun k x hx => by
    match k, hx with
    | 0, hx => exact k0.blk x (by simpa using hx) _
    | 1, hx => exact k1.blk x (by simpa using hx) _
    | 2, hx => exact k2.blk x (by simpa using hx) _
  have b0 := extB_new (bs := [o0, o1, o2]) (k := 0) rfl
  have b1 := extB_new (bs := [o0, o1, o2]) (k := 1) rfl
  have b2 := extB_new (bs := [o0, o1, o2]) (k := 2) rfl
  have n0 : l0.length ≤ 1048576 := by
    obtain ⟨p', c', e⟩ := vr_len (k0.vr _ 1000 (by omega) b0)
    exact hl0 _ _ _ e
  have n1 : l1.length ≤ 1048576 := by
    obtain ⟨p', c', e⟩ := vr_len (k1.vr _ 1001 (by omega) b1)
    exact hl1 _ _ _ e
  have n2 : l2.length ≤ 1048576 := by
    obtain ⟨p', c', e⟩ := vr_len (k2.vr _ 1002 (by omega) b2)
    exact hl2 _ _ _ e
  refine calls_of_callT (nqueue_w (c := c0) (d := c1) (e := c2) (fun h hE => awake17 (glo_extB hE)) (k0.at_ _ 1000 (by omega) b0) (k0.low 1000) (kb0 _ 1000 (by omega) b0) n0 (k1.at_ _ 1001 (by omega) b1) (k1.low 1001) (k1.odd (by omega) b1) (kb1 _ 1001 (by omega) b1) (fun e => (k1.nil _ e).2) n1 (k2.at_ _ 1002 (by omega) b2) (k2.low 1002) n2) (fun u k hu => hu.1) rfl hB1 ?_
  exact .cons (k0.vr _ 1000 (by omega) b0) (.cons (k1.vr _ 1001 (by omega) b1) (.cons (k2.vr _ 1002 (by omega) b2) .nil))
theorem nq_contract (H : Type) (enc : TypeId × Value → H) (W : World) (base : Nat) (args : Array Value) (ds gs : List (DataW H)) (before : List MemPlace)
    (hval : ∀ (j : Nat) t v, Tryz.f4.params[j]? = some t → args[j]? = some v → Value.okWide Tryz.prog W .any base t v)
    (hW : DataW.Whole enc Tryz.prog Tryz.f4.params.toList Rows.topNapQueueSpec.vars false W args.toList ds gs before) (hk : Rows.uptoSmall H (ds ++ gs) = true) :
    Calls Tryz.prog 4 args W fun e W' => ∃ v, e = .returned v ∧ Rows.topNapQueueSpec.post enc Tryz.prog Tryz.f4 false true false false W args v W' := by
  have hW' := hW
  obtain ⟨p, q, hA0, hV, rfl, hfz, hnd⟩ := hW
  have hA : DataW.TrodAll enc Tryz.prog W 0 (fun _ => true) true [60, 25, 61] args.toList ds p := hA0
  obtain ⟨v0, vs0, d0, ds0, p0, q0, hargs, rfl, rfl, h0, r0⟩ := trodAll_cons hA
  obtain ⟨v1, vs1, d1, ds1, p1, q1, rfl, rfl, rfl, h1, r1⟩ := trodAll_cons r0
  obtain ⟨v2, vs2, d2, ds2, p2', q2, rfl, rfl, rfl, h2, r2⟩ := trodAll_cons r1
  obtain ⟨rfl, rfl, rfl⟩ := trodAll_nil r2
  obtain rfl : args = #[v0, v1, v2] := by cases args; simp_all
  obtain ⟨rfl, rfl⟩ := trodVars_none hV
  have hb : Rows.uptoBulkAll ([d0, d1, d2] ++ []) ≤ 1048576 := of_decide_eq_true hk
  have hb0 : Rows.uptoBulk d0 ≤ 1048576 := Nat.le_trans (bulk_part (by simp)) hb
  have hb1 : Rows.uptoBulk d1 ≤ 1048576 := Nat.le_trans (bulk_part (by simp)) hb
  have hb2 : Rows.uptoBulk d2 ≤ 1048576 := Nat.le_trans (bulk_part (by simp)) hb
  have hok0 := ok_sl undTbs (hval 0 _ v0 rfl rfl)
  have hok1 := ok_sl undBks (hval 1 _ v1 rfl rfl)
  have hok2 := ok_sl undRqs (hval 2 _ v2 rfl rfl)
  obtain ⟨f0, hf0⟩ := h0
  obtain ⟨f1, hf1⟩ := h1
  obtain ⟨f2, hf2⟩ := h2
  have hv0 : v0.cells.toList = [v0] := by
    cases v0 <;> first | rfl | (simp [Cell.okWide, Cell.ok] at hok0)
  have hv1 : v1.cells.toList = [v1] := by
    cases v1 <;> first | rfl | (simp [Cell.okWide, Cell.ok] at hok1)
  have hv2 : v2.cells.toList = [v2] := by
    cases v2 <;> first | rfl | (simp [Cell.okWide, Cell.ok] at hok2)
  rw [hv0] at hf0
  rw [hv1] at hf1
  rw [hv2] at hf2
  refine (nq_calls bb0_ok (open_tbs (fun _ => rfl) hf0 hok0) (open_bks (fun _ => rfl) hf1 hok1) (open_rqs (fun _ => rfl) hf2 hok2) (fun p k c e => ?_) (fun p k c e => ?_) (fun p k c e => ?_)).mono fun e W' ⟨he, hb⟩ => ?_
  · subst e; exact Nat.le_trans (slice_bulk undTbs hf0) hb0
  · subst e; exact Nat.le_trans (slice_bulk undBks hf1) hb1
  · subst e; exact Nat.le_trans (slice_bulk undRqs hf2) hb2
  · exact ⟨_, he, law_post (tb := 4) (by kernel_rfl) rfl (by kernel_rfl) hW' rfl hb rfl (by first | exact Tryz.underlying4 | rfl)⟩
end Go.Proofs.YtfjihdlpohljbaaGreat
/- A world in which a row's reading is met (seat of TopNapTill, TopNapQueue, TopNapUsed). -/
noncomputable section
namespace Go.Proofs.YtfjihdlpohljbaaGreat
open Go Go.Den Go.ChangeShapes Go.WideShapes Go.ChangeAt Go.RowKit
theorem own0 : ownKnob Tryz.prog.godebug = none := by kernel_rfl
noncomputable def laidWorld (os : Os) : World := World.holding Tryz.prog os ⟨#[], #[], []⟩
end Go.Proofs.YtfjihdlpohljbaaGreat
