/- HallUses: the contract over every input of bulk at most 1048576. -/
import Derived.Test.YtmcecjplgalcgaaGreatDoorUtB
import Derived.Test.YtmcecjplgalcgaaGreatDoorHkO
import Derived.Test.YtmcecjplgalcgaaGreatDoorAwake
import Derived.Test.YtmcecjplgalcgaaGreatDoorSxK
import Derived.Test.YtmcecjplgalcgaaGreatDoorTie
import Derived.Test.YtmcecjplgalcgaaGreatDoorCards
noncomputable section
namespace Go.Proofs.YtmcecjplgalcgaaGreatDoor
open Go Go.Den Go.ChangeShapes Go.WideShapes Go.ChangeAt Go.RowKit Go.Deep
set_option maxRecDepth 10000
theorem undLet : ∃ f0 f1 f2 : Field, Tryz.prog.underlying 26 = some (.struct #[f0, f1, f2]) ∧ (f0.type = 23 ∧ f0.offset = 0) ∧ (f1.type = 24 ∧ f1.offset = 1) ∧ (f2.type = 3 ∧ f2.offset = 2) := ⟨_, _, _, rfl, ⟨rfl, rfl⟩, ⟨rfl, rfl⟩, ⟨rfl, rfl⟩⟩
theorem undMk : ∃ f0 f1 : Field, Tryz.prog.underlying 30 = some (.struct #[f0, f1]) ∧ (f0.type = 28 ∧ f0.offset = 0) ∧ (f1.type = 3 ∧ f1.offset = 2) := ⟨_, _, rfl, ⟨rfl, rfl⟩, ⟨rfl, rfl⟩⟩
theorem undPt : ∃ f0 f1 : Field, Tryz.prog.underlying 28 = some (.struct #[f0, f1]) ∧ (f0.type = 3 ∧ f0.offset = 0) ∧ (f1.type = 3 ∧ f1.offset = 1) := ⟨_, _, rfl, ⟨rfl, rfl⟩, ⟨rfl, rfl⟩⟩
theorem undM9 : Tryz.prog.underlying 31 = some (.array 3 30) := rfl
theorem cellsLet : Tryz.prog.cellsOf 26 = 3 := by decide +kernel
theorem cellsBks : Tryz.prog.cellsOf 23 = 1 := by decide +kernel
theorem cellsIns : Tryz.prog.cellsOf 24 = 1 := by decide +kernel
theorem cellsMk : Tryz.prog.cellsOf 30 = 3 := by decide +kernel
theorem cellsPt : Tryz.prog.cellsOf 28 = 2 := by decide +kernel
theorem cellsM9 : Tryz.prog.cellsOf 31 = 9 := by decide +kernel
theorem rowLet : Tryz.prog.cellTypes Tryz.prog.depth 26 = some [23, 24, 3] := by decide +kernel
section
variable {H : Type} {enc : TypeId × Value → H} {W : World} {sp : Nat → Bool} {hd : Bool} {fuel : Nat}
theorem dec_pt {cs : List Value} {x : DataW H × List MemPlace} (h : DataW.trod enc Tryz.prog W 0 sp hd fuel 28 cs = some x) : ∃ a b, cs = [I a, I b] := by
 obtain ⟨f0, f1, hu, ⟨a0, b0⟩, ⟨a1, b1⟩⟩ := undPt
 obtain ⟨xs, n, _, _, hl, hlen, hf⟩ := DataW.trod_struct hu h
 rw [cellsPt] at hl
 obtain ⟨u0, u1, rfl⟩ := lst2 hl
 obtain ⟨y0, y1, rfl⟩ := lst2 (by simpa using hlen)
 have h0 := hf 0 f0 rfl
 have h1 := hf 1 f1 rfl
 rw [a0, b0, cellsInt] at h0
 rw [a1, b1, cellsInt] at h1
 obtain ⟨n0, e0⟩ := trod_i64 (by simpa using h0)
 obtain ⟨n1, e1⟩ := trod_i64 (by simpa using h1)
 simp at e0 e1
 subst e0; subst e1
 exact ⟨n0, n1, rfl⟩
theorem dec_mk {cs : List Value} {x : DataW H × List MemPlace} (h : DataW.trod enc Tryz.prog W 0 sp hd fuel 30 cs = some x) : ∃ m, cs = mk m := by
 obtain ⟨f0, f1, hu, ⟨a0, b0⟩, ⟨a1, b1⟩⟩ := undMk
 obtain ⟨xs, n, _, _, hl, hlen, hf⟩ := DataW.trod_struct hu h
 rw [cellsMk] at hl
 obtain ⟨u0, u1, u2, rfl⟩ := lst3 hl
 obtain ⟨y0, y1, rfl⟩ := lst2 (by simpa using hlen)
 have h0 := hf 0 f0 rfl
 have h1 := hf 1 f1 rfl
 rw [a0, b0, cellsPt] at h0
 rw [a1, b1, cellsInt] at h1
 obtain ⟨n0, n1, e0⟩ := dec_pt (by simpa using h0)
 obtain ⟨n2, e2⟩ := trod_i64 (by simpa using h1)
 simp at e0 e2
 obtain ⟨rfl, rfl⟩ := e0
 subst e2
 exact ⟨⟨n0, n1, n2⟩, rfl⟩
theorem dec_m9 {cs : List Value} {x : DataW H × List MemPlace} (h : DataW.trod enc Tryz.prog W 0 sp hd fuel 31 cs = some x) : ∃ a b c, cs = m9 a b c := by
 obtain ⟨xs, n, _, _, hl, hlen, hf⟩ := DataW.trod_array undM9 h
 rw [cellsM9] at hl
 rw [cellsMk] at hf
 obtain ⟨y0, y1, y2, rfl⟩ := lst3 hlen
 match cs, hl with
 | [u0, u1, u2, u3, u4, u5, u6, u7, u8], _ =>
  obtain ⟨a, e0⟩ := dec_mk (hf 0 (by omega))
  obtain ⟨b, e1⟩ := dec_mk (hf 1 (by omega))
  obtain ⟨c, e2⟩ := dec_mk (hf 2 (by omega))
  simp at e0 e1 e2
  obtain ⟨rfl, rfl, rfl⟩ := e0
  obtain ⟨rfl, rfl, rfl⟩ := e1
  obtain ⟨rfl, rfl, rfl⟩ := e2
  exact ⟨a, b, c, rfl⟩
theorem open_let {b0 : Nat} {v : Value} {x : DataW H × List MemPlace} (hsp : ∀ b, sp b = true)
  (h : DataW.trod enc Tryz.prog W 0 sp hd fuel 26 v.cells.toList = some x) (hok : Value.okWide Tryz.prog W .any b0 26 v) :
  ∃ v0 v1 a, v = .agg ⟨[v0, v1, I a]⟩ ∧ OpS W bk 4 v0 ∧ OpS W i1 1 v1 ∧ (∀ p k c, v0 = .slice p k c → k ≤ Rows.uptoBulk x.1) ∧ ∀ p k c, v1 = .slice p k c → k ≤ Rows.uptoBulk x.1 := by
 obtain ⟨f0, f1, f2, hu, ⟨a0, b0'⟩, ⟨a1, b1'⟩, ⟨a2, b2'⟩⟩ := undLet
 unfold Value.okWide at hok
 rw [hu] at hok
 simp only at hok
 obtain ⟨cs, rfl, hsz, ts, hts, _, hrow⟩ := hok
 rw [rowLet] at hts
 cases hts
 rw [cellsLet] at hsz
 obtain ⟨l⟩ := cs
 obtain ⟨v0, v1, u2, rfl⟩ := lst3 (by simpa using hsz)
 obtain ⟨t1, e1, r1⟩ := hrow 0 v0 rfl
 cases e1
 obtain ⟨t2, e2, r2⟩ := hrow 1 v1 rfl
 cases e2
 obtain ⟨y0, y1, y2, n, hx, hl, h0, h1, h2⟩ := trod_struct3 hu h
 rw [a0, b0', cellsBks] at h0
 rw [a1, b1', cellsIns] at h1
 rw [a2, b2', cellsInt] at h2
 obtain ⟨n2, e2⟩ := trod_i64 (by simpa [Value.cells] using h2)
 simp at e2
 subst e2
 have h0' : DataW.trod enc Tryz.prog W 0 sp hd n 23 [v0] = some y0 := by simpa [Value.cells] using h0
 have h1' : DataW.trod enc Tryz.prog W 0 sp hd n 24 [v1] = some y1 := by simpa [Value.cells] using h1
 refine ⟨v0, v1, n2, rfl, open_bks hsp h0' r1, open_ints hsp h1' r2, fun p k c e => ?_, fun p k c e => ?_⟩
 ·subst e
  have q1 := slice_bulk undBks h0'
  have q3 := bulk_part (d := y0.1) (l := [y0.1, y1.1, y2.1]) (by simp)
  rw [hx]
  simp only [Rows.uptoBulk]
  omega
 ·subst e
  have q1 := slice_bulk undInts h1'
  have q3 := bulk_part (d := y1.1) (l := [y0.1, y1.1, y2.1]) (by simp)
  rw [hx]
  simp only [Rows.uptoBulk]
  omega
end
theorem uses_calls {W : World} (hB : BBok B0 W) {v0 v1 v2 : Value} {lim : Int} {ma mb mc : Mk} (h0 : OpS W tb 2 v0) (h1 : OpS W bk 4 v1) (h2 : OpS W i1 1 v2) (hl0 : ∀ p k c, v0 = .slice p k c → k ≤ 1048576) (hl1 : ∀ p k c, v1 = .slice p k c → k ≤ 1048576) (hl2 : ∀ p k c, v2 = .slice p k c → k ≤ 1048576) :
  Calls Tryz.prog 3 ⟨[v0, .agg ⟨[v1, v2, I lim]⟩, .agg ⟨m9 ma mb mc⟩]⟩ W fun e W' => e = .returned (.bool true) ∧ Below W.heap.size W W' := by
 obtain ⟨o0, p0, c0, l0, k0⟩ := h0.use tb_len tb_flat
 obtain ⟨o1, p1, c1, l1, k1⟩ := h1.use bk_len bk_flat
 obtain ⟨o2, p2, c2, l2, k2⟩ := h2.use i1_len flat_i1
 have hB1 : BBok (extB [o0, o1, o2]) W := extB_ok hB fun k x hx => by
  match k, hx with
  | 0, hx => exact k0.blk x (by simpa using hx) _
  | 1, hx => exact k1.blk x (by simpa using hx) _
  | 2, hx => exact k2.blk x (by simpa using hx) _
 have b0 := extB_new (bs := [o0, o1, o2]) (k := 0) rfl
 have b1 := extB_new (bs := [o0, o1, o2]) (k := 1) rfl
 have b2 := extB_new (bs := [o0, o1, o2]) (k := 2) rfl
 have n0 : l0.length ≤ 1048576 := by
  obtain ⟨p', c', e⟩ := vr_len (k0.vr _ 1000 (by omega) b0)
  exact hl0 _ _ _ e
 have n1 : l1.length ≤ 1048576 := by
  obtain ⟨p', c', e⟩ := vr_len (k1.vr _ 1001 (by omega) b1)
  exact hl1 _ _ _ e
 have n2 : l2.length ≤ 1048576 := by
  obtain ⟨p', c', e⟩ := vr_len (k2.vr _ 1002 (by omega) b2)
  exact hl2 _ _ _ e
 refine calls_of_callT (uses_w (c := c0) (d := c1) (g := c2) (lim := lim) (ma := ma) (mb := mb) (mc := mc) (fun h hE => awake17 (glo_extB hE)) (glo_extB fun _ _ h => h) (k0.at_ _ 1000 (by omega) b0) (k0.low 1000) n0 (k1.at_ _ 1001 (by omega) b1) (k1.low 1001) (k1.odd (by omega) b1) n1 (k2.at_ _ 1002 (by omega) b2) n2) (fun u k hu => hu.1) rfl hB1 ?_
 exact .cons (k0.vr _ 1000 (by omega) b0) (.cons (.agg (.cons (k1.vr _ 1001 (by omega) b1) (.cons (k2.vr _ 1002 (by omega) b2) (.cons (.int _ _) .nil)))) (.cons (.agg (.cons (.int _ _) (.cons (.int _ _) (.cons (.int _ _) (.cons (.int _ _) (.cons (.int _ _) (.cons (.int _ _) (.cons (.int _ _) (.cons (.int _ _) (.cons (.int _ _) .nil)))))))))) .nil))
theorem uses_contract (H : Type) (enc : TypeId × Value → H) (W : World) (base : Nat) (args : Array Value) (ds gs : List (DataW H)) (before : List MemPlace)
  (hval : ∀ (j : Nat) t v, Tryz.f3.params[j]? = some t → args[j]? = some v → Value.okWide Tryz.prog W .any base t v)
  (hW : DataW.Whole enc Tryz.prog Tryz.f3.params.toList Rows.hallUsesSpec.vars false W args.toList ds gs before) (hk : Rows.uptoSmall H (ds ++ gs) = true) (hL : laidMetH Tryz.prog Rows.hallUsesUptoRow.laid W) :
  Calls Tryz.prog 3 args W fun e W' => ∃ v, e = .returned v ∧ Rows.hallUsesSpec.post enc Tryz.prog Tryz.f3 false true false false W args v W' := by
 have hW' := hW
 obtain ⟨p, q, hA0, hV, rfl, hfz, hnd⟩ := hW
 have hA : DataW.TrodAll enc Tryz.prog W 0 (fun _ => true) true [22, 26, 31] args.toList ds p := hA0
 obtain ⟨v0, vs0, d0, ds0, p0, q0, hargs, rfl, rfl, h0, r0⟩ := trodAll_cons hA
 obtain ⟨v1, vs1, d1, ds1, p1, q1, rfl, rfl, rfl, h1, r1⟩ := trodAll_cons r0
 obtain ⟨v2, vs2, d2, ds2, p2', q2, rfl, rfl, rfl, h2, r2⟩ := trodAll_cons r1
 obtain ⟨rfl, rfl, rfl⟩ := trodAll_nil r2
 obtain rfl : args = #[v0, v1, v2] := by cases args; simp_all
 obtain ⟨rfl, rfl⟩ := trodVars_none hV
 have hb : Rows.uptoBulkAll ([d0, d1, d2] ++ []) ≤ 1048576 := of_decide_eq_true hk
 have hb0 : Rows.uptoBulk d0 ≤ 1048576 := Nat.le_trans (bulk_part (by simp)) hb
 have hb1 : Rows.uptoBulk d1 ≤ 1048576 := Nat.le_trans (bulk_part (by simp)) hb
 have hok0 := ok_sl undTbs (hval 0 _ v0 rfl rfl)
 have hok2 : Value.okWide Tryz.prog W .any base 31 v2 := hval 2 _ v2 rfl rfl
 unfold Value.okWide at hok2
 rw [undM9] at hok2
 simp only at hok2
 obtain ⟨cs, rfl, hsz, _⟩ := hok2
 obtain ⟨f0, hf0⟩ := h0
 obtain ⟨f1, hf1⟩ := h1
 obtain ⟨f2, hf2⟩ := h2
 obtain ⟨ma, mb, mc, e2⟩ := dec_m9 hf2
 obtain ⟨cl⟩ := cs
 simp only [Value.cells] at e2
 subst e2
 obtain ⟨u0, u1, lim, rfl, o1, o2, hlen1, hlen2⟩ := open_let (fun _ => rfl) hf1 (hval 1 _ v1 rfl rfl)
 have hv0 : v0.cells.toList = [v0] := by
  cases v0 <;> first | rfl | (simp [Cell.okWide, Cell.ok] at hok0)
 rw [hv0] at hf0
 refine (uses_calls (bb0_ok hL) (open_tbs (fun _ => rfl) hf0 hok0) o1 o2 (fun p k c e => ?_) (fun p k c e => Nat.le_trans (hlen1 p k c e) hb1) (fun p k c e => Nat.le_trans (hlen2 p k c e) hb1)).mono fun e W' ⟨he, hb⟩ => ?_
 ·subst e; exact Nat.le_trans (slice_bulk undTbs hf0) hb0
 ·exact ⟨_, he, law_post (tb := 4) (by kernel_rfl) rfl (by kernel_rfl) hW' rfl hb rfl (by first | exact Tryz.underlying4 | rfl)⟩
end Go.Proofs.YtmcecjplgalcgaaGreatDoor
/- The world in which a row's list is met. -/
noncomputable section
namespace Go.Proofs.YtmcecjplgalcgaaGreatDoor
open Go Go.Den Go.ChangeShapes Go.WideShapes Go.ChangeAt Go.RowKit
theorem own0 : ownKnob Tryz.prog.godebug = none := by kernel_rfl
noncomputable def putCs (cs : List Value) : Obj → Obj
 | .cells _ t frozen => .cells ⟨cs⟩ t frozen
 | o => o
noncomputable def laidWorld (os : Os) : World :=
 { World.holding Tryz.prog os ⟨#[], #[], []⟩ with heap := (((World.holding Tryz.prog os ⟨#[], #[], []⟩).heap.modify 2 (putCs cs2)).modify 4 (putCs cs4)).modify 5 (putCs cs5) }
end Go.Proofs.YtmcecjplgalcgaaGreatDoor
