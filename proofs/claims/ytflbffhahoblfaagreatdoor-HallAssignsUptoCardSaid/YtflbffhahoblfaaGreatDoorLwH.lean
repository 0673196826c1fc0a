/- LeagueCounts: the contract over every input of bulk at most 1048576. -/
import Derived.Test.YtflbffhahoblfaaGreatDoorPrA
import Derived.Test.YtflbffhahoblfaaGreatDoorTcJ
import Derived.Test.YtflbffhahoblfaaGreatDoorElI
import Derived.Lib.SmallJoins
import Derived.Test.YtflbffhahoblfaaGreatDoorRows
import Derived.Test.YtflbffhahoblfaaGreatDoorOpsA
import Derived.Test.YtflbffhahoblfaaGreatDoorAsA
import Derived.Test.YtflbffhahoblfaaGreatDoorAsK
import Derived.Test.YtflbffhahoblfaaGreatDoorSxM
import Derived.Test.YtflbffhahoblfaaGreatDoorAwake
import Derived.Test.YtflbffhahoblfaaGreatDoorTie
import Derived.Test.YtflbffhahoblfaaGreatDoorCards
noncomputable section
namespace Go.Proofs.YtflbffhahoblfaaGreatDoor
open Go Go.Den Go.ChangeShapes Go.WideShapes Go.ChangeAt Go.RowKit Go.Deep
set_option maxRecDepth 10000
noncomputable instance : Inhabited Ma := ⟨⟨0, 0, 0, 0, ByteArray.empty⟩⟩
theorem undTx : Tryz.prog.underlying 9 = some .string := rfl
theorem cellsTx : Tryz.prog.cellsOf 9 = 1 := by decide +kernel
theorem bulk_part {H : Type} {d : DataW H} {l : List (DataW H)} (h : d ∈ l) : Rows.uptoBulk d ≤ Rows.uptoBulkAll l := by
  induction l with
  | nil => cases h
  | cons x r ih =>
    simp only [Rows.uptoBulkAll]
    rcases List.mem_cons.1 h with e | e
    · subst e; omega
    · have := ih e; omega
theorem bulk_one {H : Type} (d : DataW H) : 1 ≤ Rows.uptoBulk d := by
  cases d with
  | lit l => cases l <;> simp [Rows.uptoBulk]
  | nil => simp [Rows.uptoBulk]
  | ptr d => simp [Rows.uptoBulk]
  | slice elems spare => simp [Rows.uptoBulk]
  | agg parts => simp [Rows.uptoBulk]
  | iface t d => simp [Rows.uptoBulk]
  | map entries => simp [Rows.uptoBulk]
  | held h => simp [Rows.uptoBulk]
theorem bulk_len {H : Type} (l : List (DataW H)) : l.length ≤ Rows.uptoBulkAll l := by
  induction l with
  | nil => simp [Rows.uptoBulkAll]
  | cons x r ih => have := bulk_one x; simp only [Rows.uptoBulkAll, List.length_cons]; omega
theorem bulk_slice {H : Type} (d : DataW H) : Go.Joins.sliceLen d ≤ Rows.uptoBulk d := by
  cases d with
  | slice elems spare =>
    have := bulk_len elems
    simp only [Go.Joins.sliceLen, Rows.uptoBulk]; omega
  | _ => simp [Go.Joins.sliceLen]
theorem vr_len {Γ : Ga} {p : Option Addr} {n c : Nat} {v : Value} (h : VR Γ (.slice p n c) v) : ∃ p' c', v = .slice p' n c' := by
  cases h <;> exact ⟨_, _, rfl⟩
section
variable {H : Type} {enc : TypeId × Value → H} {W : World} {sp : Nat → Bool} {hd : Bool} {fuel : Nat}
end
end Go.Proofs.YtflbffhahoblfaaGreatDoor
/- HallPrices: the contract over every input of bulk at most 1048576. -/
noncomputable section
namespace Go.Proofs.YtflbffhahoblfaaGreatDoor
open Go Go.Den Go.ChangeShapes Go.WideShapes Go.ChangeAt Go.RowKit Go.Deep
set_option maxRecDepth 10000
theorem slice_bulk {H : Type} {enc : TypeId × Value → H} {W : World} {sp : Nat → Bool} {hd : Bool} {fuel : Nat} {t e : TypeId} {p : Option Addr} {k c : Nat} {x : DataW H × List MemPlace} (hu : Tryz.prog.underlying t = some (.slice e)) (h : DataW.trod enc Tryz.prog W 0 sp hd fuel t [.slice p k c] = some x) : k ≤ Rows.uptoBulk x.1 := by
  have q1 := Go.Joins.sliceLen_trod (d := x.1) (ps := x.2) hu h
  have q2 := bulk_slice x.1
  omega
end Go.Proofs.YtflbffhahoblfaaGreatDoor
/- Arguments: bookings, tables, requests, postings, charges. -/
noncomputable section
namespace Go.Proofs.YtflbffhahoblfaaGreatDoor
open Go Go.Den Go.ChangeShapes Go.WideShapes Go.ChangeAt Go.RowKit Go.Deep
set_option maxRecDepth 10000
noncomputable instance : Inhabited Bk := ⟨⟨ByteArray.empty, ByteArray.empty, 0, 0⟩⟩
noncomputable instance : Inhabited Tb := ⟨⟨ByteArray.empty, ByteArray.empty⟩⟩
noncomputable instance : Inhabited Rq := ⟨⟨ByteArray.empty, ByteArray.empty, 0, 0⟩⟩
noncomputable instance : Inhabited Po := ⟨⟨ByteArray.empty, ByteArray.empty, 0⟩⟩
theorem bk_flat (x : Bk) : (bk x).all flatC = true := rfl
theorem tb_flat (x : Tb) : (tb x).all flatC = true := rfl
theorem undBk : ∃ f0 f1 f2 f3 : Field, Tryz.prog.underlying 47 = some (.struct #[f0, f1, f2, f3]) ∧ (f0.type = 9 ∧ f0.offset = 0) ∧ (f1.type = 9 ∧ f1.offset = 1) ∧ (f2.type = 3 ∧ f2.offset = 2) ∧ (f3.type = 3 ∧ f3.offset = 3) := ⟨_, _, _, _, rfl, ⟨rfl, rfl⟩, ⟨rfl, rfl⟩, ⟨rfl, rfl⟩, ⟨rfl, rfl⟩⟩
theorem undTb : ∃ f0 f1 : Field, Tryz.prog.underlying 44 = some (.struct #[f0, f1]) ∧ (f0.type = 9 ∧ f0.offset = 0) ∧ (f1.type = 9 ∧ f1.offset = 1) := ⟨_, _, rfl, ⟨rfl, rfl⟩, ⟨rfl, rfl⟩⟩
theorem undBks : Tryz.prog.underlying 23 = some (.slice 47) := rfl
theorem undTbs : Tryz.prog.underlying 22 = some (.slice 44) := rfl
theorem cellsBk : Tryz.prog.cellsOf 47 = 4 := by decide +kernel
theorem cellsTb : Tryz.prog.cellsOf 44 = 2 := by decide +kernel
theorem lst2 {α : Type} {l : List α} (h : l.length = 2) : ∃ a b, l = [a, b] := by
  match l, h with
  | [a, b], _ => exact ⟨a, b, rfl⟩
theorem lst4 {α : Type} {l : List α} (h : l.length = 4) : ∃ a b c d, l = [a, b, c, d] := by
  match l, h with
  | [a, b, c, d], _ => exact ⟨a, b, c, d, rfl⟩
section
variable {H : Type} {enc : TypeId × Value → H} {W : World} {sp : Nat → Bool} {hd : Bool} {fuel : Nat}
theorem dec_bk {cs : List Value} {x : DataW H × List MemPlace} (h : DataW.trod enc Tryz.prog W 0 sp hd fuel 47 cs = some x) : ∃ y, cs = bk y := by
  obtain ⟨f0, f1, f2, f3, hu, ⟨a0, b0⟩, ⟨a1, b1⟩, ⟨a2, b2⟩, ⟨a3, b3⟩⟩ := undBk
  obtain ⟨xs, n, _, _, hl, hlen, hf⟩ := DataW.trod_struct hu h
  rw [cellsBk] at hl
  obtain ⟨u0, u1, u2, u3, rfl⟩ := lst4 hl
  obtain ⟨y0, y1, y2, y3, rfl⟩ := lst4 (by simpa using hlen)
  have h0 := hf 0 f0 rfl
  have h1 := hf 1 f1 rfl
  have h2 := hf 2 f2 rfl
  have h3 := hf 3 f3 rfl
  rw [a0, b0, cellsTx] at h0
  rw [a1, b1, cellsTx] at h1
  rw [a2, b2, cellsInt] at h2
  rw [a3, b3, cellsInt] at h3
  obtain ⟨s0, e0, _⟩ := DataW.trod_string undTx (by simpa using h0)
  obtain ⟨s1, e1, _⟩ := DataW.trod_string undTx (by simpa using h1)
  obtain ⟨n2, e2⟩ := trod_i64 (by simpa using h2)
  obtain ⟨n3, e3⟩ := trod_i64 (by simpa using h3)
  simp at e0 e1 e2 e3
  subst e0; subst e1; subst e2; subst e3
  exact ⟨⟨s0, s1, n2, n3⟩, rfl⟩
theorem dec_tb {cs : List Value} {x : DataW H × List MemPlace} (h : DataW.trod enc Tryz.prog W 0 sp hd fuel 44 cs = some x) : ∃ y, cs = tb y := by
  obtain ⟨f0, f1, hu, ⟨a0, b0⟩, ⟨a1, b1⟩⟩ := undTb
  obtain ⟨xs, n, _, _, hl, hlen, hf⟩ := DataW.trod_struct hu h
  rw [cellsTb] at hl
  obtain ⟨u0, u1, rfl⟩ := lst2 hl
  obtain ⟨y0, y1, rfl⟩ := lst2 (by simpa using hlen)
  have h0 := hf 0 f0 rfl
  have h1 := hf 1 f1 rfl
  rw [a0, b0, cellsTx] at h0
  rw [a1, b1, cellsTx] at h1
  obtain ⟨s0, e0, _⟩ := DataW.trod_string undTx (by simpa using h0)
  obtain ⟨s1, e1, _⟩ := DataW.trod_string undTx (by simpa using h1)
  simp at e0 e1
  subst e0; subst e1
  exact ⟨⟨s0, s1⟩, rfl⟩
theorem open_bks {b0 : Nat} {v : Value} {x : DataW H × List MemPlace} (hsp : ∀ b, sp b = true) (h : DataW.trod enc Tryz.prog W 0 sp hd fuel 23 [v] = some x) (hok : Cell.okWide Tryz.prog W .any b0 23 v) : OpS W bk 4 v :=
  open_flat (f := bk) (w := 4) (by omega) bk_len undBks cellsBk dec_bk hsp h hok
theorem open_tbs {b0 : Nat} {v : Value} {x : DataW H × List MemPlace} (hsp : ∀ b, sp b = true) (h : DataW.trod enc Tryz.prog W 0 sp hd fuel 22 [v] = some x) (hok : Cell.okWide Tryz.prog W .any b0 22 v) : OpS W tb 2 v :=
  open_flat (f := tb) (w := 2) (by omega) tb_len undTbs cellsTb dec_tb hsp h hok
theorem ok_sl {b0 : Nat} {v : Value} {t e : TypeId} (hu : Tryz.prog.underlying t = some (.slice e)) (h : Value.okWide Tryz.prog W .any b0 t v) : Cell.okWide Tryz.prog W .any b0 t v := by
  unfold Value.okWide at h
  rw [hu] at h
  exact h
end
end Go.Proofs.YtflbffhahoblfaaGreatDoor
/- HallAssigns: the contract over every input of bulk at most 1048576. -/
noncomputable section
namespace Go.Proofs.YtflbffhahoblfaaGreatDoor
open Go Go.Den Go.ChangeShapes Go.WideShapes Go.ChangeAt Go.RowKit Go.Deep
set_option maxRecDepth 10000
theorem assigns_calls {W : World} (hB : BBok B0 W) {v0 v1 v2 : Value} (h0 : OpS W tb 2 v0) (h1 : OpS W bk 4 v1) (h2 : OpS W i1 1 v2) (hl0 : ∀ p k c, v0 = .slice p k c → k ≤ 1048576) (hl1 : ∀ p k c, v1 = .slice p k c → k ≤ 1048576) (hl2 : ∀ p k c, v2 = .slice p k c → k ≤ 1048576) :
    Calls Tryz.prog 3 ⟨[v0, v1, v2]⟩ W fun e W' => e = .returned (.bool true) ∧ Below W.heap.size W W' := by
  obtain ⟨o0, p0, c0, l0, k0⟩ := h0.use tb_len tb_flat
  obtain ⟨o1, p1, c1, l1, k1⟩ := h1.use bk_len bk_flat
  obtain ⟨o2, p2, c2, l2, k2⟩ := h2.use i1_len flat_i1
  have hB1 : BBok (extB [o0, o1, o2]) W := extB_ok hB fun k x hx => by
    match k, hx with
    | 0, hx => exact k0.blk x (by simpa using hx) _
    | 1, hx => exact k1.blk x (by simpa using hx) _
    | 2, hx => exact k2.blk x (by simpa using hx) _
  have b0 := extB_new (bs := [o0, o1, o2]) (k := 0) rfl
  have b1 := extB_new (bs := [o0, o1, o2]) (k := 1) rfl
  have b2 := extB_new (bs := [o0, o1, o2]) (k := 2) rfl
  have n0 : l0.length ≤ 1048576 := by
    obtain ⟨p', c', e⟩ := vr_len (k0.vr _ 1000 (by omega) b0)
    exact hl0 _ _ _ e
  have n1 : l1.length ≤ 1048576 := by
    obtain ⟨p', c', e⟩ := vr_len (k1.vr _ 1001 (by omega) b1)
    exact hl1 _ _ _ e
  have n2 : l2.length ≤ 1048576 := by
    obtain ⟨p', c', e⟩ := vr_len (k2.vr _ 1002 (by omega) b2)
    exact hl2 _ _ _ e
  refine calls_of_callT (assigns_w (c := c0) (d := c1) (g := c2) (fun h hE => awake17 (glo_extB hE)) (k0.at_ _ 1000 (by omega) b0) (k0.low 1000) n0 (k1.at_ _ 1001 (by omega) b1) (k1.low 1001) (k1.odd (by omega) b1) n1 (k2.at_ _ 1002 (by omega) b2) n2) (fun u k hu => hu.1) rfl hB1 ?_
  exact .cons (k0.vr _ 1000 (by omega) b0) (.cons (k1.vr _ 1001 (by omega) b1) (.cons (k2.vr _ 1002 (by omega) b2) .nil))
theorem assigns_contract (H : Type) (enc : TypeId × Value → H) (W : World) (base : Nat) (args : Array Value) (ds gs : List (DataW H)) (before : List MemPlace)
    (hval : ∀ (j : Nat) t v, Tryz.f3.params[j]? = some t → args[j]? = some v → Value.okWide Tryz.prog W .any base t v)
    (hW : DataW.Whole enc Tryz.prog Tryz.f3.params.toList Rows.hallAssignsSpec.vars false W args.toList ds gs before) (hk : Rows.uptoSmall H (ds ++ gs) = true) (hL : laidMetH Tryz.prog Rows.hallAssignsUptoRow.laid W) :
    Calls Tryz.prog 3 args W fun e W' => ∃ v, e = .returned v ∧ Rows.hallAssignsSpec.post enc Tryz.prog Tryz.f3 false true false false W args v W' := by
  have hW' := hW
  obtain ⟨p, q, hA0, hV, rfl, hfz, hnd⟩ := hW
  have hA : DataW.TrodAll enc Tryz.prog W 0 (fun _ => true) true [22, 23, 24] args.toList ds p := hA0
  obtain ⟨v0, vs0, d0, ds0, p0, q0, hargs, rfl, rfl, h0, r0⟩ := trodAll_cons hA
  obtain ⟨v1, vs1, d1, ds1, p1, q1, rfl, rfl, rfl, h1, r1⟩ := trodAll_cons r0
  obtain ⟨v2, vs2, d2, ds2, p2', q2, rfl, rfl, rfl, h2, r2⟩ := trodAll_cons r1
  obtain ⟨rfl, rfl, rfl⟩ := trodAll_nil r2
  obtain rfl : args = #[v0, v1, v2] := by cases args; simp_all
  obtain ⟨rfl, rfl⟩ := trodVars_none hV
  have hb : Rows.uptoBulkAll ([d0, d1, d2] ++ []) ≤ 1048576 := of_decide_eq_true hk
  have hb0 : Rows.uptoBulk d0 ≤ 1048576 := Nat.le_trans (bulk_part (by simp)) hb
  have hb1 : Rows.uptoBulk d1 ≤ 1048576 := Nat.le_trans (bulk_part (by simp)) hb
  have hb2 : Rows.uptoBulk d2 ≤ 1048576 := Nat.le_trans (bulk_part (by simp)) hb
  have hok0 := ok_sl undTbs (hval 0 _ v0 rfl rfl)
  have hok1 := ok_sl undBks (hval 1 _ v1 rfl rfl)
  have hok2 := ok_sl undInts (hval 2 _ v2 rfl rfl)
  obtain ⟨f0, hf0⟩ := h0
  obtain ⟨f1, hf1⟩ := h1
  obtain ⟨f2, hf2⟩ := h2
  have hv0 : v0.cells.toList = [v0] := by
    cases v0 <;> first | rfl | (simp [Cell.okWide, Cell.ok] at hok0)
  have hv1 : v1.cells.toList = [v1] := by
    cases v1 <;> first | rfl | (simp [Cell.okWide, Cell.ok] at hok1)
  have hv2 : v2.cells.toList = [v2] := by
    cases v2 <;> first | rfl | (simp [Cell.okWide, Cell.ok] at hok2)
  rw [hv0] at hf0
  rw [hv1] at hf1
  rw [hv2] at hf2
  refine (assigns_calls (bb0_ok hL) (open_tbs (fun _ => rfl) hf0 hok0) (open_bks (fun _ => rfl) hf1 hok1) (open_ints (fun _ => rfl) hf2 hok2) (fun p k c e => ?_) (fun p k c e => ?_) (fun p k c e => ?_)).mono fun e W' ⟨he, hb⟩ => ?_
  · subst e; exact Nat.le_trans (slice_bulk undTbs hf0) hb0
  · subst e; exact Nat.le_trans (slice_bulk undBks hf1) hb1
  · subst e; exact Nat.le_trans (slice_bulk undInts hf2) hb2
  · exact ⟨_, he, law_post (tb := 4) (by kernel_rfl) rfl (by kernel_rfl) hW' rfl hb rfl (by first | exact Tryz.underlying4 | rfl)⟩
end Go.Proofs.YtflbffhahoblfaaGreatDoor
/- The world in which a row's list is met. -/
noncomputable section
namespace Go.Proofs.YtflbffhahoblfaaGreatDoor
open Go Go.Den Go.ChangeShapes Go.WideShapes Go.ChangeAt Go.RowKit
theorem own0 : ownKnob Tryz.prog.godebug = none := by kernel_rfl
noncomputable def putCs (cs : List Value) : Obj → Obj
  | .cells _ t frozen => .cells ⟨cs⟩ t frozen
  | o => o
noncomputable def laidWorld (os : Os) : World :=
  { World.holding Tryz.prog os ⟨#[], #[], []⟩ with heap := (((World.holding Tryz.prog os ⟨#[], #[], []⟩).heap.modify 2 (putCs cs2)).modify 4 (putCs cs4)).modify 5 (putCs cs5) }
end Go.Proofs.YtflbffhahoblfaaGreatDoor
