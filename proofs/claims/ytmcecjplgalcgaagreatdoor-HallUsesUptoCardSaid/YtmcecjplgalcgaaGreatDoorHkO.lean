/- HallUses: the part of the law that adds the lengths of the bookings, and what follows it. -/
import Derived.Test.YtmcecjplgalcgaaGreatDoorUtC
import Derived.Test.YtmcecjplgalcgaaGreatDoorUtM
import Derived.Test.YtmcecjplgalcgaaGreatDoorOpA
import Derived.Test.YtmcecjplgalcgaaGreatDoorBgB
import Derived.Test.YtmcecjplgalcgaaGreatDoorAwake
import Derived.Test.YtmcecjplgalcgaaGreatDoorPrL
import Derived.Test.YtmcecjplgalcgaaGreatDoorHaB
import Derived.Test.YtmcecjplgalcgaaGreatDoorSrL
import Derived.Test.YtmcecjplgalcgaaGreatDoorSxK
import Derived.Test.YtmcecjplgalcgaaGreatDoorStC
import Derived.Test.YtmcecjplgalcgaaGreatDoorStE
import Derived.Lib.SmallJoins
import Derived.Test.YtmcecjplgalcgaaGreatDoorRows
import Derived.Test.YtmcecjplgalcgaaGreatDoorSxZ
import Derived.Test.YtmcecjplgalcgaaGreatDoorAsC
noncomputable section
namespace Go.Proofs.YtmcecjplgalcgaaGreatDoor
open Go Go.Den
set_option maxRecDepth 100000
noncomputable def sumsC : Code := sndC (sndC (sndC (sndC (sndC (sndC (sndC (sndC (Tryz.f3.body.getD .skip))))))))
theorem sumB_take {l : List Bk} {k : Nat} (h : k < l.length) : sumB (l.take (k + 1)) = sumB (l.take k) + (l[k].to - l[k].frm) := by
 rw [List.take_succ_eq_append_getElem h, sumB_app]; simp [sumB, lenB]
theorem sumB_bd {l : List Bk} (hb : ∀ x ∈ l, BkOk x) : ∀ k, k ≤ l.length → 0 ≤ sumB (l.take k) ∧ sumB (l.take k) ≤ 99999 * (k : Int)
 | 0, _ => by simp [sumB]
 | k + 1, h => by
  have ih := sumB_bd hb k (by omega)
  have e := sumB_take (l := l) (k := k) (by omega)
  have hk : k < l.length := by omega
  have b := hb l[k] (List.getElem_mem hk)
  have b1 := b.f0
  have b2 := b.t1
  have b3 := b.lt
  rw [e]; omega
set_option maxHeartbeats 16000000 in
theorem sums_w {H h : AHeap} {lo b0 b1 d : Nat} {r : Option Addr} {v1 : Value} {l : List Bk} {lim : Int} {ma mb mc : Mk} {Qn : St → Prop} {Qe : Nat → St → Prop} (hc : Closed H) (hc' : Closed h) (hE : Ext H h) (hG : Glo B0 h) (hb0 : h.get b0 = some (.cells [.slice r l.length d, v1, I lim] 0 false false)) (hb1 : h.get b1 = some (.cells (m9 ma mb mc) 0 false false)) (l1 : 1 ≤ lim) (l2 : lim ≤ 999999999) (hr : SlAt h 4 bk r l) (hl : l.length ≤ 8) (hb : ∀ x ∈ l, BkOk x) :
  CT Tryz.prog none Tryz.f3.ntmps sumsC ⟨ofA [(4, .pointer (some ⟨b0, 0, none⟩)), (5, .pointer (some ⟨b1, 0, none⟩)), (6, .bool false), (13, I (sumB l)), (14, I 0)], [], ext h lo []⟩ Qn Qe (Go.Den.Fin Tryz.prog Tryz.f3.results H (fun u k => u = .bool true ∧ k = H)) := by
 iterate 2 (apply ct_seq)
 apply ct_region
 apply seq_plain; exact do_fieldAddr rfl rfl; exact rfl
 apply seq_plain; exact do_load rfl (by exact ext_get_old (by assumption) (by assumption)) rfl (by exact rfl); exact rfl
 apply seq_plain; exact do_lenS rfl rfl rfl; exact rfl
 apply seq_plain; exact do_move rfl; exact rfl
 apply seq_nil
 apply ct_block
 apply ct_loop
 refine lt_meas (α := Nat × List (Option ABlk)) (fun s => [(4, .pointer (some ⟨b0, 0, none⟩)), (5, .pointer (some ⟨b1, 0, none⟩)), (6, .bool false), (13, I (sumB l)), (14, I (sumB (l.take s.1))), (221, .slice r l.length d), (222, I l.length), (223, I s.1)]) (fun s => ext h lo s.2) (fun s => s.1 ≤ l.length) (fun s => l.length - s.1) (fun s hk ihk => ?_) (0, []) (Nat.zero_le _) (by repeat (first | exact sub_nil | apply sub_cons rfl)) (.refl _)
 obtain ⟨k, L⟩ := s
 have ihk' := fun k' L' a1 a2 => ihk (k', L') a1 a2
 simp only at hk ihk'
 dsimp only
 clear ihk
 apply ct_seq
 apply ct_region
 apply seq_plain; exact do_binInt rfl rfl rfl trivial; exact rfl
 apply seq_nil
 apply ct_seq
 refine ct_cond rfl (fun h3 => ?_) (fun h3 => ?_)
 ·have h3 : k < l.length := by simpa using h3
  obtain ⟨b3, o3, cs3, z3, s3', ro3, rfl, hg3, hw3⟩ := hr.out (by intro e; rw [e] at h3; simp at h3)
  have hx := hb l[k] (List.getElem_mem h3)
  have hx0 := hx.f0
  have hx1 := hx.lt
  have hx2 := hx.t1
  have hs := sumB_bd hb k hk
  have e := sumB_take h3
  apply ct_skip
  apply ct_seq
  apply ct_block
  apply ct_seq
  apply ct_region
  apply seq_plain; exact do_indexAddrS rfl rfl rfl (by exact idx_nat (by omega)); exact rfl
  apply seq_plain; exact do_load rfl (by exact ext_get_old (by assumption) (by assumption)) rfl (by exact pt_sl (by assumption) (by omega)); exact rfl
  apply seq_newP; exact do_alloc rfl rfl; exact rfl
  apply seq_putC (hc := by assumption); rotate_left; exact do_store rfl rfl (by exact ext_get_new List.getElem?_concat_length) rfl rfl (nb_own _); rotate_left; exact (by simp)
  apply ct_region
  apply seq_plain; exact do_move rfl; exact rfl
  apply seq_plain; exact do_fieldAddr rfl rfl; exact rfl
  apply seq_plain; exact do_load rfl (by exact ext_get_new getSetLast) rfl (by exact rfl); exact rfl
  apply seq_plain; exact do_fieldAddr rfl rfl; exact rfl
  apply seq_plain; exact do_load rfl (by exact ext_get_new getSetLast) rfl (by exact rfl); exact rfl
  apply seq_plain; exact do_sub rfl rfl (by omega); exact rfl
  apply seq_plain; exact do_add rfl rfl (by omega); exact rfl
  apply seq_plain; exact do_assign rfl; exact rfl
  apply seq_nil
  apply ct_region
  apply seq_plain; exact do_succ rfl (by omega); exact rfl
  apply seq_plain; exact do_move rfl; exact rfl
  apply seq_nil
  rw [← e]
  exact lt_to (by repeat (first | exact sub_nil | apply sub_cons rfl)) (.refl _) (ihk' (k + 1) _ (by omega) (by omega))
 ·have h3 : k = l.length := by simp at h3; omega
  subst h3
  rw [List.take_length]
  have en : (sumB l != sumB l) = false := by simp
  apply ct_exit
  apply exit_eq; exact rfl
  iterate 2 (apply ct_seq)
  apply ct_region
  iterate 2 (apply seq_plain; exact do_move rfl; exact rfl)
  apply seq_plain; exact do_binInt rfl rfl rfl trivial; exact rfl
  apply seq_nil
  refine ct_cond_f rfl en ?_
  apply ct_skip
  refine ct_to (l' := [(4, .pointer (some ⟨b0, 0, none⟩)), (5, .pointer (some ⟨b1, 0, none⟩)), (6, .bool false)]) (h' := ext (ext h lo L) (min lo h.fresh) []) (by repeat (first | exact sub_nil | apply sub_cons rfl)) ext_base ?_
  exact marks_w hc (ext_closed hc') (fun b x hx => ext_Ext hc' b x (hE b x hx)) (Glo.ext hG) (ext_Ext hc' _ _ hb0) (ext_Ext hc' _ _ hb1) l1 l2
end Go.Proofs.YtmcecjplgalcgaaGreatDoor
/- HallSums: the contract over every input. -/
noncomputable section
namespace Go.Proofs.YtmcecjplgalcgaaGreatDoor
open Go Go.Den Go.ChangeShapes Go.WideShapes Go.ChangeAt Go.RowKit Go.Deep
set_option maxRecDepth 10000
noncomputable instance : Inhabited Ra := ⟨⟨0, 0, 0⟩⟩
section
variable {H : Type} {enc : TypeId × Value → H} {W : World} {sp : Nat → Bool} {hd : Bool} {fuel : Nat}
end
theorem OpU.low {W : World} {α : Type} {f : α → List Value} {w : Nat} {v : Value} {o : Option BB} {p : Nat → Option Addr} {c : Nat} {l : List α} (h : OpU W f w v o p c l) (k : Nat) : LowS (p k) c l.length := ⟨h.cap, h.nil k, h.spot k⟩
end Go.Proofs.YtmcecjplgalcgaaGreatDoor
/- LeagueCounts: the contract over every input of bulk at most 1048576. -/
noncomputable section
namespace Go.Proofs.YtmcecjplgalcgaaGreatDoor
open Go Go.Den Go.ChangeShapes Go.WideShapes Go.ChangeAt Go.RowKit Go.Deep
set_option maxRecDepth 10000
noncomputable instance : Inhabited Ma := ⟨⟨0, 0, 0, 0, ByteArray.empty⟩⟩
theorem undTx : Tryz.prog.underlying 9 = some .string := rfl
theorem cellsTx : Tryz.prog.cellsOf 9 = 1 := by decide +kernel
theorem bulk_part {H : Type} {d : DataW H} {l : List (DataW H)} (h : d ∈ l) : Rows.uptoBulk d ≤ Rows.uptoBulkAll l := by
 induction l with
 | nil => cases h
 | cons x r ih =>
  simp only [Rows.uptoBulkAll]
  rcases List.mem_cons.1 h with e | e
  ·subst e; omega
  ·have := ih e; omega
theorem bulk_one {H : Type} (d : DataW H) : 1 ≤ Rows.uptoBulk d := by
 cases d with
 | lit l => cases l <;> simp [Rows.uptoBulk]
 | nil => simp [Rows.uptoBulk]
 | ptr d => simp [Rows.uptoBulk]
 | slice elems spare => simp [Rows.uptoBulk]
 | agg parts => simp [Rows.uptoBulk]
 | iface t d => simp [Rows.uptoBulk]
 | map entries => simp [Rows.uptoBulk]
 | held h => simp [Rows.uptoBulk]
theorem bulk_len {H : Type} (l : List (DataW H)) : l.length ≤ Rows.uptoBulkAll l := by
 induction l with
 | nil => simp [Rows.uptoBulkAll]
 | cons x r ih => have := bulk_one x; simp only [Rows.uptoBulkAll, List.length_cons]; omega
theorem bulk_slice {H : Type} (d : DataW H) : Go.Joins.sliceLen d ≤ Rows.uptoBulk d := by
 cases d with
 | slice elems spare =>
  have := bulk_len elems
  simp only [Go.Joins.sliceLen, Rows.uptoBulk]; omega
 | _ => simp [Go.Joins.sliceLen]
theorem vr_len {Γ : Ga} {p : Option Addr} {n c : Nat} {v : Value} (h : VR Γ (.slice p n c) v) : ∃ p' c', v = .slice p' n c' := by
 cases h <;> exact ⟨_, _, rfl⟩
section
variable {H : Type} {enc : TypeId × Value → H} {W : World} {sp : Nat → Bool} {hd : Bool} {fuel : Nat}
end
end Go.Proofs.YtmcecjplgalcgaaGreatDoor
/- HallPrices: the contract over every input of bulk at most 1048576. -/
noncomputable section
namespace Go.Proofs.YtmcecjplgalcgaaGreatDoor
open Go Go.Den Go.ChangeShapes Go.WideShapes Go.ChangeAt Go.RowKit Go.Deep
set_option maxRecDepth 10000
theorem slice_bulk {H : Type} {enc : TypeId × Value → H} {W : World} {sp : Nat → Bool} {hd : Bool} {fuel : Nat} {t e : TypeId} {p : Option Addr} {k c : Nat} {x : DataW H × List MemPlace} (hu : Tryz.prog.underlying t = some (.slice e)) (h : DataW.trod enc Tryz.prog W 0 sp hd fuel t [.slice p k c] = some x) : k ≤ Rows.uptoBulk x.1 := by
 have q1 := Go.Joins.sliceLen_trod (d := x.1) (ps := x.2) hu h
 have q2 := bulk_slice x.1
 omega
end Go.Proofs.YtmcecjplgalcgaaGreatDoor
/- Arguments: bookings, tables, requests, postings, charges. -/
noncomputable section
namespace Go.Proofs.YtmcecjplgalcgaaGreatDoor
open Go Go.Den Go.ChangeShapes Go.WideShapes Go.ChangeAt Go.RowKit Go.Deep
set_option maxRecDepth 10000
noncomputable instance : Inhabited Bk := ⟨⟨ByteArray.empty, ByteArray.empty, 0, 0⟩⟩
noncomputable instance : Inhabited Tb := ⟨⟨ByteArray.empty, ByteArray.empty⟩⟩
noncomputable instance : Inhabited Rq := ⟨⟨ByteArray.empty, ByteArray.empty, 0, 0⟩⟩
noncomputable instance : Inhabited Po := ⟨⟨ByteArray.empty, ByteArray.empty, 0⟩⟩
theorem bk_flat (x : Bk) : (bk x).all flatC = true := rfl
theorem tb_flat (x : Tb) : (tb x).all flatC = true := rfl
theorem undBk : ∃ f0 f1 f2 f3 : Field, Tryz.prog.underlying 46 = some (.struct #[f0, f1, f2, f3]) ∧ (f0.type = 9 ∧ f0.offset = 0) ∧ (f1.type = 9 ∧ f1.offset = 1) ∧ (f2.type = 3 ∧ f2.offset = 2) ∧ (f3.type = 3 ∧ f3.offset = 3) := ⟨_, _, _, _, rfl, ⟨rfl, rfl⟩, ⟨rfl, rfl⟩, ⟨rfl, rfl⟩, ⟨rfl, rfl⟩⟩
theorem undTb : ∃ f0 f1 : Field, Tryz.prog.underlying 62 = some (.struct #[f0, f1]) ∧ (f0.type = 9 ∧ f0.offset = 0) ∧ (f1.type = 9 ∧ f1.offset = 1) := ⟨_, _, rfl, ⟨rfl, rfl⟩, ⟨rfl, rfl⟩⟩
theorem undBks : Tryz.prog.underlying 23 = some (.slice 46) := rfl
theorem undTbs : Tryz.prog.underlying 22 = some (.slice 62) := rfl
theorem cellsBk : Tryz.prog.cellsOf 46 = 4 := by decide +kernel
theorem cellsTb : Tryz.prog.cellsOf 62 = 2 := by decide +kernel
theorem lst2 {α : Type} {l : List α} (h : l.length = 2) : ∃ a b, l = [a, b] := by
 match l, h with
 | [a, b], _ => exact ⟨a, b, rfl⟩
theorem lst3 {α : Type} {l : List α} (h : l.length = 3) : ∃ a b c, l = [a, b, c] := by
 match l, h with
 | [a, b, c], _ => exact ⟨a, b, c, rfl⟩
theorem lst4 {α : Type} {l : List α} (h : l.length = 4) : ∃ a b c d, l = [a, b, c, d] := by
 match l, h with
 | [a, b, c, d], _ => exact ⟨a, b, c, d, rfl⟩
section
variable {H : Type} {enc : TypeId × Value → H} {W : World} {sp : Nat → Bool} {hd : Bool} {fuel : Nat}
theorem dec_bk {cs : List Value} {x : DataW H × List MemPlace} (h : DataW.trod enc Tryz.prog W 0 sp hd fuel 46 cs = some x) : ∃ y, cs = bk y := by
 obtain ⟨f0, f1, f2, f3, hu, ⟨a0, b0⟩, ⟨a1, b1⟩, ⟨a2, b2⟩, ⟨a3, b3⟩⟩ := undBk
 obtain ⟨xs, n, _, _, hl, hlen, hf⟩ := DataW.trod_struct hu h
 rw [cellsBk] at hl
 obtain ⟨u0, u1, u2, u3, rfl⟩ := lst4 hl
 obtain ⟨y0, y1, y2, y3, rfl⟩ := lst4 (by simpa using hlen)
 have h0 := hf 0 f0 rfl
 have h1 := hf 1 f1 rfl
 have h2 := hf 2 f2 rfl
 have h3 := hf 3 f3 rfl
 rw [a0, b0, cellsTx] at h0
 rw [a1, b1, cellsTx] at h1
 rw [a2, b2, cellsInt] at h2
 rw [a3, b3, cellsInt] at h3
 obtain ⟨s0, e0, _⟩ := DataW.trod_string undTx (by simpa using h0)
 obtain ⟨s1, e1, _⟩ := DataW.trod_string undTx (by simpa using h1)
 obtain ⟨n2, e2⟩ := trod_i64 (by simpa using h2)
 obtain ⟨n3, e3⟩ := trod_i64 (by simpa using h3)
 simp at e0 e1 e2 e3
 subst e0; subst e1; subst e2; subst e3
 exact ⟨⟨s0, s1, n2, n3⟩, rfl⟩
theorem dec_tb {cs : List Value} {x : DataW H × List MemPlace} (h : DataW.trod enc Tryz.prog W 0 sp hd fuel 62 cs = some x) : ∃ y, cs = tb y := by
 obtain ⟨f0, f1, hu, ⟨a0, b0⟩, ⟨a1, b1⟩⟩ := undTb
 obtain ⟨xs, n, _, _, hl, hlen, hf⟩ := DataW.trod_struct hu h
 rw [cellsTb] at hl
 obtain ⟨u0, u1, rfl⟩ := lst2 hl
 obtain ⟨y0, y1, rfl⟩ := lst2 (by simpa using hlen)
 have h0 := hf 0 f0 rfl
 have h1 := hf 1 f1 rfl
 rw [a0, b0, cellsTx] at h0
 rw [a1, b1, cellsTx] at h1
 obtain ⟨s0, e0, _⟩ := DataW.trod_string undTx (by simpa using h0)
 obtain ⟨s1, e1, _⟩ := DataW.trod_string undTx (by simpa using h1)
 simp at e0 e1
 subst e0; subst e1
 exact ⟨⟨s0, s1⟩, rfl⟩
theorem open_bks {b0 : Nat} {v : Value} {x : DataW H × List MemPlace} (hsp : ∀ b, sp b = true) (h : DataW.trod enc Tryz.prog W 0 sp hd fuel 23 [v] = some x) (hok : Cell.okWide Tryz.prog W .any b0 23 v) : OpS W bk 4 v :=
 open_flat (f := bk) (w := 4) (by omega) bk_len undBks cellsBk dec_bk hsp h hok
theorem open_tbs {b0 : Nat} {v : Value} {x : DataW H × List MemPlace} (hsp : ∀ b, sp b = true) (h : DataW.trod enc Tryz.prog W 0 sp hd fuel 22 [v] = some x) (hok : Cell.okWide Tryz.prog W .any b0 22 v) : OpS W tb 2 v :=
 open_flat (f := tb) (w := 2) (by omega) tb_len undTbs cellsTb dec_tb hsp h hok
theorem ok_sl {b0 : Nat} {v : Value} {t e : TypeId} (hu : Tryz.prog.underlying t = some (.slice e)) (h : Value.okWide Tryz.prog W .any b0 t v) : Cell.okWide Tryz.prog W .any b0 t v := by
 unfold Value.okWide at h
 rw [hu] at h
 exact h
end
end Go.Proofs.YtmcecjplgalcgaaGreatDoor
