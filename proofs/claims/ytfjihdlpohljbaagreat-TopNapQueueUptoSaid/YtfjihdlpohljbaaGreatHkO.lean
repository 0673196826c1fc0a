/- Contracts: a posting behind others. -/
import Derived.Test.YtfjihdlpohljbaaGreatHkA
import Derived.Test.YtfjihdlpohljbaaGreatSxW
import Derived.Test.YtfjihdlpohljbaaGreatHkC
import Derived.Test.YtfjihdlpohljbaaGreatPrL
noncomputable section
namespace Go.Proofs.YtfjihdlpohljbaaGreat
open Go Go.Den
set_option maxRecDepth 100000
structure Po where
  debit : ByteArray
  credit : ByteArray
  amt : Int
def po (x : Po) : List Value := [.string x.debit, .string x.credit, I x.amt]
def acc : Nat → ByteArray
  | 0 => ⟨#[99, 97, 115, 104]⟩
  | 1 => ⟨#[100, 101, 112, 111, 115, 105, 116, 115]⟩
  | 2 => ⟨#[115, 97, 108, 101, 115]⟩
  | _ => ⟨#[102, 111, 114, 102, 101, 105, 116, 115]⟩
end Go.Proofs.YtfjihdlpohljbaaGreat
/- Arguments: bookings, tables, requests, postings, charges. -/
noncomputable section
namespace Go.Proofs.YtfjihdlpohljbaaGreat
open Go Go.Den Go.ChangeShapes Go.WideShapes Go.ChangeAt Go.RowKit Go.Deep
set_option maxRecDepth 10000
noncomputable instance : Inhabited Bk := ⟨⟨ByteArray.empty, ByteArray.empty, 0, 0⟩⟩
noncomputable instance : Inhabited Tb := ⟨⟨ByteArray.empty, ByteArray.empty⟩⟩
noncomputable instance : Inhabited Rq := ⟨⟨ByteArray.empty, ByteArray.empty, 0, 0⟩⟩
noncomputable instance : Inhabited Po := ⟨⟨ByteArray.empty, ByteArray.empty, 0⟩⟩
theorem bk_flat (x : Bk) : (bk x).all flatC = true := rfl
theorem tb_flat (x : Tb) : (tb x).all flatC = true := rfl
theorem rq_flat (x : Rq) : (rq x).all flatC = true := rfl
theorem undBk : ∃ f0 f1 f2 f3 : Field, Tryz.prog.underlying 42 = some (.struct #[f0, f1, f2, f3]) ∧ (f0.type = 9 ∧ f0.offset = 0) ∧ (f1.type = 9 ∧ f1.offset = 1) ∧ (f2.type = 3 ∧ f2.offset = 2) ∧ (f3.type = 3 ∧ f3.offset = 3) := ⟨_, _, _, _, rfl, ⟨rfl, rfl⟩, ⟨rfl, rfl⟩, ⟨rfl, rfl⟩, ⟨rfl, rfl⟩⟩
theorem undRq : ∃ f0 f1 f2 f3 : Field, Tryz.prog.underlying 68 = some (.struct #[f0, f1, f2, f3]) ∧ (f0.type = 9 ∧ f0.offset = 0) ∧ (f1.type = 9 ∧ f1.offset = 1) ∧ (f2.type = 3 ∧ f2.offset = 2) ∧ (f3.type = 3 ∧ f3.offset = 3) := ⟨_, _, _, _, rfl, ⟨rfl, rfl⟩, ⟨rfl, rfl⟩, ⟨rfl, rfl⟩, ⟨rfl, rfl⟩⟩
theorem undTb : ∃ f0 f1 : Field, Tryz.prog.underlying 74 = some (.struct #[f0, f1]) ∧ (f0.type = 9 ∧ f0.offset = 0) ∧ (f1.type = 9 ∧ f1.offset = 1) := ⟨_, _, rfl, ⟨rfl, rfl⟩, ⟨rfl, rfl⟩⟩
theorem undBks : Tryz.prog.underlying 25 = some (.slice 42) := rfl
theorem undTbs : Tryz.prog.underlying 60 = some (.slice 74) := rfl
theorem undRqs : Tryz.prog.underlying 61 = some (.slice 68) := rfl
theorem cellsBk : Tryz.prog.cellsOf 42 = 4 := by decide +kernel
theorem cellsTb : Tryz.prog.cellsOf 74 = 2 := by decide +kernel
theorem cellsRq : Tryz.prog.cellsOf 68 = 4 := by decide +kernel
theorem lst2 {α : Type} {l : List α} (h : l.length = 2) : ∃ a b, l = [a, b] := by
  match l, h with
  | [a, b], _ => exact ⟨a, b, rfl⟩
theorem lst4 {α : Type} {l : List α} (h : l.length = 4) : ∃ a b c d, l = [a, b, c, d] := by
  match l, h with
  | [a, b, c, d], _ => exact ⟨a, b, c, d, rfl⟩
section
variable {H : Type} {enc : TypeId × Value → H} {W : World} {sp : Nat → Bool} {hd : Bool} {fuel : Nat}
theorem dec_bk {cs : List Value} {x : DataW H × List MemPlace} (h : DataW.trod enc Tryz.prog W 0 sp hd fuel 42 cs = some x) : ∃ y, cs = bk y := by
  obtain ⟨f0, f1, f2, f3, hu, ⟨a0, b0⟩, ⟨a1, b1⟩, ⟨a2, b2⟩, ⟨a3, b3⟩⟩ := undBk
  obtain ⟨xs, n, _, _, hl, hlen, hf⟩ := DataW.trod_struct hu h
  rw [cellsBk] at hl
  obtain ⟨u0, u1, u2, u3, rfl⟩ := lst4 hl
  obtain ⟨y0, y1, y2, y3, rfl⟩ := lst4 (by simpa using hlen)
  have h0 := hf 0 f0 rfl
  have h1 := hf 1 f1 rfl
  have h2 := hf 2 f2 rfl
  have h3 := hf 3 f3 rfl
  rw [a0, b0, cellsTx] at h0
  rw [a1, b1, cellsTx] at h1
  rw [a2, b2, cellsInt] at h2
  rw [a3, b3, cellsInt] at h3
  obtain ⟨s0, e0, _⟩ := DataW.trod_string undTx (by simpa using h0)
  obtain ⟨s1, e1, _⟩ := DataW.trod_string undTx (by simpa using h1)
  obtain ⟨n2, e2⟩ := trod_i64 (by simpa using h2)
  obtain ⟨n3, e3⟩ := trod_i64 (by simpa using h3)
  simp at e0 e1 e2 e3
  subst e0; subst e1; subst e2; subst e3
  exact ⟨⟨s0, s1, n2, n3⟩, rfl⟩
theorem dec_rq {cs : List Value} {x : DataW H × List MemPlace} (h : DataW.trod enc Tryz.prog W 0 sp hd fuel 68 cs = some x) : ∃ y, cs = rq y := by
  obtain ⟨f0, f1, f2, f3, hu, ⟨a0, b0⟩, ⟨a1, b1⟩, ⟨a2, b2⟩, ⟨a3, b3⟩⟩ := undRq
  obtain ⟨xs, n, _, _, hl, hlen, hf⟩ := DataW.trod_struct hu h
  rw [cellsRq] at hl
  obtain ⟨u0, u1, u2, u3, rfl⟩ := lst4 hl
  obtain ⟨y0, y1, y2, y3, rfl⟩ := lst4 (by simpa using hlen)
  have h0 := hf 0 f0 rfl
  have h1 := hf 1 f1 rfl
  have h2 := hf 2 f2 rfl
  have h3 := hf 3 f3 rfl
  rw [a0, b0, cellsTx] at h0
  rw [a1, b1, cellsTx] at h1
  rw [a2, b2, cellsInt] at h2
  rw [a3, b3, cellsInt] at h3
  obtain ⟨s0, e0, _⟩ := DataW.trod_string undTx (by simpa using h0)
  obtain ⟨s1, e1, _⟩ := DataW.trod_string undTx (by simpa using h1)
  obtain ⟨n2, e2⟩ := trod_i64 (by simpa using h2)
  obtain ⟨n3, e3⟩ := trod_i64 (by simpa using h3)
  simp at e0 e1 e2 e3
  subst e0; subst e1; subst e2; subst e3
  exact ⟨⟨s0, s1, n2, n3⟩, rfl⟩
theorem dec_tb {cs : List Value} {x : DataW H × List MemPlace} (h : DataW.trod enc Tryz.prog W 0 sp hd fuel 74 cs = some x) : ∃ y, cs = tb y := by
  obtain ⟨f0, f1, hu, ⟨a0, b0⟩, ⟨a1, b1⟩⟩ := undTb
  obtain ⟨xs, n, _, _, hl, hlen, hf⟩ := DataW.trod_struct hu h
  rw [cellsTb] at hl
  obtain ⟨u0, u1, rfl⟩ := lst2 hl
  obtain ⟨y0, y1, rfl⟩ := lst2 (by simpa using hlen)
  have h0 := hf 0 f0 rfl
  have h1 := hf 1 f1 rfl
  rw [a0, b0, cellsTx] at h0
  rw [a1, b1, cellsTx] at h1
  obtain ⟨s0, e0, _⟩ := DataW.trod_string undTx (by simpa using h0)
  obtain ⟨s1, e1, _⟩ := DataW.trod_string undTx (by simpa using h1)
  simp at e0 e1
  subst e0; subst e1
  exact ⟨⟨s0, s1⟩, rfl⟩
theorem open_bks {b0 : Nat} {v : Value} {x : DataW H × List MemPlace} (hsp : ∀ b, sp b = true) (h : DataW.trod enc Tryz.prog W 0 sp hd fuel 25 [v] = some x) (hok : Cell.okWide Tryz.prog W .any b0 25 v) : OpS W bk 4 v :=
  open_flat (f := bk) (w := 4) (by omega) bk_len undBks cellsBk dec_bk hsp h hok
theorem open_tbs {b0 : Nat} {v : Value} {x : DataW H × List MemPlace} (hsp : ∀ b, sp b = true) (h : DataW.trod enc Tryz.prog W 0 sp hd fuel 60 [v] = some x) (hok : Cell.okWide Tryz.prog W .any b0 60 v) : OpS W tb 2 v :=
  open_flat (f := tb) (w := 2) (by omega) tb_len undTbs cellsTb dec_tb hsp h hok
theorem open_rqs {b0 : Nat} {v : Value} {x : DataW H × List MemPlace} (hsp : ∀ b, sp b = true) (h : DataW.trod enc Tryz.prog W 0 sp hd fuel 61 [v] = some x) (hok : Cell.okWide Tryz.prog W .any b0 61 v) : OpS W rq 4 v :=
  open_flat (f := rq) (w := 4) (by omega) rq_len undRqs cellsRq dec_rq hsp h hok
theorem ok_sl {b0 : Nat} {v : Value} {t e : TypeId} (hu : Tryz.prog.underlying t = some (.slice e)) (h : Value.okWide Tryz.prog W .any b0 t v) : Cell.okWide Tryz.prog W .any b0 t v := by
  unfold Value.okWide at h
  rw [hu] at h
  exact h
end
end Go.Proofs.YtfjihdlpohljbaaGreat
