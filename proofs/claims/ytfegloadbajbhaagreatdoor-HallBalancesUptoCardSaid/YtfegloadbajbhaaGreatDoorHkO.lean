/- Arguments: bookings, tables, requests, postings, charges. -/
import Derived.Test.YtfegloadbajbhaaGreatDoorPrL
import Derived.Test.YtfegloadbajbhaaGreatDoorHpA
noncomputable section
namespace Go.Proofs.YtfegloadbajbhaaGreatDoor
open Go Go.Den Go.ChangeShapes Go.WideShapes Go.ChangeAt Go.RowKit Go.Deep
set_option maxRecDepth 10000

noncomputable instance : Inhabited Bk := ⟨⟨ByteArray.empty, ByteArray.empty, 0, 0⟩⟩
noncomputable instance : Inhabited Tb := ⟨⟨ByteArray.empty, ByteArray.empty⟩⟩
noncomputable instance : Inhabited Rq := ⟨⟨ByteArray.empty, ByteArray.empty, 0, 0⟩⟩
noncomputable instance : Inhabited Po := ⟨⟨ByteArray.empty, ByteArray.empty, 0⟩⟩
theorem po_flat (x : Po) : (po x).all flatC = true := rfl
theorem undBk : ∃ f0 f1 f2 f3 : Field, Tryz.prog.underlying 59 = some (.struct #[f0, f1, f2, f3]) ∧ (f0.type = 9 ∧ f0.offset = 0) ∧ (f1.type = 9 ∧ f1.offset = 1) ∧ (f2.type = 3 ∧ f2.offset = 2) ∧ (f3.type = 3 ∧ f3.offset = 3) := ⟨_, _, _, _, rfl, ⟨rfl, rfl⟩, ⟨rfl, rfl⟩, ⟨rfl, rfl⟩, ⟨rfl, rfl⟩⟩
theorem undPo : ∃ f0 f1 f2 : Field, Tryz.prog.underlying 169 = some (.struct #[f0, f1, f2]) ∧ (f0.type = 9 ∧ f0.offset = 0) ∧ (f1.type = 9 ∧ f1.offset = 1) ∧ (f2.type = 3 ∧ f2.offset = 2) := ⟨_, _, _, rfl, ⟨rfl, rfl⟩, ⟨rfl, rfl⟩, ⟨rfl, rfl⟩⟩
theorem undCh : ∃ f0 f1 f2 : Field, Tryz.prog.underlying 95 = some (.struct #[f0, f1, f2]) ∧ (f0.type = 80 ∧ f0.offset = 0) ∧ (f1.type = 3 ∧ f1.offset = 1) ∧ (f2.type = 3 ∧ f2.offset = 2) := ⟨_, _, _, rfl, ⟨rfl, rfl⟩, ⟨rfl, rfl⟩, ⟨rfl, rfl⟩⟩
theorem undPos : Tryz.prog.underlying 101 = some (.slice 169) := rfl
theorem cellsBk : Tryz.prog.cellsOf 59 = 4 := by decide +kernel
theorem cellsPo : Tryz.prog.cellsOf 169 = 3 := by decide +kernel
theorem cellsCh : Tryz.prog.cellsOf 95 = 3 := by decide +kernel
theorem cellsRas : Tryz.prog.cellsOf 80 = 1 := by decide +kernel
theorem rowCh : Tryz.prog.cellTypes Tryz.prog.depth 95 = some [80, 3, 3] := by decide +kernel
theorem lst3 {α : Type} {l : List α} (h : l.length = 3) : ∃ a b c, l = [a, b, c] := by
  match l, h with
  | [a, b, c], _ => exact ⟨a, b, c, rfl⟩
theorem lst4 {α : Type} {l : List α} (h : l.length = 4) : ∃ a b c d, l = [a, b, c, d] := by
  match l, h with
  | [a, b, c, d], _ => exact ⟨a, b, c, d, rfl⟩
section
variable {H : Type} {enc : TypeId × Value → H} {W : World} {sp : Nat → Bool} {hd : Bool} {fuel : Nat}
theorem dec_bk {cs : List Value} {x : DataW H × List MemPlace} (h : DataW.trod enc Tryz.prog W 0 sp hd fuel 59 cs = some x) : ∃ y, cs = bk y := by
  obtain ⟨f0, f1, f2, f3, hu, ⟨a0, b0⟩, ⟨a1, b1⟩, ⟨a2, b2⟩, ⟨a3, b3⟩⟩ := undBk
  obtain ⟨xs, n, _, _, hl, hlen, hf⟩ := DataW.trod_struct hu h
  rw [cellsBk] at hl
  obtain ⟨u0, u1, u2, u3, rfl⟩ := lst4 hl
  obtain ⟨y0, y1, y2, y3, rfl⟩ := lst4 (by simpa using hlen)
  have h0 := hf 0 f0 rfl
  have h1 := hf 1 f1 rfl
  have h2 := hf 2 f2 rfl
  have h3 := hf 3 f3 rfl
  rw [a0, b0, cellsTx] at h0
  rw [a1, b1, cellsTx] at h1
  rw [a2, b2, cellsInt] at h2
  rw [a3, b3, cellsInt] at h3
  obtain ⟨s0, e0, _⟩ := DataW.trod_string undTx (by simpa using h0)
  obtain ⟨s1, e1, _⟩ := DataW.trod_string undTx (by simpa using h1)
  obtain ⟨n2, e2⟩ := trod_i64 (by simpa using h2)
  obtain ⟨n3, e3⟩ := trod_i64 (by simpa using h3)
  simp at e0 e1 e2 e3
  subst e0; subst e1; subst e2; subst e3
  exact ⟨⟨s0, s1, n2, n3⟩, rfl⟩
theorem dec_po {cs : List Value} {x : DataW H × List MemPlace} (h : DataW.trod enc Tryz.prog W 0 sp hd fuel 169 cs = some x) : ∃ y, cs = po y := by
  obtain ⟨f0, f1, f2, hu, ⟨a0, b0⟩, ⟨a1, b1⟩, ⟨a2, b2⟩⟩ := undPo
  obtain ⟨xs, n, _, _, hl, hlen, hf⟩ := DataW.trod_struct hu h
  rw [cellsPo] at hl
  obtain ⟨u0, u1, u2, rfl⟩ := lst3 hl
  obtain ⟨y0, y1, y2, rfl⟩ := lst3 (by simpa using hlen)
  have h0 := hf 0 f0 rfl
  have h1 := hf 1 f1 rfl
  have h2 := hf 2 f2 rfl
  rw [a0, b0, cellsTx] at h0
  rw [a1, b1, cellsTx] at h1
  rw [a2, b2, cellsInt] at h2
  obtain ⟨s0, e0, _⟩ := DataW.trod_string undTx (by simpa using h0)
  obtain ⟨s1, e1, _⟩ := DataW.trod_string undTx (by simpa using h1)
  obtain ⟨n2, e2⟩ := trod_i64 (by simpa using h2)
  simp at e0 e1 e2
  subst e0; subst e1; subst e2
  exact ⟨⟨s0, s1, n2⟩, rfl⟩
theorem open_pos {b0 : Nat} {v : Value} {x : DataW H × List MemPlace} (hsp : ∀ b, sp b = true) (h : DataW.trod enc Tryz.prog W 0 sp hd fuel 101 [v] = some x) (hok : Cell.okWide Tryz.prog W .any b0 101 v) : OpS W po 3 v :=
  open_flat (f := po) (w := 3) (by omega) po_len undPos cellsPo dec_po hsp h hok
theorem ok_sl {b0 : Nat} {v : Value} {t e : TypeId} (hu : Tryz.prog.underlying t = some (.slice e)) (h : Value.okWide Tryz.prog W .any b0 t v) : Cell.okWide Tryz.prog W .any b0 t v := by
  unfold Value.okWide at h
  rw [hu] at h
  exact h
theorem open_charge {b0 : Nat} {v : Value} {x : DataW H × List MemPlace} (hsp : ∀ b, sp b = true)
    (h : DataW.trod enc Tryz.prog W 0 sp hd fuel 95 v.cells.toList = some x) (hok : Value.okWide Tryz.prog W .any b0 95 v) : ∃ v0 a b, v = .agg ⟨[v0, I a, I b]⟩ ∧ OpS W ra 3 v0 ∧ ∀ p k c, v0 = .slice p k c → k ≤ Rows.uptoBulk x.1 := by
  obtain ⟨f0, f1, f2, hu, ⟨a0, b0'⟩, ⟨a1, b1'⟩, ⟨a2, b2'⟩⟩ := undCh
  unfold Value.okWide at hok
  rw [hu] at hok
  simp only at hok
  obtain ⟨cs, rfl, hsz, ts, hts, _, hrow⟩ := hok
  rw [rowCh] at hts
  cases hts
  rw [cellsCh] at hsz
  obtain ⟨l⟩ := cs
  obtain ⟨v0, u1, u2, rfl⟩ := lst3 (by simpa using hsz)
  obtain ⟨t1, e1, r1⟩ := hrow 0 v0 rfl
  cases e1
  obtain ⟨y0, y1, y2, n, hx, hl, h0, h1, h2⟩ := trod_struct3 hu h
  rw [a0, b0', cellsRas] at h0
  rw [a1, b1', cellsInt] at h1
  rw [a2, b2', cellsInt] at h2
  obtain ⟨n1, e1⟩ := trod_i64 (by simpa [Value.cells] using h1)
  obtain ⟨n2, e2⟩ := trod_i64 (by simpa [Value.cells] using h2)
  simp at e1 e2
  subst e1; subst e2
  have h0' : DataW.trod enc Tryz.prog W 0 sp hd n 80 [v0] = some y0 := by simpa [Value.cells] using h0
  refine ⟨v0, n1, n2, rfl, open_rates hsp h0' r1, fun p k c e => ?_⟩
  subst e
  have q1 := slice_bulk undRas h0'
  have q3 := bulk_part (d := y0.1) (l := [y0.1, y1.1, y2.1]) (by simp)
  rw [hx]
  simp only [Rows.uptoBulk]
  omega
theorem open_booking {b0 : Nat} {v : Value} {x : DataW H × List MemPlace}
    (h : DataW.trod enc Tryz.prog W 0 sp hd fuel 59 v.cells.toList = some x) (hok : Value.okWide Tryz.prog W .any b0 59 v) : ∃ b, v = .agg ⟨bk b⟩ := by
  obtain ⟨f0, f1, f2, f3, hu, _⟩ := undBk
  unfold Value.okWide at hok
  rw [hu] at hok
  simp only at hok
  obtain ⟨cs, rfl, hsz, _⟩ := hok
  obtain ⟨y, e⟩ := dec_bk h
  obtain ⟨l⟩ := cs
  refine ⟨y, ?_⟩
  have e : l = bk y := e
  rw [e]
end
end Go.Proofs.YtfegloadbajbhaaGreatDoor
