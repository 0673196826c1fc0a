/- Arguments: bookings, tables, requests, postings, charges. -/
import Derived.Test.YtfjihdlpohljbaaGreatPrL
import Derived.Test.YtfjihdlpohljbaaGreatHpA
import Derived.Test.YtfjihdlpohljbaaGreatFnL
import Derived.Test.YtfjihdlpohljbaaGreatSxK
noncomputable section
namespace Go.Proofs.YtfjihdlpohljbaaGreat
open Go Go.Den Go.ChangeShapes Go.WideShapes Go.ChangeAt Go.RowKit Go.Deep
set_option maxRecDepth 10000

noncomputable instance : Inhabited Bk := ⟨⟨ByteArray.empty, ByteArray.empty, 0, 0⟩⟩
noncomputable instance : Inhabited Tb := ⟨⟨ByteArray.empty, ByteArray.empty⟩⟩
noncomputable instance : Inhabited Rq := ⟨⟨ByteArray.empty, ByteArray.empty, 0, 0⟩⟩
noncomputable instance : Inhabited Po := ⟨⟨ByteArray.empty, ByteArray.empty, 0⟩⟩
theorem bk_flat (x : Bk) : (bk x).all flatC = true := rfl
theorem undBk : ∃ f0 f1 f2 f3 : Field, Tryz.prog.underlying 42 = some (.struct #[f0, f1, f2, f3]) ∧ (f0.type = 9 ∧ f0.offset = 0) ∧ (f1.type = 9 ∧ f1.offset = 1) ∧ (f2.type = 3 ∧ f2.offset = 2) ∧ (f3.type = 3 ∧ f3.offset = 3) := ⟨_, _, _, _, rfl, ⟨rfl, rfl⟩, ⟨rfl, rfl⟩, ⟨rfl, rfl⟩, ⟨rfl, rfl⟩⟩
theorem undCh : ∃ f0 f1 f2 : Field, Tryz.prog.underlying 24 = some (.struct #[f0, f1, f2]) ∧ (f0.type = 22 ∧ f0.offset = 0) ∧ (f1.type = 3 ∧ f1.offset = 1) ∧ (f2.type = 3 ∧ f2.offset = 2) := ⟨_, _, _, rfl, ⟨rfl, rfl⟩, ⟨rfl, rfl⟩, ⟨rfl, rfl⟩⟩
theorem undBks : Tryz.prog.underlying 25 = some (.slice 42) := rfl
theorem cellsBk : Tryz.prog.cellsOf 42 = 4 := by decide +kernel
theorem cellsCh : Tryz.prog.cellsOf 24 = 3 := by decide +kernel
theorem cellsRas : Tryz.prog.cellsOf 22 = 1 := by decide +kernel
theorem rowCh : Tryz.prog.cellTypes Tryz.prog.depth 24 = some [22, 3, 3] := by decide +kernel
theorem lst3 {α : Type} {l : List α} (h : l.length = 3) : ∃ a b c, l = [a, b, c] := by
  match l, h with
  | [a, b, c], _ => exact ⟨a, b, c, rfl⟩
theorem lst4 {α : Type} {l : List α} (h : l.length = 4) : ∃ a b c d, l = [a, b, c, d] := by
  match l, h with
  | [a, b, c, d], _ => exact ⟨a, b, c, d, rfl⟩
section
variable {H : Type} {enc : TypeId × Value → H} {W : World} {sp : Nat → Bool} {hd : Bool} {fuel : Nat}
theorem dec_bk {cs : List Value} {x : DataW H × List MemPlace} (h : DataW.trod enc Tryz.prog W 0 sp hd fuel 42 cs = some x) : ∃ y, cs = bk y := by
  obtain ⟨f0, f1, f2, f3, hu, ⟨a0, b0⟩, ⟨a1, b1⟩, ⟨a2, b2⟩, ⟨a3, b3⟩⟩ := undBk
  obtain ⟨xs, n, _, _, hl, hlen, hf⟩ := DataW.trod_struct hu h
  rw [cellsBk] at hl
  obtain ⟨u0, u1, u2, u3, rfl⟩ := lst4 hl
  obtain ⟨y0, y1, y2, y3, rfl⟩ := lst4 (by simpa using hlen)
  have h0 := hf 0 f0 rfl
  have h1 := hf 1 f1 rfl
  have h2 := hf 2 f2 rfl
  have h3 := hf 3 f3 rfl
  rw [a0, b0, cellsTx] at h0
  rw [a1, b1, cellsTx] at h1
  rw [a2, b2, cellsInt] at h2
  rw [a3, b3, cellsInt] at h3
  obtain ⟨s0, e0, _⟩ := DataW.trod_string undTx (by simpa using h0)
  obtain ⟨s1, e1, _⟩ := DataW.trod_string undTx (by simpa using h1)
  obtain ⟨n2, e2⟩ := trod_i64 (by simpa using h2)
  obtain ⟨n3, e3⟩ := trod_i64 (by simpa using h3)
  simp at e0 e1 e2 e3
  subst e0; subst e1; subst e2; subst e3
  exact ⟨⟨s0, s1, n2, n3⟩, rfl⟩
theorem open_bks {b0 : Nat} {v : Value} {x : DataW H × List MemPlace} (hsp : ∀ b, sp b = true) (h : DataW.trod enc Tryz.prog W 0 sp hd fuel 25 [v] = some x) (hok : Cell.okWide Tryz.prog W .any b0 25 v) : OpS W bk 4 v :=
  open_flat (f := bk) (w := 4) (by omega) bk_len undBks cellsBk dec_bk hsp h hok
theorem ok_sl {b0 : Nat} {v : Value} {t e : TypeId} (hu : Tryz.prog.underlying t = some (.slice e)) (h : Value.okWide Tryz.prog W .any b0 t v) : Cell.okWide Tryz.prog W .any b0 t v := by
  unfold Value.okWide at h
  rw [hu] at h
  exact h
theorem open_charge {b0 : Nat} {v : Value} {x : DataW H × List MemPlace} (hsp : ∀ b, sp b = true)
    (h : DataW.trod enc Tryz.prog W 0 sp hd fuel 24 v.cells.toList = some x) (hok : Value.okWide Tryz.prog W .any b0 24 v) : ∃ v0 a b, v = .agg ⟨[v0, I a, I b]⟩ ∧ OpS W ra 3 v0 ∧ ∀ p k c, v0 = .slice p k c → k ≤ Rows.uptoBulk x.1 := by
  obtain ⟨f0, f1, f2, hu, ⟨a0, b0'⟩, ⟨a1, b1'⟩, ⟨a2, b2'⟩⟩ := undCh
  unfold Value.okWide at hok
  rw [hu] at hok
  simp only at hok
  obtain ⟨cs, rfl, hsz, ts, hts, _, hrow⟩ := hok
  rw [rowCh] at hts
  cases hts
  rw [cellsCh] at hsz
  obtain ⟨l⟩ := cs
  obtain ⟨v0, u1, u2, rfl⟩ := lst3 (by simpa using hsz)
  obtain ⟨t1, e1, r1⟩ := hrow 0 v0 rfl
  cases e1
  obtain ⟨y0, y1, y2, n, hx, hl, h0, h1, h2⟩ := trod_struct3 hu h
  rw [a0, b0', cellsRas] at h0
  rw [a1, b1', cellsInt] at h1
  rw [a2, b2', cellsInt] at h2
  obtain ⟨n1, e1⟩ := trod_i64 (by simpa [Value.cells] using h1)
  obtain ⟨n2, e2⟩ := trod_i64 (by simpa [Value.cells] using h2)
  simp at e1 e2
  subst e1; subst e2
  have h0' : DataW.trod enc Tryz.prog W 0 sp hd n 22 [v0] = some y0 := by simpa [Value.cells] using h0
  refine ⟨v0, n1, n2, rfl, open_rates hsp h0' r1, fun p k c e => ?_⟩
  subst e
  have q1 := slice_bulk undRas h0'
  have q3 := bulk_part (d := y0.1) (l := [y0.1, y1.1, y2.1]) (by simp)
  rw [hx]
  simp only [Rows.uptoBulk]
  omega
end
end Go.Proofs.YtfjihdlpohljbaaGreat
/- Contracts: charges; lists of postings are copied and compared. -/
noncomputable section
namespace Go.Proofs.YtfjihdlpohljbaaGreat
open Go Go.Den
set_option maxRecDepth 100000

def poB (x y : Po) : Bool := byteL x.debit.data.toList y.debit.data.toList && (byteL x.credit.data.toList y.credit.data.toList && (x.amt == y.amt))
theorem poB_eq {x y : Po} : poB x y = true ↔ x = y := by
  unfold poB
  rw [bytes_eq, bytes_eq]
  cases x; cases y
  simp
instance : DecidableEq Po := fun x y => decidable_of_iff (poB x y = true) poB_eq
abbrev chV (q : Option Addr) (n c : Nat) (dep note : Int) : Value := .agg ⟨[.slice q n c, I dep, I note]⟩
def chargeE (l : List Ra) (dep note : Int) : Int := firstL [ratesE l, whenL (outL dep 0 999999999) 3, whenL (outL note 0 99999) 3]
theorem charge_c {H : AHeap} {q : Option Addr} {c : Nat} {l : List Ra} {dep note : Int} (hs : SlAt H 3 ra q l) (hlow : LowS q c l.length) (hn : l.length < 1000000000000) :
    Ret Tryz.prog 32 [chV q l.length c dep note] H (I (chargeE l dep note)) H := by
  refine fn_start Tryz.func32 rfl rfl rfl fun hc => ?_
  have cC := fun L' => checkRates_c (hs.ext (ext_Ext hc (lo := H.fresh) (L := L'))) hlow hn
  apply ct_seq
  apply ct_region
  apply seq_newP; exact do_box rfl rfl rfl; exact rfl
  apply seq_plain; exact do_assign rfl; exact rfl
  apply seq_nil
  apply ct_seq
  apply ct_draw (by assumption); decide +kernel
  apply sd_plain (hfree := rfl); intro _; exact do_fieldAddr rfl rfl; exact rfl
  apply sd_look (hfree := rfl); exact do_load rfl (by exact ext_get_new rfl) rfl (by exact rfl); exact rfl
  apply sd_call (ht := rfl); exact cC _; exact rfl
  apply sd_plain (hfree := rfl); intro _; exact do_fieldAddr rfl rfl; exact rfl
  apply sd_look (hfree := rfl); exact do_load rfl (by exact ext_get_new rfl) rfl (by exact rfl); exact rfl
  apply sd_call (ht := rfl); exact within89; exact rfl
  apply sd_plain (hfree := rfl); intro _; exact do_fieldAddr rfl rfl; exact rfl
  apply sd_look (hfree := rfl); exact do_load rfl (by exact ext_get_new rfl) rfl (by exact rfl); exact rfl
  apply sd_call (ht := rfl); exact day_c; exact rfl
  apply sd_newS (hfree := rfl); exact do_buildSlice rfl rfl rfl rfl rfl rfl rfl; exact rfl
  apply sd_callM (ht := rfl) (hw := rfl); decide +kernel; exact first84 (l := [_, _, _]) (slAt_map (ext_get_new rfl)) (by simp); exact rfl
  apply sd_plain (hfree := rfl); intro _; exact do_assign rfl; exact rfl
  apply sd_nil
  apply ct_ret
  exact fin_flat hc rfl rfl ⟨rfl, rfl⟩
theorem refCharge_c {H : AHeap} {q : Option Addr} {c : Nat} {l : List Ra} {dep note : Int} (hs : SlAt H 3 ra q l) (hn : l.length < 1000000000) :
    Ret Tryz.prog 7 [chV q l.length c dep note] H (I (chargeE l dep note)) H := by
  refine fn_start Tryz.func7 rfl rfl rfl fun hc => ?_
  have cC := fun L' => refRates_c (c := c) (hs.ext (ext_Ext hc (lo := H.fresh) (L := L'))) hn
  obtain ⟨Z, hZ⟩ : ∃ Z : Bool, Z = (outL dep 0 999999999 || outL note 0 99999) := ⟨_, rfl⟩
  apply ct_seq
  apply ct_region
  apply seq_newP; exact do_box rfl rfl rfl; exact rfl
  apply seq_plain; exact do_assign rfl; exact rfl
  apply seq_nil
  apply ct_seq
  apply ct_seq
  apply ct_region
  apply seq_plain; exact do_fieldAddr rfl rfl; exact rfl
  apply seq_plain; exact do_load rfl (by exact ext_get_new rfl) rfl (by exact rfl); exact rfl
  apply seq_call (ht := rfl); exact cC _; exact rfl
  apply seq_plain; exact do_assign rfl; exact rfl
  apply seq_nil
  apply ct_seq
  apply ct_region
  apply seq_plain; exact do_move rfl; exact rfl
  apply seq_plain; exact do_binInt rfl rfl rfl trivial; exact rfl
  apply seq_nil
  refine ct_cond rfl (fun h0 => ?_) (fun h0 => ?_)
  · have h0 : ratesE l ≠ 0 := by simpa using h0
    apply ct_seq
    apply ct_region
    apply seq_plain; exact do_move rfl; exact rfl
    apply seq_plain; exact do_assign rfl; exact rfl
    apply seq_nil
    apply ct_ret
    refine fin_flat hc rfl rfl ⟨?_, rfl⟩
    unfold chargeE
    simp [firstL, h0, packA]
  have h0 : ratesE l = 0 := by simpa using h0
  apply ct_skip
  apply ct_seq
  apply ct_seq
  apply ct_region
  apply seq_plain; exact do_fieldAddr rfl rfl; exact rfl
  apply seq_plain; exact do_load rfl (by exact ext_get_new rfl) rfl (by exact rfl); exact rfl
  apply seq_call (ht := rfl); exact outside24; exact rfl
  apply seq_plain; exact do_move rfl; exact rfl
  refine seq_JX (α := Unit) (ds := []) (fun _ => [(17, .bool Z)]) (fun _ => ext H H.fresh [some (.cells [.slice q l.length c, I dep, I note] 0 false false)]) (fun _ => True) ?_ ?_
  · refine seq_gsplit rfl rfl (fun u => ?_) (fun u => ?_)
    · have u : outL dep 0 999999999 = true := u
      have e : Z = true := by rw [hZ, u]; rfl
      rw [e]
      apply seq_passed (hd := rfl) (hl := rfl) (hb := rfl); exact rfl
      apply seq_passed (hd := rfl) (hl := rfl) (hb := rfl); exact rfl
      apply seq_passed (hd := rfl) (hl := rfl) (hb := rfl); exact rfl
      apply seq_plain; exact do_pick_t rfl rfl; exact rfl
      apply seq_nil
      exact jx_of () trivial (by repeat (first | exact sub_nil | apply sub_cons rfl)) rfl
    · have u : outL dep 0 999999999 = false := u
      have e : Z = outL note 0 99999 := by rw [hZ, u]; rfl
      rw [e]
      apply seq_guard (hd := rfl) (hl := rfl); exact do_fieldAddr rfl rfl; exact rfl
      apply seq_guard (hd := rfl) (hl := rfl); exact do_load rfl (by exact ext_get_new rfl) rfl (by exact rfl); exact rfl
      apply seq_gcall (hg := rfl) (hl := rfl) (ht := rfl); exact outside24; exact rfl
      apply seq_plain; exact do_pick_f rfl rfl; exact rfl
      apply seq_nil
      exact jx_of () trivial (by repeat (first | exact sub_nil | apply sub_cons rfl)) rfl
  intro _ _
  refine ct_cond rfl (fun h1 => ?_) (fun h1 => ?_)
  · rw [h1] at hZ
    apply ct_seq
    apply ct_region
    apply seq_plain; exact do_assign rfl; exact rfl
    apply seq_nil
    apply ct_ret
    refine fin_flat hc rfl rfl ⟨?_, rfl⟩
    unfold chargeE
    rw [h0]
    cases h2 : outL dep 0 999999999
    · rw [h2] at hZ
      have h3 : outL note 0 99999 = true := by simpa using hZ.symm
      rw [h3]; rfl
    · rfl
  · rw [h1] at hZ
    have hZ := hZ.symm
    rw [Bool.or_eq_false_iff] at hZ
    apply ct_skip
    apply ct_seq
    apply ct_region
    apply seq_plain; exact do_assign rfl; exact rfl
    apply seq_nil
    apply ct_ret
    refine fin_flat hc rfl rfl ⟨?_, rfl⟩
    unfold chargeE
    rw [h0, hZ.1, hZ.2]; rfl
end Go.Proofs.YtfjihdlpohljbaaGreat
