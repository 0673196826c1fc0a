/- LeagueCounts: the contract over every input of bulk at most 1048576. -/
import Derived.Test.YtiggikjbknoohaaGreatDoorElJ
import Derived.Test.YtiggikjbknoohaaGreatDoorCtA
import Derived.Lib.SmallJoins
import Derived.Test.YtiggikjbknoohaaGreatDoorRows
noncomputable section
namespace Go.Proofs.YtiggikjbknoohaaGreatDoor
open Go Go.Den Go.ChangeShapes Go.WideShapes Go.ChangeAt Go.RowKit Go.Deep
set_option maxRecDepth 10000

noncomputable instance : Inhabited Ma := ⟨⟨0, 0, 0, 0, ByteArray.empty⟩⟩
theorem list5 {α : Type} {l : List α} (h : l.length = 5) : ∃ a b c d e, l = [a, b, c, d, e] := by
  match l, h with
  | [a, b, c, d, e], _ => exact ⟨a, b, c, d, e, rfl⟩
theorem list6 {α : Type} {l : List α} (h : l.length = 6) : ∃ a b c d e f, l = [a, b, c, d, e, f] := by
  match l, h with
  | [a, b, c, d, e, f], _ => exact ⟨a, b, c, d, e, f, rfl⟩
theorem undMa : ∃ f0 f1 f2 f3 f4 : Field, Tryz.prog.underlying 75 = some (.struct #[f0, f1, f2, f3, f4]) ∧ (f0.type = 3 ∧ f0.offset = 0) ∧ (f1.type = 3 ∧ f1.offset = 1) ∧ (f2.type = 3 ∧ f2.offset = 2) ∧ (f3.type = 3 ∧ f3.offset = 3) ∧ (f4.type = 9 ∧ f4.offset = 4) := ⟨_, _, _, _, _, rfl, ⟨rfl, rfl⟩, ⟨rfl, rfl⟩, ⟨rfl, rfl⟩, ⟨rfl, rfl⟩, ⟨rfl, rfl⟩⟩
theorem undTx : Tryz.prog.underlying 9 = some .string := rfl
theorem undMas : Tryz.prog.underlying 22 = some (.slice 75) := rfl
theorem undRu : ∃ f0 f1 f2 f3 : Field, Tryz.prog.underlying 69 = some (.struct #[f0, f1, f2, f3]) ∧ (f0.type = 3 ∧ f0.offset = 0) ∧ (f1.type = 3 ∧ f1.offset = 1) ∧ (f2.type = 3 ∧ f2.offset = 2) ∧ (f3.type = 3 ∧ f3.offset = 3) := ⟨_, _, _, _, rfl, ⟨rfl, rfl⟩, ⟨rfl, rfl⟩, ⟨rfl, rfl⟩, ⟨rfl, rfl⟩⟩
theorem undSea : ∃ f0 f1 f2 : Field, Tryz.prog.underlying 71 = some (.struct #[f0, f1, f2]) ∧ (f0.type = 3 ∧ f0.offset = 0) ∧ (f1.type = 22 ∧ f1.offset = 1) ∧ (f2.type = 69 ∧ f2.offset = 2) := ⟨_, _, _, rfl, ⟨rfl, rfl⟩, ⟨rfl, rfl⟩, ⟨rfl, rfl⟩⟩
theorem cellsMa : Tryz.prog.cellsOf 75 = 5 := by decide +kernel
theorem cellsMas : Tryz.prog.cellsOf 22 = 1 := by decide +kernel
theorem cellsTx : Tryz.prog.cellsOf 9 = 1 := by decide +kernel
theorem cellsRu : Tryz.prog.cellsOf 69 = 4 := by decide +kernel
theorem cellsSea : Tryz.prog.cellsOf 71 = 6 := by decide +kernel
theorem rowSea : Tryz.prog.cellTypes Tryz.prog.depth 71 = some [3, 22, 3, 3, 3, 3] := by decide +kernel
theorem mt_flat (x : Ma) : (mt x).all flatC = true := rfl
theorem bulk_part {H : Type} {d : DataW H} {l : List (DataW H)} (h : d ∈ l) : Rows.uptoBulk d ≤ Rows.uptoBulkAll l := by
  induction l with
  | nil => cases h
  | cons x r ih =>
    simp only [Rows.uptoBulkAll]
    rcases List.mem_cons.1 h with e | e
    · subst e; omega
    · have := ih e; omega
theorem bulk_one {H : Type} (d : DataW H) : 1 ≤ Rows.uptoBulk d := by
  cases d with
  | lit l => cases l <;> simp [Rows.uptoBulk]
  | nil => simp [Rows.uptoBulk]
  | ptr d => simp [Rows.uptoBulk]
  | slice elems spare => simp [Rows.uptoBulk]
  | agg parts => simp [Rows.uptoBulk]
  | iface t d => simp [Rows.uptoBulk]
  | map entries => simp [Rows.uptoBulk]
  | held h => simp [Rows.uptoBulk]
theorem bulk_len {H : Type} (l : List (DataW H)) : l.length ≤ Rows.uptoBulkAll l := by
  induction l with
  | nil => simp [Rows.uptoBulkAll]
  | cons x r ih => have := bulk_one x; simp only [Rows.uptoBulkAll, List.length_cons]; omega
theorem bulk_slice {H : Type} (d : DataW H) : Go.Joins.sliceLen d ≤ Rows.uptoBulk d := by
  cases d with
  | slice elems spare =>
    have := bulk_len elems
    simp only [Go.Joins.sliceLen, Rows.uptoBulk]; omega
  | _ => simp [Go.Joins.sliceLen]
theorem vr_len {Γ : Ga} {p : Option Addr} {n c : Nat} {v : Value} (h : VR Γ (.slice p n c) v) : ∃ p' c', v = .slice p' n c' := by
  cases h <;> exact ⟨_, _, rfl⟩
section
variable {H : Type} {enc : TypeId × Value → H} {W : World} {sp : Nat → Bool} {hd : Bool} {fuel : Nat}
theorem dec_mt {cs : List Value} {x : DataW H × List MemPlace} (h : DataW.trod enc Tryz.prog W 0 sp hd fuel 75 cs = some x) : ∃ y, cs = mt y := by
  obtain ⟨f0, f1, f2, f3, f4, hu, ⟨a0, b0⟩, ⟨a1, b1⟩, ⟨a2, b2⟩, ⟨a3, b3⟩, ⟨a4, b4⟩⟩ := undMa
  obtain ⟨xs, n, _, _, hl, hlen, hf⟩ := DataW.trod_struct hu h
  obtain ⟨y0, y1, y2, y3, y4, rfl⟩ := list5 (by simpa using hlen)
  rw [cellsMa] at hl
  obtain ⟨u0, u1, u2, u3, u4, rfl⟩ := list5 hl
  have h0 := hf 0 f0 rfl
  have h1 := hf 1 f1 rfl
  have h2 := hf 2 f2 rfl
  have h3 := hf 3 f3 rfl
  have h4 := hf 4 f4 rfl
  rw [a0, b0, cellsInt] at h0
  rw [a1, b1, cellsInt] at h1
  rw [a2, b2, cellsInt] at h2
  rw [a3, b3, cellsInt] at h3
  rw [a4, b4, cellsTx] at h4
  obtain ⟨n0, e0⟩ := trod_i64 (by simpa using h0)
  obtain ⟨n1, e1⟩ := trod_i64 (by simpa using h1)
  obtain ⟨n2, e2⟩ := trod_i64 (by simpa using h2)
  obtain ⟨n3, e3⟩ := trod_i64 (by simpa using h3)
  obtain ⟨s, e4, _⟩ := DataW.trod_string undTx (by simpa using h4)
  simp at e0 e1 e2 e3 e4
  subst e0; subst e1; subst e2; subst e3; subst e4
  exact ⟨⟨n0, n1, n2, n3, s⟩, rfl⟩
theorem open_mas {b0 : Nat} {v : Value} {x : DataW H × List MemPlace} (hsp : ∀ b, sp b = true) (h : DataW.trod enc Tryz.prog W 0 sp hd fuel 22 [v] = some x) (hok : Cell.okWide Tryz.prog W .any b0 22 v) : OpS W mt 5 v :=
  open_flat (f := mt) (w := 5) (by omega) (fun _ => rfl) undMas cellsMa dec_mt hsp h hok
theorem dec_ru {cs : List Value} {x : DataW H × List MemPlace} (h : DataW.trod enc Tryz.prog W 0 sp hd fuel 69 cs = some x) : ∃ y, cs = ruL y := by
  obtain ⟨f0, f1, f2, f3, hu, ⟨a0, b0⟩, ⟨a1, b1⟩, ⟨a2, b2⟩, ⟨a3, b3⟩⟩ := undRu
  obtain ⟨xs, n, _, _, hl, hlen, hf⟩ := DataW.trod_struct hu h
  rw [cellsRu] at hl
  obtain ⟨u0, u1, u2, u3, rfl⟩ : ∃ a b c d, cs = [a, b, c, d] := by
    match cs, hl with
    | [a, b, c, d], _ => exact ⟨a, b, c, d, rfl⟩
  obtain ⟨y0, y1, y2, y3, rfl⟩ : ∃ a b c d, xs = [a, b, c, d] := by
    match xs, hlen with
    | [a, b, c, d], _ => exact ⟨a, b, c, d, rfl⟩
  have h0 := hf 0 f0 rfl
  have h1 := hf 1 f1 rfl
  have h2 := hf 2 f2 rfl
  have h3 := hf 3 f3 rfl
  rw [a0, b0, cellsInt] at h0
  rw [a1, b1, cellsInt] at h1
  rw [a2, b2, cellsInt] at h2
  rw [a3, b3, cellsInt] at h3
  obtain ⟨n0, e0⟩ := trod_i64 (by simpa using h0)
  obtain ⟨n1, e1⟩ := trod_i64 (by simpa using h1)
  obtain ⟨n2, e2⟩ := trod_i64 (by simpa using h2)
  obtain ⟨n3, e3⟩ := trod_i64 (by simpa using h3)
  simp at e0 e1 e2 e3
  subst e0; subst e1; subst e2; subst e3
  exact ⟨⟨n0, n1, n2, n3⟩, rfl⟩
theorem open_season {b0 : Nat} {v : Value} {x : DataW H × List MemPlace} (hsp : ∀ b, sp b = true)
    (h : DataW.trod enc Tryz.prog W 0 sp hd fuel 71 v.cells.toList = some x) (hok : Value.okWide Tryz.prog W .any b0 71 v) : ∃ n v1 r, v = .agg ⟨I n :: v1 :: ruL r⟩ ∧ OpS W mt 5 v1 ∧ ∀ p k c, v1 = .slice p k c → k ≤ Rows.uptoBulk x.1 := by
  obtain ⟨f0, f1, f2, hu, ⟨a0, b0'⟩, ⟨a1, b1'⟩, ⟨a2, b2'⟩⟩ := undSea
  unfold Value.okWide at hok
  rw [hu] at hok
  simp only at hok
  obtain ⟨cs, rfl, hsz, ts, hts, _, hrow⟩ := hok
  rw [rowSea] at hts
  cases hts
  rw [cellsSea] at hsz
  obtain ⟨l⟩ := cs
  obtain ⟨v0, v1, u0, u1, u2, u3, rfl⟩ := list6 (by simpa using hsz)
  obtain ⟨t1, e1, r1⟩ := hrow 1 v1 rfl
  cases e1
  obtain ⟨y0, y1, y2, n, hx, hl, h0, h1, h2⟩ := trod_struct3 hu h
  rw [a0, b0', cellsInt] at h0
  rw [a1, b1', cellsMas] at h1
  rw [a2, b2', cellsRu] at h2
  obtain ⟨n0, e0⟩ := trod_i64 (by simpa [Value.cells] using h0)
  obtain ⟨r, e2⟩ := dec_ru (by simpa [Value.cells] using h2)
  simp at e0
  subst e0
  have h1' : DataW.trod enc Tryz.prog W 0 sp hd n 22 [v1] = some y1 := by simpa [Value.cells] using h1
  refine ⟨n0, v1, r, ?_, open_mas hsp h1' r1, fun p k c e => ?_⟩
  · rw [← e2]
  · subst e
    have q1 := Go.Joins.sliceLen_trod (d := y1.1) (ps := y1.2) undMas h1'
    have q2 := bulk_slice y1.1
    have q3 := bulk_part (d := y1.1) (l := [y0.1, y1.1, y2.1]) (by simp)
    rw [hx]
    simp only [Rows.uptoBulk]
    omega
theorem undPr : ∃ k, Tryz.prog.underlying 23 = some (.array k 3) := ⟨_, rfl⟩
theorem open_pair {b0 : Nat} {v : Value} {x : DataW H × List MemPlace}
    (h : DataW.trod enc Tryz.prog W 0 sp hd fuel 23 v.cells.toList = some x) (hok : Value.okWide Tryz.prog W .any b0 23 v) : ∃ a b, v = .agg ⟨[I a, I b]⟩ := by
  obtain ⟨k, hu⟩ := undPr
  unfold Value.okWide at hok
  rw [hu] at hok
  simp only at hok
  obtain ⟨cs, rfl, hsz, _⟩ := hok
  obtain ⟨y, e⟩ := dec_p2 h
  obtain ⟨l⟩ := cs
  refine ⟨y.1, y.2, ?_⟩
  have e : l = p2 y := e
  rw [e]
end

theorem counts_calls {W : World} (hB : BBok B0 W) {n a b : Int} {v1 : Value} {r : Ru} (h1 : OpS W mt 5 v1) (hlen : ∀ p k c, v1 = .slice p k c → k ≤ 1048576) :
    Calls Tryz.prog 6 ⟨[.agg ⟨I n :: v1 :: ruL r⟩, .agg ⟨[I a, I b]⟩]⟩ W fun e W' => e = .returned (.bool true) ∧ Below W.heap.size W W' := by
  obtain ⟨o1, p1, c1, l1, k1⟩ := h1.use mt_len mt_flat
  have hB1 : BBok (extB [o1]) W := extB_ok hB fun k x hx => by
    match k, hx with
    | 0, hx => exact k1.blk x (by simpa using hx) _
  have b1 := extB_new (bs := [o1]) (k := 0) rfl
  have hl1 : l1.length ≤ 1048576 := by
    obtain ⟨p', c', e⟩ := vr_len (k1.vr _ 1000 (by omega) b1)
    exact hlen _ _ _ e
  refine calls_of_callT (law6 (c := c1) (n := n) (r := r) (a := a) (b := b) (fun h hE => awake17 (glo_extB hE)) (k1.at_ _ 1000 (by omega) b1) (heapOf_get (k := 0) (x := laidBB 0 cs0) (extB_old (show B0 0 = some (laidBB 0 cs0) from rfl))) hl1) (fun u k hu => hu.1) rfl hB1 ?_
  exact .cons (.agg (.cons (.int _ _) (.cons (k1.vr _ 1000 (by omega) b1) (.cons (.int _ _) (.cons (.int _ _) (.cons (.int _ _) (.cons (.int _ _) .nil))))))) (.cons (.agg (.cons (.int _ _) (.cons (.int _ _) .nil))) .nil)

theorem counts_contract (H : Type) (enc : TypeId × Value → H) (W : World) (base : Nat) (args : Array Value) (ds gs : List (DataW H)) (before : List MemPlace)
    (hval : ∀ (j : Nat) t v, Tryz.f6.params[j]? = some t → args[j]? = some v → Value.okWide Tryz.prog W .any base t v)
    (hW : DataW.Whole enc Tryz.prog Tryz.f6.params.toList Rows.leagueCountsSpec.vars false W args.toList ds gs before) (hk : Rows.uptoSmall H (ds ++ gs) = true) (hL : laidMetH Tryz.prog Rows.leagueCountsUptoRow.laid W) :
    Calls Tryz.prog 6 args W fun e W' => ∃ v, e = .returned v ∧ Rows.leagueCountsSpec.post enc Tryz.prog Tryz.f6 false true false false W args v W' := by
  have hW' := hW
  obtain ⟨p, q, hA0, hV, rfl, hfz, hnd⟩ := hW
  have hA : DataW.TrodAll enc Tryz.prog W 0 (fun _ => true) true [71, 23] args.toList ds p := hA0
  obtain ⟨v0, vs0, d0, ds0, p0, q0, hargs, rfl, rfl, h0, r0⟩ := trodAll_cons hA
  obtain ⟨v1, vs1, d1, ds1, p1, q1, rfl, rfl, rfl, h1, r1⟩ := trodAll_cons r0
  obtain ⟨rfl, rfl, rfl⟩ := trodAll_nil r1
  obtain rfl : args = #[v0, v1] := by cases args; simp_all
  obtain ⟨rfl, rfl⟩ := trodVars_none hV
  obtain ⟨f0, hf0⟩ := h0
  obtain ⟨n, u, r, rfl, o1, hlen⟩ := open_season (fun _ => rfl) hf0 (hval 0 _ v0 rfl rfl)
  have hbulk : Rows.uptoBulk d0 ≤ 1048576 := by
    have h : Rows.uptoBulkAll _ ≤ 1048576 := of_decide_eq_true hk
    exact Nat.le_trans (bulk_part (by simp)) h
  obtain ⟨f1, hf1⟩ := h1
  obtain ⟨a, b, rfl⟩ := open_pair hf1 (hval 1 _ v1 rfl rfl)
  refine (counts_calls (bb0_ok hL) (n := n) (a := a) (b := b) (r := r) o1 fun p k c e => Nat.le_trans (hlen p k c e) hbulk).mono fun e W' ⟨he, hb⟩ => ?_
  exact ⟨_, he, law_post (tb := 4) (by kernel_rfl) rfl (by kernel_rfl) hW' rfl hb rfl (by first | exact Tryz.underlying4 | rfl)⟩
end Go.Proofs.YtiggikjbknoohaaGreatDoor
