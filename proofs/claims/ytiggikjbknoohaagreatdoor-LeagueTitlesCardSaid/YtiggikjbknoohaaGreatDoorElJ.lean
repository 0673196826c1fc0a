/- LeagueEliminates: the contract over every input, the row's forms, the card. -/
import Derived.Test.YtiggikjbknoohaaGreatDoorOpA
import Derived.Test.YtiggikjbknoohaaGreatDoorElI
import Derived.Test.YtiggikjbknoohaaGreatDoorAwake
noncomputable section
namespace Go.Proofs.YtiggikjbknoohaaGreatDoor
open Go Go.Den Go.ChangeShapes Go.WideShapes Go.ChangeAt Go.RowKit Go.Deep
set_option maxRecDepth 10000
noncomputable instance : Inhabited (Int × Int) := ⟨(0, 0)⟩

theorem undInts : Tryz.prog.underlying 33 = some (.slice 3) := rfl
theorem undPairs : Tryz.prog.underlying 54 = some (.slice 23) := rfl
theorem undPair : Tryz.prog.underlying 23 = some (.array 2 3) := rfl
theorem cellsInt : Tryz.prog.cellsOf 3 = 1 := by decide +kernel
theorem cellsPair : Tryz.prog.cellsOf 23 = 2 := by decide +kernel
theorem i1_len (x : Int) : (i1 x).length = 1 := rfl
theorem p2_len (x : Int × Int) : (p2 x).length = 2 := rfl
theorem flat_i1 (x : Int) : (i1 x).all flatC = true := rfl
theorem flat_p2 (x : Int × Int) : (p2 x).all flatC = true := rfl

section
variable {H : Type} {enc : TypeId × Value → H} {W : World} {sp : Nat → Bool} {hd : Bool} {fuel : Nat}
theorem dec_i1 {cs : List Value} {x : DataW H × List MemPlace} (h : DataW.trod enc Tryz.prog W 0 sp hd fuel 3 cs = some x) : ∃ y, cs = i1 y := trod_i64 h
theorem dec_p2 {cs : List Value} {x : DataW H × List MemPlace} (h : DataW.trod enc Tryz.prog W 0 sp hd fuel 23 cs = some x) : ∃ y, cs = p2 y := by
  cases fuel with
  | zero => simp [DataW.trod] at h
  | succ fuel =>
    unfold DataW.trod at h
    rw [undPair] at h
    simp only at h
    split at h
    · rename_i hlen
      rw [cellsPair] at hlen
      cases hm : (List.range 2).mapM (fun i => DataW.trod enc Tryz.prog W 0 sp hd fuel 3 ((cs.drop (i * Tryz.prog.cellsOf 3)).take (Tryz.prog.cellsOf 3))) with
      | none => rw [hm] at h; cases h
      | some xs =>
        rw [show List.range 2 = [0, 1] from rfl] at hm
        obtain ⟨y, zs, h1, h2, rfl⟩ := mapM_cons_some hm
        obtain ⟨y', zs', h3, h4, rfl⟩ := mapM_cons_some h2
        rw [cellsInt] at h1 h3
        match cs, hlen with
        | [u0, u1], _ =>
          obtain ⟨n0, e0⟩ := trod_i64 h1
          obtain ⟨n1, e1⟩ := trod_i64 h3
          simp at e0 e1
          subst e0; subst e1
          exact ⟨(n0, n1), rfl⟩
    · cases h
theorem open_ints {b0 : Nat} {v : Value} {x : DataW H × List MemPlace} (hsp : ∀ b, sp b = true) (h : DataW.trod enc Tryz.prog W 0 sp hd fuel 33 [v] = some x) (hok : Cell.okWide Tryz.prog W .any b0 33 v) : OpS W i1 1 v :=
  open_flat (f := i1) (w := 1) (by omega) (fun _ => rfl) undInts cellsInt dec_i1 hsp h hok
theorem open_pairs {b0 : Nat} {v : Value} {x : DataW H × List MemPlace} (hsp : ∀ b, sp b = true) (h : DataW.trod enc Tryz.prog W 0 sp hd fuel 54 [v] = some x) (hok : Cell.okWide Tryz.prog W .any b0 54 v) : OpS W p2 2 v :=
  open_flat (f := p2) (w := 2) (by omega) (fun _ => rfl) undPairs cellsPair dec_p2 hsp h hok
theorem ok_ints {b0 : Nat} {v : Value} (h : Value.okWide Tryz.prog W .any b0 33 v) : Cell.okWide Tryz.prog W .any b0 33 v := by
  unfold Value.okWide at h
  rw [undInts] at h
  exact h
end

theorem undRace : ∃ f0 f1 : Field, Tryz.prog.underlying 108 = some (.struct #[f0, f1]) ∧ (f0.type = 33 ∧ f0.offset = 0) ∧ (f1.type = 54 ∧ f1.offset = 1) := ⟨_, _, rfl, ⟨rfl, rfl⟩, ⟨rfl, rfl⟩⟩
theorem cellsRace : Tryz.prog.cellsOf 108 = 2 := by decide +kernel
theorem cellsSl : Tryz.prog.cellsOf 33 = 1 ∧ Tryz.prog.cellsOf 54 = 1 := by decide +kernel
theorem rowRace : Tryz.prog.cellTypes Tryz.prog.depth 108 = some [33, 54] := by decide +kernel

theorem open_race {H : Type} {enc : TypeId × Value → H} {W : World} {sp : Nat → Bool} {hd : Bool} {fuel : Nat} {b0 : Nat} {v : Value} {x : DataW H × List MemPlace} (hsp : ∀ b, sp b = true)
    (h : DataW.trod enc Tryz.prog W 0 sp hd fuel 108 v.cells.toList = some x) (hok : Value.okWide Tryz.prog W .any b0 108 v) : ∃ v0 v1, v = .agg ⟨[v0, v1]⟩ ∧ OpS W i1 1 v0 ∧ OpS W p2 2 v1 := by
  obtain ⟨f0, f1, hu, ⟨a0, b0'⟩, ⟨a1, b1'⟩⟩ := undRace
  unfold Value.okWide at hok
  rw [hu] at hok
  simp only at hok
  obtain ⟨cs, rfl, hsz, ts, hts, _, hrow⟩ := hok
  rw [rowRace] at hts
  cases hts
  rw [cellsRace] at hsz
  obtain ⟨l⟩ := cs
  match l, hsz with
  | [v0, v1], _ =>
    obtain ⟨t0, e0, r0⟩ := hrow 0 v0 rfl
    obtain ⟨t1, e1, r1⟩ := hrow 1 v1 rfl
    cases e0; cases e1
    obtain ⟨y0, y1, n, _, hl, h0, h1⟩ := trod_struct2 hu h
    rw [a0, b0', cellsSl.1] at h0
    rw [a1, b1', cellsSl.2] at h1
    exact ⟨v0, v1, rfl, open_ints hsp h0 r0, open_pairs hsp h1 r1⟩

theorem eliminates_calls {W : World} (hB : BBok B0 W) {v0 v1 v2 : Value} {team : Int} (h0 : OpS W i1 1 v0) (h1 : OpS W p2 2 v1) (h2 : OpS W i1 1 v2) :
    Calls Tryz.prog 11 ⟨[.agg ⟨[v0, v1]⟩, I team, v2]⟩ W fun e W' => e = .returned (.bool true) ∧ Below W.heap.size W W' := by
  obtain ⟨o0, p0, c0, l0, k0⟩ := h0.use i1_len flat_i1
  obtain ⟨o1, p1, c1, l1, k1⟩ := h1.use p2_len flat_p2
  obtain ⟨o2, p2', c2, l2, k2⟩ := h2.use i1_len flat_i1
  have hB1 : BBok (extB [o0, o1, o2]) W := extB_ok hB fun k x hx => by
    match k, hx with
    | 0, hx => exact k0.blk x (by simpa using hx) _
    | 1, hx => exact k1.blk x (by simpa using hx) _
    | 2, hx => exact k2.blk x (by simpa using hx) _
  have b0 := extB_new (bs := [o0, o1, o2]) (k := 0) rfl
  have b1 := extB_new (bs := [o0, o1, o2]) (k := 1) rfl
  have b2 := extB_new (bs := [o0, o1, o2]) (k := 2) rfl
  refine calls_of_callT (law11 (c := c0) (d := c1) (e := c2) (team := team) (fun h hE => awake17 (glo_extB hE)) (k0.at_ _ 1000 (by omega) b0) (k1.at_ _ 1001 (by omega) b1) (k2.at_ _ 1002 (by omega) b2)) (fun u k hu => hu.1) rfl hB1 ?_
  exact .cons (.agg (.cons (k0.vr _ 1000 (by omega) b0) (.cons (k1.vr _ 1001 (by omega) b1) .nil))) (.cons (.int _ _) (.cons (k2.vr _ 1002 (by omega) b2) .nil))

theorem eliminates_contract (H : Type) (enc : TypeId × Value → H) (W : World) (base : Nat) (args : Array Value) (ds gs : List (DataW H)) (before : List MemPlace)
    (hval : ∀ (j : Nat) t v, Tryz.f11.params[j]? = some t → args[j]? = some v → Value.okWide Tryz.prog W .any base t v)
    (hW : DataW.Whole enc Tryz.prog Tryz.f11.params.toList Rows.leagueEliminatesSpec.vars false W args.toList ds gs before) (hL : laidMetH Tryz.prog Rows.leagueEliminatesRow.laid W) :
    Calls Tryz.prog 11 args W fun e W' => ∃ v, e = .returned v ∧ Rows.leagueEliminatesSpec.post enc Tryz.prog Tryz.f11 false true false false W args v W' := by
  have hW' := hW
  obtain ⟨p, q, hA0, hV, rfl, hfz, hnd⟩ := hW
  have hA : DataW.TrodAll enc Tryz.prog W 0 (fun _ => true) true [108, 3, 33] args.toList ds p := hA0
  obtain ⟨v0, vs0, d0, ds0, p0, q0, hargs, rfl, rfl, h0, r0⟩ := trodAll_cons hA
  obtain ⟨v1, vs1, d1, ds1, p1, q1, rfl, rfl, rfl, h1, r1⟩ := trodAll_cons r0
  obtain ⟨v2, vs2, d2, ds2, p2', q2, rfl, rfl, rfl, h2, r2⟩ := trodAll_cons r1
  obtain ⟨rfl, rfl, rfl⟩ := trodAll_nil r2
  obtain rfl : args = #[v0, v1, v2] := by cases args; simp_all
  obtain ⟨rfl, rfl⟩ := trodVars_none hV
  obtain ⟨n, rfl, rfl, rfl, _⟩ := open_int (k := .i64) (show Tryz.prog.underlying 3 = some (.int .i64) from rfl) (hval 1 3 v1 rfl rfl) h1
  obtain ⟨f0, hf0⟩ := h0
  obtain ⟨u0, u1, rfl, o0, o1⟩ := open_race (fun _ => rfl) hf0 (hval 0 _ v0 rfl rfl)
  have hok2 := ok_ints (hval 2 _ v2 rfl rfl)
  obtain ⟨f2, hf2⟩ := h2
  have hv2 : v2.cells.toList = [v2] := by
    cases v2 <;> first | rfl | (simp [Cell.okWide, Cell.ok] at hok2)
  rw [hv2] at hf2
  have o2 := open_ints (fun _ => rfl) hf2 hok2
  refine (eliminates_calls (bb0_ok hL) o0 o1 o2).mono fun e W' ⟨he, hb⟩ => ?_
  exact ⟨_, he, law_post (tb := 4) (by kernel_rfl) rfl (by kernel_rfl) hW' rfl hb rfl (by first | exact Tryz.underlying4 | rfl)⟩
end Go.Proofs.YtiggikjbknoohaaGreatDoor
