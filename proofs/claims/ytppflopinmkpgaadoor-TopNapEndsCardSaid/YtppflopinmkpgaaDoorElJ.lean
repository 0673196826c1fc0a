/- LeagueEliminates: the contract over every input, the row's forms, the card. -/
import Derived.Test.YtppflopinmkpgaaDoorOpA
import Derived.Test.YtppflopinmkpgaaDoorElG
import Derived.Test.YtppflopinmkpgaaDoorFnF
import Derived.Test.YtppflopinmkpgaaDoorAwake
noncomputable section
namespace Go.Proofs.YtppflopinmkpgaaDoor
open Go Go.Den Go.ChangeShapes Go.WideShapes Go.ChangeAt Go.RowKit Go.Deep
set_option maxRecDepth 10000
noncomputable instance : Inhabited (Int × Int) := ⟨(0, 0)⟩

theorem undInts : Tryd.prog.underlying 40 = some (.slice 3) := rfl
theorem undPairs : Tryd.prog.underlying 41 = some (.slice 51) := rfl
theorem undPair : Tryd.prog.underlying 51 = some (.array 2 3) := rfl
theorem cellsInt : Tryd.prog.cellsOf 3 = 1 := by decide +kernel
theorem cellsPair : Tryd.prog.cellsOf 51 = 2 := by decide +kernel
theorem i1_len (x : Int) : (i1 x).length = 1 := rfl
theorem p2_len (x : Int × Int) : (p2 x).length = 2 := rfl
theorem flat_i1 (x : Int) : (i1 x).all flatC = true := rfl
theorem flat_p2 (x : Int × Int) : (p2 x).all flatC = true := rfl

section
variable {H : Type} {enc : TypeId × Value → H} {W : World} {sp : Nat → Bool} {hd : Bool} {fuel : Nat}
theorem dec_i1 {cs : List Value} {x : DataW H × List MemPlace} (h : DataW.trod enc Tryd.prog W 0 sp hd fuel 3 cs = some x) : ∃ y, cs = i1 y := trod_i64 h
theorem dec_p2 {cs : List Value} {x : DataW H × List MemPlace} (h : DataW.trod enc Tryd.prog W 0 sp hd fuel 51 cs = some x) : ∃ y, cs = p2 y := by
  cases fuel with
  | zero => simp [DataW.trod] at h
  | succ fuel =>
    unfold DataW.trod at h
    rw [undPair] at h
    simp only at h
    split at h
    · rename_i hlen
      rw [cellsPair] at hlen
      cases hm : (List.range 2).mapM (fun i => DataW.trod enc Tryd.prog W 0 sp hd fuel 3 ((cs.drop (i * Tryd.prog.cellsOf 3)).take (Tryd.prog.cellsOf 3))) with
      | none => rw [hm] at h; cases h
      | some xs =>
        rw [show List.range 2 = [0, 1] from rfl] at hm
        obtain ⟨y, zs, h1, h2, rfl⟩ := mapM_cons_some hm
        obtain ⟨y', zs', h3, h4, rfl⟩ := mapM_cons_some h2
        rw [cellsInt] at h1 h3
        match cs, hlen with
        | [u0, u1], _ =>
          obtain ⟨n0, e0⟩ := trod_i64 h1
          obtain ⟨n1, e1⟩ := trod_i64 h3
          simp at e0 e1
          subst e0; subst e1
          exact ⟨(n0, n1), rfl⟩
    · cases h
theorem open_ints {b0 : Nat} {v : Value} {x : DataW H × List MemPlace} (hsp : ∀ b, sp b = true) (h : DataW.trod enc Tryd.prog W 0 sp hd fuel 40 [v] = some x) (hok : Cell.okWide Tryd.prog W .any b0 40 v) : OpS W i1 1 v :=
  open_flat (f := i1) (w := 1) (by omega) (fun _ => rfl) undInts cellsInt dec_i1 hsp h hok
theorem open_pairs {b0 : Nat} {v : Value} {x : DataW H × List MemPlace} (hsp : ∀ b, sp b = true) (h : DataW.trod enc Tryd.prog W 0 sp hd fuel 41 [v] = some x) (hok : Cell.okWide Tryd.prog W .any b0 41 v) : OpS W p2 2 v :=
  open_flat (f := p2) (w := 2) (by omega) (fun _ => rfl) undPairs cellsPair dec_p2 hsp h hok
end

theorem undRace : ∃ f0 f1 : Field, Tryd.prog.underlying 43 = some (.struct #[f0, f1]) ∧ (f0.type = 40 ∧ f0.offset = 0) ∧ (f1.type = 41 ∧ f1.offset = 1) := ⟨_, _, rfl, ⟨rfl, rfl⟩, ⟨rfl, rfl⟩⟩
theorem cellsRace : Tryd.prog.cellsOf 43 = 2 := by decide +kernel
theorem cellsSl : Tryd.prog.cellsOf 40 = 1 ∧ Tryd.prog.cellsOf 41 = 1 := by decide +kernel
theorem rowRace : Tryd.prog.cellTypes Tryd.prog.depth 43 = some [40, 41] := by decide +kernel

theorem open_race {H : Type} {enc : TypeId × Value → H} {W : World} {sp : Nat → Bool} {hd : Bool} {fuel : Nat} {b0 : Nat} {v : Value} {x : DataW H × List MemPlace} (hsp : ∀ b, sp b = true)
    (h : DataW.trod enc Tryd.prog W 0 sp hd fuel 43 v.cells.toList = some x) (hok : Value.okWide Tryd.prog W .any b0 43 v) : ∃ v0 v1, v = .agg ⟨[v0, v1]⟩ ∧ OpS W i1 1 v0 ∧ OpS W p2 2 v1 := by
  obtain ⟨f0, f1, hu, ⟨a0, b0'⟩, ⟨a1, b1'⟩⟩ := undRace
  unfold Value.okWide at hok
  rw [hu] at hok
  simp only at hok
  obtain ⟨cs, rfl, hsz, ts, hts, _, hrow⟩ := hok
  rw [rowRace] at hts
  cases hts
  rw [cellsRace] at hsz
  obtain ⟨l⟩ := cs
  match l, hsz with
  | [v0, v1], _ =>
    obtain ⟨t0, e0, r0⟩ := hrow 0 v0 rfl
    obtain ⟨t1, e1, r1⟩ := hrow 1 v1 rfl
    cases e0; cases e1
    obtain ⟨y0, y1, n, _, hl, h0, h1⟩ := trod_struct2 hu h
    rw [a0, b0', cellsSl.1] at h0
    rw [a1, b1', cellsSl.2] at h1
    exact ⟨v0, v1, rfl, open_ints hsp h0 r0, open_pairs hsp h1 r1⟩

end Go.Proofs.YtppflopinmkpgaaDoor
