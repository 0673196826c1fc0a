/- HallSums: the contract over every input. -/
import Derived.Test.YtfegloadbajbhaaGreatDoorOpA
import Derived.Test.YtfegloadbajbhaaGreatDoorElJ
import Derived.Test.YtfegloadbajbhaaGreatDoorAwake
import Derived.Test.YtfegloadbajbhaaGreatDoorHaG
noncomputable section
namespace Go.Proofs.YtfegloadbajbhaaGreatDoor
open Go Go.Den Go.ChangeShapes Go.WideShapes Go.ChangeAt Go.RowKit Go.Deep
set_option maxRecDepth 10000

noncomputable instance : Inhabited Ra := ⟨⟨0, 0, 0⟩⟩
theorem undRa : ∃ f0 f1 f2 : Field, Tryz.prog.underlying 149 = some (.struct #[f0, f1, f2]) ∧ (f0.type = 3 ∧ f0.offset = 0) ∧ (f1.type = 3 ∧ f1.offset = 1) ∧ (f2.type = 3 ∧ f2.offset = 2) := ⟨_, _, _, rfl, ⟨rfl, rfl⟩, ⟨rfl, rfl⟩, ⟨rfl, rfl⟩⟩
theorem undRas : Tryz.prog.underlying 80 = some (.slice 149) := rfl
theorem cellsRa : Tryz.prog.cellsOf 149 = 3 := by decide +kernel
theorem und3 : Tryz.prog.underlying 147 = some (.array 3 3) := rfl
theorem cells3 : Tryz.prog.cellsOf 147 = 3 := by decide +kernel
theorem ra_flat (x : Ra) : (ra x).all flatC = true := rfl
section
variable {H : Type} {enc : TypeId × Value → H} {W : World} {sp : Nat → Bool} {hd : Bool} {fuel : Nat}
theorem dec_ra {cs : List Value} {x : DataW H × List MemPlace} (h : DataW.trod enc Tryz.prog W 0 sp hd fuel 149 cs = some x) : ∃ y, cs = ra y := by
  obtain ⟨f0, f1, f2, hu, ⟨a0, b0⟩, ⟨a1, b1⟩, ⟨a2, b2⟩⟩ := undRa
  obtain ⟨y0, y1, y2, n, _, hl, h0, h1, h2⟩ := trod_struct3 hu h
  rw [a0, b0] at h0
  rw [a1, b1] at h1
  rw [a2, b2] at h2
  rw [cellsRa] at hl
  rw [cellsInt] at h0 h1 h2
  match cs, hl with
  | [u0, u1, u2], _ =>
    obtain ⟨n0, e0⟩ := trod_i64 h0
    obtain ⟨n1, e1⟩ := trod_i64 h1
    obtain ⟨n2, e2⟩ := trod_i64 h2
    simp at e0 e1 e2
    subst e0; subst e1; subst e2
    exact ⟨⟨n0, n1, n2⟩, rfl⟩
theorem dec_3 {cs : List Value} {x : DataW H × List MemPlace} (h : DataW.trod enc Tryz.prog W 0 sp hd fuel 147 cs = some x) : ∃ a b c, cs = [I a, I b, I c] := by
  cases fuel with
  | zero => simp [DataW.trod] at h
  | succ fuel =>
    unfold DataW.trod at h
    rw [und3] at h
    simp only at h
    split at h
    · rename_i hlen
      rw [cells3] at hlen
      cases hm : (List.range 3).mapM (fun i => DataW.trod enc Tryz.prog W 0 sp hd fuel 3 ((cs.drop (i * Tryz.prog.cellsOf 3)).take (Tryz.prog.cellsOf 3))) with
      | none => rw [hm] at h; cases h
      | some xs =>
        rw [show List.range 3 = [0, 1, 2] from rfl] at hm
        obtain ⟨y, zs, h1, h2, rfl⟩ := mapM_cons_some hm
        obtain ⟨y', zs', h3, h4, rfl⟩ := mapM_cons_some h2
        obtain ⟨y'', zs'', h5, h6, rfl⟩ := mapM_cons_some h4
        rw [cellsInt] at h1 h3 h5
        match cs, hlen with
        | [u0, u1, u2], _ =>
          obtain ⟨n0, e0⟩ := trod_i64 h1
          obtain ⟨n1, e1⟩ := trod_i64 h3
          obtain ⟨n2, e2⟩ := trod_i64 h5
          simp at e0 e1 e2
          subst e0; subst e1; subst e2
          exact ⟨n0, n1, n2, rfl⟩
    · cases h
theorem open_rates {b0 : Nat} {v : Value} {x : DataW H × List MemPlace} (hsp : ∀ b, sp b = true) (h : DataW.trod enc Tryz.prog W 0 sp hd fuel 80 [v] = some x) (hok : Cell.okWide Tryz.prog W .any b0 80 v) : OpS W ra 3 v :=
  open_flat (f := ra) (w := 3) (by omega) ra_len undRas cellsRa dec_ra hsp h hok
theorem ok_rates {b0 : Nat} {v : Value} (h : Value.okWide Tryz.prog W .any b0 80 v) : Cell.okWide Tryz.prog W .any b0 80 v := by
  unfold Value.okWide at h
  rw [undRas] at h
  exact h
end
theorem OpU.low {W : World} {α : Type} {f : α → List Value} {w : Nat} {v : Value} {o : Option BB} {p : Nat → Option Addr} {c : Nat} {l : List α} (h : OpU W f w v o p c l) (k : Nat) : LowS (p k) c l.length := ⟨h.cap, h.nil k, h.spot k⟩
theorem sums_calls {W : World} (hB : BBok B0 W) {v0 : Value} {a0 a1 a2 n : Int} (h0 : OpS W ra 3 v0) :
    Calls Tryz.prog 13 ⟨[v0, .agg ⟨[I a0, I a1, I a2]⟩, I n]⟩ W fun e W' => e = .returned (.bool true) ∧ Below W.heap.size W W' := by
  obtain ⟨o0, p0, c0, l0, k0⟩ := h0.use ra_len ra_flat
  have hB1 : BBok (extB [o0]) W := extB_ok hB fun k x hx => by
    match k, hx with
    | 0, hx => exact k0.blk x (by simpa using hx) _
  have b0 := extB_new (bs := [o0]) (k := 0) rfl
  refine calls_of_callT (sums_w (c := c0) (a0 := a0) (a1 := a1) (a2 := a2) (n := n) (fun h hE => awake17 (glo_extB hE)) (k0.at_ _ 1000 (by omega) b0) (k0.low 1000)) (fun u k hu => hu.1) rfl hB1 ?_
  exact .cons (k0.vr _ 1000 (by omega) b0) (.cons (.agg (.cons (.int _ _) (.cons (.int _ _) (.cons (.int _ _) .nil)))) (.cons (.int _ _) .nil))
theorem sums_contract (H : Type) (enc : TypeId × Value → H) (W : World) (base : Nat) (args : Array Value) (ds gs : List (DataW H)) (before : List MemPlace)
    (hval : ∀ (j : Nat) t v, Tryz.f13.params[j]? = some t → args[j]? = some v → Value.okWide Tryz.prog W .any base t v)
    (hW : DataW.Whole enc Tryz.prog Tryz.f13.params.toList Rows.hallSumsSpec.vars false W args.toList ds gs before) (hL : laidMetH Tryz.prog Rows.hallSumsRow.laid W) :
    Calls Tryz.prog 13 args W fun e W' => ∃ v, e = .returned v ∧ Rows.hallSumsSpec.post enc Tryz.prog Tryz.f13 false true false false W args v W' := by
  have hW' := hW
  obtain ⟨p, q, hA0, hV, rfl, hfz, hnd⟩ := hW
  have hA : DataW.TrodAll enc Tryz.prog W 0 (fun _ => true) true [80, 147, 3] args.toList ds p := hA0
  obtain ⟨v0, vs0, d0, ds0, p0, q0, hargs, rfl, rfl, h0, r0⟩ := trodAll_cons hA
  obtain ⟨v1, vs1, d1, ds1, p1, q1, rfl, rfl, rfl, h1, r1⟩ := trodAll_cons r0
  obtain ⟨v2, vs2, d2, ds2, p2', q2, rfl, rfl, rfl, h2, r2⟩ := trodAll_cons r1
  obtain ⟨rfl, rfl, rfl⟩ := trodAll_nil r2
  obtain rfl : args = #[v0, v1, v2] := by cases args; simp_all
  obtain ⟨rfl, rfl⟩ := trodVars_none hV
  obtain ⟨n, rfl, rfl, rfl, _⟩ := open_int (k := .i64) (show Tryz.prog.underlying 3 = some (.int .i64) from rfl) (hval 2 3 v2 rfl rfl) h2
  have hok1 : Value.okWide Tryz.prog W .any base 147 v1 := hval 1 _ v1 rfl rfl
  unfold Value.okWide at hok1
  rw [und3] at hok1
  simp only at hok1
  obtain ⟨cs, rfl, hsz, _⟩ := hok1
  obtain ⟨f1, hf1⟩ := h1
  obtain ⟨a0, a1, a2, e1⟩ := dec_3 hf1
  obtain ⟨cl⟩ := cs
  simp only [Value.cells] at e1
  subst e1
  have hok0 := ok_rates (hval 0 _ v0 rfl rfl)
  obtain ⟨f0, hf0⟩ := h0
  have hv0 : v0.cells.toList = [v0] := by
    cases v0 <;> first | rfl | (simp [Cell.okWide, Cell.ok] at hok0)
  rw [hv0] at hf0
  have o0 := open_rates (fun _ => rfl) hf0 hok0
  refine (sums_calls (bb0_ok hL) o0).mono fun e W' ⟨he, hb⟩ => ?_
  exact ⟨_, he, law_post (tb := 4) (by kernel_rfl) rfl (by kernel_rfl) hW' rfl hb rfl (by first | exact Tryz.underlying4 | rfl)⟩
end Go.Proofs.YtfegloadbajbhaaGreatDoor
