/- LeagueEither: the contract over every input. -/
import Derived.Test.YtiggikjbknoohaaGreatDoorElJ
import Derived.Test.YtiggikjbknoohaaGreatDoorEiB
noncomputable section
namespace Go.Proofs.YtiggikjbknoohaaGreatDoor
open Go Go.Den Go.ChangeShapes Go.WideShapes Go.ChangeAt Go.RowKit Go.Deep
set_option maxRecDepth 10000

/-- a slice argument told by a block of its own, whose size is known -/
theorem OpS.useX {W : World} {α : Type} {f : α → List Value} {w : Nat} {v : Value} (hf : ∀ x, (f x).length = w) (hfl : ∀ x, (f x).all flatC = true) (h : OpS W f w v) : ∃ o p c l, OpU W f w v o p c l ∧ ∀ B k, 1000 ≤ k → B k = o → SlX (heapOf B) w f (p k) c l := by
  rcases h.out with rfl | ⟨b, sh, ob, len, cap, m, rc, ty, fz, rfl, hle, hm, hh, hsz, hob, hc⟩
  · exact ⟨none, fun _ => none, 0, [], ⟨fun x hx => (by cases hx), fun _ _ _ _ => VR.sliceN _ _, fun _ _ _ _ => .nil, Nat.le_refl _, fun _ _ => ⟨rfl, rfl⟩, fun _ _ e => (by cases e)⟩,
      fun _ _ _ _ => ⟨.nil, fun hne => absurd rfl hne, Nat.le_refl _, fun _ => ⟨rfl, rfl⟩, fun _ e => (by cases e)⟩⟩
  · subst hm
    have hfm : (m.flatMap f).all flatC = true := by
      rw [List.all_eq_true]
      intro x hx
      obtain ⟨y, _, hy⟩ := List.mem_flatMap.1 hx
      exact List.all_eq_true.1 (hfl y) x hy
    have hl : (m.take len).length = len := by rw [List.length_take]; omega
    have hat : ∀ B k, 1000 ≤ k → B k = some (⟨⟨b, rc.size, sh, m.length * w, w, false⟩, m.flatMap f⟩ : BB) → SlAt (heapOf B) w f (some ⟨2 * k + 1, ob, none⟩) (m.take len) := fun B k hk hB => by
      have hg := heapOf_get (k := k) hB
      refine ⟨fun hne => ?_⟩
      have h0 : m.length ≠ 0 := fun e => hne (by rw [List.length_eq_zero_iff.1 e]; simp)
      simp only [hob h0]
      exact ((slAt_flat hf hg).take len).out hne
    refine ⟨some ⟨⟨b, rc.size, sh, m.length * w, w, false⟩, m.flatMap f⟩, fun k => some ⟨2 * k + 1, ob, none⟩, m.length, m.take len, ⟨fun x hx B => ?_, fun B k hk hB => ?_, hat, by omega, fun _ e => (by cases e), fun _ _ e => (by cases e; rfl)⟩, fun B k hk hB => ⟨hat B k hk hB, fun _ b' o' e => ?_, by omega, fun e => (by cases e), fun _ e => (by cases e; rfl)⟩⟩
    · cases hx
      exact ⟨rc, ty, fz, hh, (len_flat hf m).symm, rfl, by rw [len_flat hf]; exact hsz, rfl, fun j v hv => ⟨v, hc j v hv, flatVR hfm hv⟩⟩
    · rw [hl]
      have := gaOf_at (k := k) hB
      exact .slice this (.inl rfl)
    · cases e
      exact ⟨_, _, heapOf_get (k := k) hB⟩

theorem either_calls {W : World} (hB : BBok B0 W) {v0 v1 : Value} (h0 : OpS W i1 1 v0) (h1 : OpS W p2 2 v1) :
    Calls Tryz.prog 14 ⟨[.agg ⟨[v0, v1]⟩]⟩ W fun e W' => e = .returned (.bool true) ∧ Below W.heap.size W W' := by
  obtain ⟨o0, p0, c0, l0, k0⟩ := h0.use i1_len flat_i1
  obtain ⟨o1, p1, c1, l1, k1, x1⟩ := h1.useX p2_len flat_p2
  have hB1 : BBok (extB [o0, o1]) W := extB_ok hB fun k x hx => by
    match k, hx with
    | 0, hx => exact k0.blk x (by simpa using hx) _
    | 1, hx => exact k1.blk x (by simpa using hx) _
  have b0 := extB_new (bs := [o0, o1]) (k := 0) rfl
  have b1 := extB_new (bs := [o0, o1]) (k := 1) rfl
  refine calls_of_callT (law14 (c := c0) (d := c1) (fun h hE => awake17 (glo_extB hE)) (k0.at_ _ 1000 (by omega) b0) (x1 _ 1001 (by omega) b1)) (fun u k hu => hu.1) rfl hB1 ?_
  exact .cons (.agg (.cons (k0.vr _ 1000 (by omega) b0) (.cons (k1.vr _ 1001 (by omega) b1) .nil))) .nil

theorem either_contract (H : Type) (enc : TypeId × Value → H) (W : World) (base : Nat) (args : Array Value) (ds gs : List (DataW H)) (before : List MemPlace)
    (hval : ∀ (j : Nat) t v, Tryz.f14.params[j]? = some t → args[j]? = some v → Value.okWide Tryz.prog W .any base t v)
    (hW : DataW.Whole enc Tryz.prog Tryz.f14.params.toList Rows.leagueEitherSpec.vars false W args.toList ds gs before) (hL : laidMetH Tryz.prog Rows.leagueEitherRow.laid W) :
    Calls Tryz.prog 14 args W fun e W' => ∃ v, e = .returned v ∧ Rows.leagueEitherSpec.post enc Tryz.prog Tryz.f14 false true false false W args v W' := by
  have hW' := hW
  obtain ⟨p, q, hA0, hV, rfl, hfz, hnd⟩ := hW
  have hA : DataW.TrodAll enc Tryz.prog W 0 (fun _ => true) true [108] args.toList ds p := hA0
  obtain ⟨v0, vs0, d0, ds0, p0, q0, hargs, rfl, rfl, h0, r0⟩ := trodAll_cons hA
  obtain ⟨rfl, rfl, rfl⟩ := trodAll_nil r0
  obtain rfl : args = #[v0] := by cases args; simp_all
  obtain ⟨rfl, rfl⟩ := trodVars_none hV
  obtain ⟨f0, hf0⟩ := h0
  obtain ⟨u0, u1, rfl, o0, o1⟩ := open_race (fun _ => rfl) hf0 (hval 0 _ v0 rfl rfl)
  refine (either_calls (bb0_ok hL) o0 o1).mono fun e W' ⟨he, hb⟩ => ?_
  exact ⟨_, he, law_post (tb := 4) (by kernel_rfl) rfl (by kernel_rfl) hW' rfl hb rfl (by first | exact Tryz.underlying4 | rfl)⟩
end Go.Proofs.YtiggikjbknoohaaGreatDoor
