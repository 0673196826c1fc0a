/- LeaguePromotions: the contract over every input. -/
import Derived.Test.YtiggikjbknoohaaGreatDoorPnJ
import Derived.Test.YtiggikjbknoohaaGreatDoorPrG
noncomputable section
namespace Go.Proofs.YtiggikjbknoohaaGreatDoor
open Go Go.Den Go.ChangeShapes Go.WideShapes Go.ChangeAt Go.RowKit Go.Deep
set_option maxRecDepth 10000

/-- an inner slice told by a block of its own, which may be cut -/
structure OpW (W : World) {α : Type} (f : α → List Value) (w : Nat) (v : Value) (o : Option BB) (p : Nat → Option Addr) (c : Nat) (l : List α) : Prop where
  blk : ∀ y, o = some y → ∀ B, BBat B W y
  vr : ∀ B k, 1000 ≤ k → B k = o → VR (gaOf B) (.slice (p k) l.length c) v
  wd : ∀ B k, 1000 ≤ k → B k = o → WdG (heapOf B) w f (p k) c l

theorem OpI.useW {W : World} {α : Type} {f : α → List Value} {w : Nat} {v : Value} (hf : ∀ x, (f x).length = w) (hfl : ∀ x, (f x).all flatC = true) (h : OpI W f w v) : ∃ o p c l, OpW W f w v o p c l := by
  cases h with
  | nil => exact ⟨none, fun _ => none, 0, [], ⟨fun _ e => (by cases e), fun _ _ _ _ => .sliceN _ _, fun _ _ _ _ => .inl ⟨rfl, rfl, rfl⟩⟩⟩
  | zero a => exact ⟨none, fun _ => some ⟨0, 0, some 0⟩, 0, [], ⟨fun _ e => (by cases e), fun _ _ _ _ => .sliceZ a, fun _ _ _ _ => .inr (.inl ⟨rfl, rfl, rfl⟩)⟩⟩
  | @blk b sh len m rc ty fz hle hne hh hsz hc =>
    have hfm : (m.flatMap f).all flatC = true := by
      rw [List.all_eq_true]
      intro x hx
      obtain ⟨y, _, hy⟩ := List.mem_flatMap.1 hx
      exact List.all_eq_true.1 (hfl y) x hy
    have hl : (m.take len).length = len := by rw [List.length_take]; omega
    refine ⟨some ⟨⟨b, rc.size, sh, m.length * w, w, false⟩, m.flatMap f⟩, fun k => some ⟨2 * k + 1, 0, none⟩, m.length, m.take len, ⟨fun x hx B => ?_, fun B k hk hB => ?_, fun B k hk hB => ?_⟩⟩
    · cases hx
      exact ⟨rc, ty, fz, hh, (len_flat hf m).symm, rfl, by rw [len_flat hf]; exact hsz, rfl, fun j v hv => ⟨v, hc j v hv, flatVR hfm hv⟩⟩
    · rw [hl]
      have := gaOf_at (k := k) hB
      exact VR.slice (o := 0) this (.inl rfl)
    · have hg := heapOf_get (k := k) hB
      refine .inr (.inr ⟨2 * k + 1, 0, m.flatMap f, true, rfl, hg, by omega, fun i hi => ?_⟩)
      have hne' : m ≠ [] := fun e => hne (by rw [e]; rfl)
      obtain ⟨b', o', cs', z', s', ro', e, hg', hw'⟩ := (slAt_flat hf hg).out hne'
      cases e
      rw [hg] at hg'
      cases hg'
      rw [List.getElem_take]
      exact hw' i (by rw [hl] at hi; omega)

/-- a slice of slices, told by blocks from the index k1 on -/
theorem grid_useW {W : World} {α β : Type} {f : α → List Value} {w : Nat} (hf : ∀ x, (f x).length = w) (hfl : ∀ x, (f x).all flatC = true) (mk : Option Addr → Nat → List α → β) (enc : β → List Value) (hen : ∀ p c l, enc (mk p c l) = [.slice p l.length c]) (hbz : ∀ x, (enc x).length = 1)
    {v : Value} (h : OpS W (fun y : {u // OpI W f w u} => [y.1]) 1 v) {k1 : Nat} (hk1 : 1000 ≤ k1) : ∃ (o : Option BB) (os : List (Option BB)) (p : Option Addr) (c : Nat) (l : List β),
    ∀ B, B k1 = o → (∀ i x, os[i]? = some x → B (k1 + 1 + i) = x) → (∀ x, o = some x → BBat B W x) ∧ (∀ x, some x ∈ os → BBat B W x) ∧ VR (gaOf B) (.slice p l.length c) v ∧ SlAt (heapOf B) 1 enc p l ∧ (∀ x ∈ l, ∃ p' c' y, x = mk p' c' y ∧ WdG (heapOf B) w f p' c' y) ∧ l.length ≤ c := by
  rcases h.out with rfl | ⟨b, sh, ob, len, cap, m, rc, ty, fz, rfl, hle, hm, hh, hsz, hob, hc⟩
  · exact ⟨none, [], none, 0, [], fun B _ _ => ⟨fun x e => (by cases e), fun x e => (by cases e), .sliceN _ _, ⟨fun e => absurd rfl e⟩, fun x e => (by cases e), Nat.le_refl _⟩⟩
  · subst hm
    have hU : ∀ y : {u // OpI W f w u}, ∃ q : Option BB × (Nat → Option Addr) × Nat × List α, OpW W f w y.1 q.1 q.2.1 q.2.2.1 q.2.2.2 := fun y => let ⟨o, p, c, l, hx⟩ := y.2.useW hf hfl; ⟨(o, p, c, l), hx⟩
    obtain ⟨F, hF⟩ := Classical.axiomOfChoice hU
    obtain ⟨G, hG⟩ : ∃ G : Nat → {u // OpI W f w u} → β, ∀ i y, G i y = mk ((F y).2.1 (k1 + 1 + i)) (F y).2.2.1 (F y).2.2.2 := ⟨_, fun _ _ => rfl⟩
    have hl : ((m.mapIdx G).take len).length = len := by rw [List.length_take, List.length_mapIdx]; omega
    have hlm : (m.mapIdx G).length = m.length := List.length_mapIdx
    refine ⟨some ⟨⟨b, rc.size, sh, m.length * 1, 1, false⟩, (m.mapIdx G).flatMap enc⟩, m.map fun y => (F y).1, some ⟨2 * k1 + 1, ob, none⟩, m.length, (m.mapIdx G).take len, fun B hB hI => ⟨fun x hx => ?_, fun x hx => ?_, ?_, ?_, fun x hx => ?_, by rw [hl]; exact hle⟩⟩
    · cases hx
      refine ⟨rc, ty, fz, hh, by rw [len_flat hbz, hlm], rfl, by rw [len_flat hbz, hlm]; exact hsz, rfl, fun j v hv => ?_⟩
      obtain ⟨x, hx, hr⟩ := flat_atG (by omega) hbz hv
      rw [Nat.div_one, List.getElem?_mapIdx] at hx
      cases hj : m[j]? with
      | none => rw [hj] at hx; cases hx
      | some y =>
        rw [hj] at hx
        simp only [Option.map_some, Option.some.injEq] at hx
        subst hx
        rw [Nat.mod_one, hG, hen] at hr
        simp only [List.getElem?_cons_zero, Option.some.injEq] at hr
        subst hr
        refine ⟨y.1, hc j y.1 ?_, (hF y).vr B _ (by omega) (hI j _ (by rw [List.getElem?_map, hj]; rfl))⟩
        rw [← List.map_eq_flatMap, List.getElem?_map, hj]; rfl
    · obtain ⟨y, hy, hxy⟩ := List.mem_map.1 hx
      exact (hF y).blk x hxy B
    · rw [hl]
      exact .slice (gaOf_at hB) (.inl rfl)
    · have hg := heapOf_get (k := k1) hB
      refine ⟨fun hne => ?_⟩
      have h0 : m.length ≠ 0 := fun e => hne (by rw [List.length_eq_zero_iff.1 e]; simp)
      simp only [hob h0]
      exact ((slAt_flat hbz hg).take len).out hne
    · have hx := List.mem_of_mem_take hx
      obtain ⟨i, hi, hx⟩ := List.mem_iff_getElem.1 hx
      rw [List.getElem_mapIdx, hG] at hx
      have hi : i < m.length := by rwa [hlm] at hi
      exact ⟨_, _, _, hx.symm, (hF m[i]).wd B _ (by omega) (hI i _ (by rw [List.getElem?_map, List.getElem?_eq_getElem hi]; rfl))⟩

noncomputable instance : Inhabited ByteArray := ⟨ByteArray.empty⟩
theorem undStr : Tryz.prog.underlying 9 = some .string := rfl
theorem undWords : Tryz.prog.underlying 96 = some (.slice 9) := rfl
theorem undDivs : Tryz.prog.underlying 45 = some (.slice 96) := rfl
theorem cellsStr : Tryz.prog.cellsOf 9 = 1 := by decide +kernel
theorem cellsWords : Tryz.prog.cellsOf 96 = 1 := by decide +kernel
theorem s1_len (x : ByteArray) : (s1 x).length = 1 := rfl
theorem flat_s1 (x : ByteArray) : (s1 x).all flatC = true := rfl
section
variable {H : Type} {enc : TypeId × Value → H} {W : World} {sp : Nat → Bool} {hd : Bool} {fuel : Nat}
theorem dec_s1 {cs : List Value} {x : DataW H × List MemPlace} (h : DataW.trod enc Tryz.prog W 0 sp hd fuel 9 cs = some x) : ∃ y, cs = s1 y := by
  obtain ⟨s, rfl, _⟩ := DataW.trod_string undStr h
  exact ⟨s, rfl⟩
theorem open_divs {b0 : Nat} {v : Value} {x : DataW H × List MemPlace} (hsp : ∀ b, sp b = true) (h : DataW.trod enc Tryz.prog W 0 sp hd fuel 45 [v] = some x) (hok : Cell.okWide Tryz.prog W .any b0 45 v) : OpS W (fun y : {u // OpI W s1 1 u} => [y.1]) 1 v :=
  haveI : Inhabited {u // OpI W s1 1 u} := ⟨⟨_, .nil⟩⟩
  open_flat (f := fun y : {u // OpI W s1 1 u} => [y.1]) (w := 1) (by omega) (fun _ => rfl) undDivs cellsWords (fun h => let ⟨v, e, k⟩ := inner_flat (by omega) s1_len undWords cellsStr dec_s1 hsp h; ⟨⟨v, k⟩, e⟩) hsp h hok
theorem ok_divs {b0 : Nat} {v : Value} (h : Value.okWide Tryz.prog W .any b0 45 v) : Cell.okWide Tryz.prog W .any b0 45 v := by
  unfold Value.okWide at h
  rw [undDivs] at h
  exact h
end

end Go.Proofs.YtiggikjbknoohaaGreatDoor
