/- LeaguePlans: the contract over every input. -/
import Derived.Test.YtiggikjbknoohaaGreatDoorOpA
import Derived.Test.YtiggikjbknoohaaGreatDoorElJ
import Derived.Test.YtiggikjbknoohaaGreatDoorPnH
import Derived.Test.YtiggikjbknoohaaGreatDoorElE
import Derived.Test.YtiggikjbknoohaaGreatDoorFnI
import Derived.Lib.SmallJoins
noncomputable section
namespace Go.Proofs.YtiggikjbknoohaaGreatDoor
open Go Go.Den Go.ChangeShapes Go.WideShapes Go.ChangeAt Go.RowKit Go.Deep
set_option maxRecDepth 10000

/-- a slice of flat elements inside another one: without room it may lie anywhere -/
inductive OpI (W : World) {α : Type} (f : α → List Value) (w : Nat) : Value → Prop
  | nil : OpI W f w (.slice none 0 0)
  | zero (a : Addr) : OpI W f w (.slice (some a) 0 0)
  | blk {b sh len : Nat} {m : List α} {rc : Array Value} {ty : TypeId} {fz : Nat × Nat} (hle : len ≤ m.length) (hne : m.length ≠ 0) (hh : W.heap[b]? = some (.cells rc ty fz)) (hsz : sh + m.length * w ≤ rc.size)
      (hc : ∀ (j : Nat) (u : Value), (m.flatMap f)[j]? = some u → rc[sh + j]? = some u) : OpI W f w (.slice (some ⟨b, sh, none⟩) len m.length)

theorem inner_flat {α : Type} [Inhabited α] {f : α → List Value} {w : Nat} {t e : TypeId} (hw : 0 < w) (hf : ∀ x, (f x).length = w) (hu : Tryz.prog.underlying t = some (.slice e)) (hce : Tryz.prog.cellsOf e = w)
    {H : Type} {enc : TypeId × Value → H} {W : World} {sp hd} (dec : ∀ {fuel : Nat} {cs : List Value} {x : DataW H × List MemPlace}, DataW.trod enc Tryz.prog W 0 sp hd fuel e cs = some x → ∃ y, cs = f y)
    {fuel : Nat} {cs : List Value} {x : DataW H × List MemPlace} (hsp : ∀ b, sp b = true)
    (h : DataW.trod enc Tryz.prog W 0 sp hd fuel t cs = some x) : ∃ v, cs = [v] ∧ OpI W f w v := by
  obtain ⟨d, ps⟩ := x
  rcases open_slice hu h with ⟨hv, _⟩ | ⟨a, len, cap, m, n, D, Pl, hv, _, hle, _, hm, _, hel⟩
  · exact ⟨_, hv, .nil⟩
  · refine ⟨_, hv, ?_⟩
    rw [hsp] at hm
    simp only [if_true] at hm
    subst hm
    by_cases h0 : m = 0
    · subst h0
      obtain rfl : len = 0 := by omega
      exact .zero a
    · obtain ⟨ab, ao, asp⟩ := a
      rw [hce] at hel
      have hcell : ∃ rc ty fz, W.heap[ab]? = some (.cells rc ty fz) ∧ asp = none := by
        obtain ⟨cs', h1, h2⟩ := hel 0 (by omega)
        obtain ⟨y, rfl⟩ := dec h2
        obtain ⟨_, _, h3⟩ := World.cells?_some h1
        have hl : 0 < (f y).length := by rw [hf]; exact hw
        have h4 := h3 0 hw
        rw [List.getElem?_eq_getElem hl] at h4
        have e0 : ((⟨ab, ao, asp⟩ : Addr).add (0 * w)).add 0 = ⟨ab, ao, asp⟩ := by simp [Addr.add]
        rw [e0] at h4
        cases asp with
        | none =>
          simp only [World.cell?] at h4
          split at h4
          · rename_i rc ty fz hheap
            exact ⟨rc, ty, fz, hheap, rfl⟩
          · cases h4
        | some x =>
          simp only [World.cell?] at h4
          split at h4
          · simp at h4
          · cases h4
      obtain ⟨rc, ty, fz, hheap, rfl⟩ := hcell
      obtain ⟨F, hF⟩ := Go.Deep.choose_lt (α := α) (p := fun i x => ∀ r u, (f x)[r]? = some u → rc[ao + i * w + r]? = some u) (fun i hi => by
        obtain ⟨cs', h1, h2⟩ := hel i hi
        obtain ⟨y, rfl⟩ := dec h2
        obtain ⟨_, _, h3⟩ := World.cells?_some h1
        refine ⟨y, fun r u hr => ?_⟩
        have hrw : r < w := by have := (List.getElem?_eq_some_iff.1 hr).1; rwa [hf] at this
        have := h3 r hrw
        rw [hr] at this
        rw [add_none, add_none] at this
        simpa [World.cell?, hheap, Nat.add_assoc] using this)
      have hlen : ((List.range m).map F).length = m := by simp
      rw [show (Value.slice (some ⟨ab, ao, none⟩) len m) = .slice (some ⟨ab, ao, none⟩) len ((List.range m).map F).length by rw [hlen]]
      refine .blk (rc := rc) (ty := ty) (fz := fz) (by rw [hlen]; exact hle) (by rw [hlen]; exact h0) hheap ?_ ?_
      · rw [hlen]
        have hlast : (f (F (m - 1))).length - 1 < (f (F (m - 1))).length := by rw [hf]; omega
        have := hF (m - 1) (by omega) ((f (F (m - 1))).length - 1) _ (List.getElem?_eq_getElem hlast)
        have := (Array.getElem?_eq_some_iff.1 this).1
        rw [hf] at this
        have e1 : m * w = (m - 1) * w + w := by
          have : m = (m - 1) + 1 := by omega
          rw [this, Nat.add_mul]; simp
        omega
      · intro j u hu
        obtain ⟨x, hx, hr⟩ := flat_atG hw hf hu
        rw [List.getElem?_map] at hx
        cases hj : (List.range m)[j / w]? with
        | none => rw [hj] at hx; cases hx
        | some k =>
          rw [hj] at hx
          simp only [Option.map_some, Option.some.injEq] at hx
          subst hx
          obtain ⟨hk, hk2⟩ := List.getElem?_eq_some_iff.1 hj
          simp only [List.getElem_range] at hk2
          subst hk2
          have := hF (j / w) (by simpa using hk) _ _ hr
          rw [← this]
          congr 1
          have e : j / w * w + j % w = j := by rw [Nat.mul_comm]; exact Nat.div_add_mod j w
          omega

/-- an inner slice told by a block of its own -/
structure OpV (W : World) {α : Type} (f : α → List Value) (w : Nat) (v : Value) (o : Option BB) (p : Nat → Option Addr) (c : Nat) (l : List α) : Prop where
  blk : ∀ y, o = some y → ∀ B, BBat B W y
  vr : ∀ B k, 1000 ≤ k → B k = o → VR (gaOf B) (.slice (p k) l.length c) v
  at_ : ∀ B k, 1000 ≤ k → B k = o → SlAt (heapOf B) w f (p k) l
  cap : l.length ≤ c

theorem OpI.use {W : World} {α : Type} {f : α → List Value} {w : Nat} {v : Value} (hf : ∀ x, (f x).length = w) (hfl : ∀ x, (f x).all flatC = true) (h : OpI W f w v) : ∃ o p c l, OpV W f w v o p c l := by
  cases h with
  | nil => exact ⟨none, fun _ => none, 0, [], ⟨fun _ e => (by cases e), fun _ _ _ _ => .sliceN _ _, fun _ _ _ _ => ⟨fun e => absurd rfl e⟩, Nat.le_refl _⟩⟩
  | zero a => exact ⟨none, fun _ => some ⟨0, 0, some 0⟩, 0, [], ⟨fun _ e => (by cases e), fun _ _ _ _ => .sliceZ a, fun _ _ _ _ => ⟨fun e => absurd rfl e⟩, Nat.le_refl _⟩⟩
  | @blk b sh len m rc ty fz hle hne hh hsz hc =>
    have hfm : (m.flatMap f).all flatC = true := by
      rw [List.all_eq_true]
      intro x hx
      obtain ⟨y, _, hy⟩ := List.mem_flatMap.1 hx
      exact List.all_eq_true.1 (hfl y) x hy
    have hl : (m.take len).length = len := by rw [List.length_take]; omega
    refine ⟨some ⟨⟨b, rc.size, sh, m.length * w, w, false⟩, m.flatMap f⟩, fun k => some ⟨2 * k + 1, 0, none⟩, m.length, m.take len, ⟨fun x hx B => ?_, fun B k hk hB => ?_, fun B k hk hB => ?_, by omega⟩⟩
    · cases hx
      exact ⟨rc, ty, fz, hh, (len_flat hf m).symm, rfl, by rw [len_flat hf]; exact hsz, rfl, fun j v hv => ⟨v, hc j v hv, flatVR hfm hv⟩⟩
    · rw [hl]
      have := gaOf_at (k := k) hB
      exact VR.slice (o := 0) this (.inl rfl)
    · exact (slAt_flat hf (heapOf_get (k := k) hB)).take len

/-- a slice of slices, told by blocks from the index k1 on -/
theorem grid_use {W : World} {α β : Type} {f : α → List Value} {w : Nat} (hf : ∀ x, (f x).length = w) (hfl : ∀ x, (f x).all flatC = true) (mk : Option Addr → Nat → List α → β) (enc : β → List Value) (hen : ∀ p c l, enc (mk p c l) = [.slice p l.length c]) (hbz : ∀ x, (enc x).length = 1)
    {v : Value} (h : OpS W (fun y : {u // OpI W f w u} => [y.1]) 1 v) {k1 : Nat} (hk1 : 1000 ≤ k1) : ∃ (o : Option BB) (os : List (Option BB)) (p : Option Addr) (c : Nat) (l : List β),
    ∀ B, B k1 = o → (∀ i x, os[i]? = some x → B (k1 + 1 + i) = x) → (∀ x, o = some x → BBat B W x) ∧ (∀ x, some x ∈ os → BBat B W x) ∧ VR (gaOf B) (.slice p l.length c) v ∧ SlAt (heapOf B) 1 enc p l ∧ (∀ x ∈ l, ∃ p' c' y, x = mk p' c' y ∧ SlAt (heapOf B) w f p' y ∧ y.length ≤ c') ∧ l.length ≤ c := by
  rcases h.out with rfl | ⟨b, sh, ob, len, cap, m, rc, ty, fz, rfl, hle, hm, hh, hsz, hob, hc⟩
  · exact ⟨none, [], none, 0, [], fun B _ _ => ⟨fun x e => (by cases e), fun x e => (by cases e), .sliceN _ _, ⟨fun e => absurd rfl e⟩, fun x e => (by cases e), Nat.le_refl _⟩⟩
  · subst hm
    have hU : ∀ y : {u // OpI W f w u}, ∃ q : Option BB × (Nat → Option Addr) × Nat × List α, OpV W f w y.1 q.1 q.2.1 q.2.2.1 q.2.2.2 := fun y => let ⟨o, p, c, l, hx⟩ := y.2.use hf hfl; ⟨(o, p, c, l), hx⟩
    obtain ⟨F, hF⟩ := Classical.axiomOfChoice hU
    obtain ⟨G, hG⟩ : ∃ G : Nat → {u // OpI W f w u} → β, ∀ i y, G i y = mk ((F y).2.1 (k1 + 1 + i)) (F y).2.2.1 (F y).2.2.2 := ⟨_, fun _ _ => rfl⟩
    have hl : ((m.mapIdx G).take len).length = len := by rw [List.length_take, List.length_mapIdx]; omega
    have hlm : (m.mapIdx G).length = m.length := List.length_mapIdx
    refine ⟨some ⟨⟨b, rc.size, sh, m.length * 1, 1, false⟩, (m.mapIdx G).flatMap enc⟩, m.map fun y => (F y).1, some ⟨2 * k1 + 1, ob, none⟩, m.length, (m.mapIdx G).take len, fun B hB hI => ⟨fun x hx => ?_, fun x hx => ?_, ?_, ?_, fun x hx => ?_, by rw [hl]; exact hle⟩⟩
    · cases hx
      refine ⟨rc, ty, fz, hh, by rw [len_flat hbz, hlm], rfl, by rw [len_flat hbz, hlm]; exact hsz, rfl, fun j v hv => ?_⟩
      obtain ⟨x, hx, hr⟩ := flat_atG (by omega) hbz hv
      rw [Nat.div_one, List.getElem?_mapIdx] at hx
      cases hj : m[j]? with
      | none => rw [hj] at hx; cases hx
      | some y =>
        rw [hj] at hx
        simp only [Option.map_some, Option.some.injEq] at hx
        subst hx
        rw [Nat.mod_one, hG, hen] at hr
        simp only [List.getElem?_cons_zero, Option.some.injEq] at hr
        subst hr
        refine ⟨y.1, hc j y.1 ?_, (hF y).vr B _ (by omega) (hI j _ (by rw [List.getElem?_map, hj]; rfl))⟩
        rw [← List.map_eq_flatMap, List.getElem?_map, hj]; rfl
    · obtain ⟨y, hy, hxy⟩ := List.mem_map.1 hx
      exact (hF y).blk x hxy B
    · rw [hl]
      exact .slice (gaOf_at hB) (.inl rfl)
    · have hg := heapOf_get (k := k1) hB
      refine ⟨fun hne => ?_⟩
      have h0 : m.length ≠ 0 := fun e => hne (by rw [List.length_eq_zero_iff.1 e]; simp)
      simp only [hob h0]
      exact ((slAt_flat hbz hg).take len).out hne
    · have hx := List.mem_of_mem_take hx
      obtain ⟨i, hi, hx⟩ := List.mem_iff_getElem.1 hx
      rw [List.getElem_mapIdx, hG] at hx
      have hi : i < m.length := by rwa [hlm] at hi
      exact ⟨_, _, _, hx.symm, (hF m[i]).at_ B _ (by omega) (hI i _ (by rw [List.getElem?_map, List.getElem?_eq_getElem hi]; rfl)), (hF m[i]).cap⟩

theorem undGrid : Tryz.prog.underlying 55 = some (.slice 33) := rfl
theorem undPlan : ∃ f0 f1 f2 f3 : Field, Tryz.prog.underlying 57 = some (.struct #[f0, f1, f2, f3]) ∧ (f0.type = 54 ∧ f0.offset = 0) ∧ (f1.type = 55 ∧ f1.offset = 1) ∧ (f2.type = 3 ∧ f2.offset = 2) ∧ (f3.type = 3 ∧ f3.offset = 3) := ⟨_, _, _, _, rfl, ⟨rfl, rfl⟩, ⟨rfl, rfl⟩, ⟨rfl, rfl⟩, ⟨rfl, rfl⟩⟩
theorem cellsPlan : Tryz.prog.cellsOf 57 = 4 := by decide +kernel
theorem cellsGrid : Tryz.prog.cellsOf 55 = 1 := by decide +kernel
theorem rowPlan : Tryz.prog.cellTypes Tryz.prog.depth 57 = some [54, 55, 3, 3] := by decide +kernel

theorem open_grid {H : Type} {enc : TypeId × Value → H} {W : World} {sp : Nat → Bool} {hd : Bool} {fuel : Nat} {b0 : Nat} {v : Value} {x : DataW H × List MemPlace} (hsp : ∀ b, sp b = true) (h : DataW.trod enc Tryz.prog W 0 sp hd fuel 55 [v] = some x) (hok : Cell.okWide Tryz.prog W .any b0 55 v) : OpS W (fun y : {u // OpI W i1 1 u} => [y.1]) 1 v :=
  haveI : Inhabited {u // OpI W i1 1 u} := ⟨⟨_, .nil⟩⟩
  open_flat (f := fun y : {u // OpI W i1 1 u} => [y.1]) (w := 1) (by omega) (fun _ => rfl) undGrid cellsSl.1 (fun h => let ⟨v, e, k⟩ := inner_flat (by omega) i1_len undInts cellsInt dec_i1 hsp h; ⟨⟨v, k⟩, e⟩) hsp h hok

theorem open_plan {H : Type} {enc : TypeId × Value → H} {W : World} {sp : Nat → Bool} {hd : Bool} {fuel : Nat} {b0 : Nat} {v : Value} {x : DataW H × List MemPlace} (hsp : ∀ b, sp b = true)
    (h : DataW.trod enc Tryz.prog W 0 sp hd fuel 57 v.cells.toList = some x) (hok : Value.okWide Tryz.prog W .any b0 57 v) : ∃ v0 v1 frm to, v = .agg ⟨[v0, v1, I frm, I to]⟩ ∧ OpS W p2 2 v0 ∧ OpS W (fun y : {u // OpI W i1 1 u} => [y.1]) 1 v1 := by
  obtain ⟨f0, f1, f2, f3, hu, ⟨a0, b0'⟩, ⟨a1, b1'⟩, ⟨a2, b2'⟩, ⟨a3, b3'⟩⟩ := undPlan
  unfold Value.okWide at hok
  rw [hu] at hok
  simp only at hok
  obtain ⟨cs, rfl, hsz, ts, hts, _, hrow⟩ := hok
  rw [rowPlan] at hts
  cases hts
  rw [cellsPlan] at hsz
  obtain ⟨l⟩ := cs
  match l, hsz with
  | [v0, v1, v2, v3], _ =>
    obtain ⟨t0, e0, r0⟩ := hrow 0 v0 rfl
    obtain ⟨t1, e1, r1⟩ := hrow 1 v1 rfl
    cases e0; cases e1
    obtain ⟨y0, y1, y2, y3, n, _, hl, h0, h1, h2, h3⟩ := Go.Joins.trod_struct4 hu h
    rw [a0, b0', cellsSl.2] at h0
    rw [a1, b1', cellsGrid] at h1
    rw [a2, b2', cellsInt] at h2
    rw [a3, b3', cellsInt] at h3
    obtain ⟨n2, e2⟩ := trod_i64 h2
    obtain ⟨n3, e3⟩ := trod_i64 h3
    have g2 : v2 = I n2 := by injection e2
    have g3 : v3 = I n3 := by injection e3
    clear e2 e3
    subst g2; subst g3
    exact ⟨v0, v1, n2, n3, rfl, open_pairs hsp h0 r0, open_grid hsp h1 r1⟩

end Go.Proofs.YtiggikjbknoohaaGreatDoor
