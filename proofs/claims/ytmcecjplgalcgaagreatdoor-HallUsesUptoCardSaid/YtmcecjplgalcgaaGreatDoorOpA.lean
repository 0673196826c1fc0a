/- Opening arguments: slices of flat elements, structs of slices. -/
import Derived.Test.YtmcecjplgalcgaaGreatDoorSxK
noncomputable section
namespace Go.Proofs.YtmcecjplgalcgaaGreatDoor
open Go Go.Den Go.ChangeShapes Go.WideShapes Go.Deep
set_option maxRecDepth 10000
theorem flat_atG {α : Type} {f : α → List Value} {w : Nat} (hw : 0 < w) (hf : ∀ x, (f x).length = w) {m : List α} {j : Nat} {u : Value} (h : (m.flatMap f)[j]? = some u) : ∃ x, m[j / w]? = some x ∧ (f x)[j % w]? = some u := by
 have hl : j < m.length * w := by
  have := (List.getElem?_eq_some_iff.1 h).1
  rwa [len_flat hf] at this
 have hi : j / w < m.length := Nat.div_lt_of_lt_mul (by rw [Nat.mul_comm]; exact hl)
 refine ⟨m[j / w], List.getElem?_eq_getElem hi, ?_⟩
 have e : j = j / w * w + j % w := by rw [Nat.mul_comm]; exact (Nat.div_add_mod j w).symm
 rw [e, ← List.getElem?_drop, drop_flat hf, List.drop_eq_getElem_cons hi, List.flatMap_cons, List.getElem?_append_left (by rw [hf]; exact Nat.mod_lt _ hw)] at h
 exact h
structure OpS (W : World) {α : Type} (f : α → List Value) (w : Nat) (v : Value) : Prop where
 out : v = .slice none 0 0 ∨ ∃ (b sh ob len cap : Nat) (m : List α) (rc : Array Value) (ty : TypeId) (fz : Nat × Nat), v = .slice (some ⟨b, sh + ob, none⟩) len cap ∧ len ≤ cap ∧ m.length = cap ∧ W.heap[b]? = some (.cells rc ty fz) ∧ sh + cap * w ≤ rc.size ∧ (cap ≠ 0 → ob = 0) ∧
   ∀ (j : Nat) (u : Value), (m.flatMap f)[j]? = some u → rc[sh + j]? = some u
theorem open_flat {α : Type} [Inhabited α] {f : α → List Value} {w : Nat} {t e : TypeId} (hw : 0 < w) (hf : ∀ x, (f x).length = w) (hu : Tryz.prog.underlying t = some (.slice e)) (hce : Tryz.prog.cellsOf e = w)
  {b0 : Nat} {H : Type} {enc : TypeId × Value → H} {W : World} {sp hd} (dec : ∀ {fuel : Nat} {cs : List Value} {x : DataW H × List MemPlace}, DataW.trod enc Tryz.prog W 0 sp hd fuel e cs = some x → ∃ y, cs = f y)
  {fuel : Nat} {v : Value} {x : DataW H × List MemPlace} (hsp : ∀ b, sp b = true)
  (h : DataW.trod enc Tryz.prog W 0 sp hd fuel t [v] = some x) (hok : Cell.okWide Tryz.prog W .any b0 t v) : OpS W f w v := by
 obtain ⟨d, ps⟩ := x
 refine ⟨?_⟩
 rcases open_slice hu h with ⟨hv, _⟩ | ⟨a, len, cap, m, n, D, Pl, hv, _, hle, _, hm, _, hel⟩
 ·left; cases hv; rfl
 ·right
  cases hv
  rw [hsp] at hm
  simp only [if_true] at hm
  subst hm
  simp only [Cell.okWide, Cell.ok, hu] at hok
  obtain ⟨_, _, _, hspot, row, cells, hsh, hlie⟩ := hok
  obtain ⟨ab, ao, asp⟩ := a
  simp only at hspot
  subst hspot
  simp only [World.shape?] at hsh
  split at hsh
  ·rename_i rc ty fz hheap
   rw [hce] at hel
   obtain ⟨F, hF⟩ := choose_lt (α := α) (p := fun i x => ∀ r u, (f x)[r]? = some u → rc[ao + i * w + r]? = some u) (fun i hi => by
    obtain ⟨cs', h1, h2⟩ := hel i hi
    obtain ⟨y, rfl⟩ := dec h2
    obtain ⟨_, _, h3⟩ := World.cells?_some h1
    refine ⟨y, fun r u hr => ?_⟩
    have hrw : r < w := by have := (List.getElem?_eq_some_iff.1 hr).1; rwa [hf] at this
    have := h3 r hrw
    rw [hr] at this
    rw [add_none, add_none] at this
    simpa [World.cell?, hheap, Nat.add_assoc] using this)
   by_cases h0 : m = 0
   ·subst h0
    exact ⟨ab, 0, ao, len, 0, [], rc, ty, fz, by rw [Nat.zero_add], hle, rfl, hheap, by omega, fun hh => absurd rfl hh, fun j u hu => by simp at hu⟩
   ·refine ⟨ab, ao, 0, len, m, (List.range m).map F, rc, ty, fz, rfl, hle, by simp, hheap, ?_, fun _ => rfl, ?_⟩
    ·have hlast : (f (F (m - 1))).length - 1 < (f (F (m - 1))).length := by rw [hf]; omega
     have := hF (m - 1) (by omega) ((f (F (m - 1))).length - 1) _ (List.getElem?_eq_getElem hlast)
     have := (Array.getElem?_eq_some_iff.1 this).1
     rw [hf] at this
     have e1 : m * w = (m - 1) * w + w := by
      have : m = (m - 1) + 1 := by omega
      rw [this, Nat.add_mul]; simp
     omega
    ·intro j u hu
     obtain ⟨x, hx, hr⟩ := flat_atG hw hf hu
     rw [List.getElem?_map] at hx
     cases hj : (List.range m)[j / w]? with
     | none => rw [hj] at hx; cases hx
     | some k =>
      rw [hj] at hx
      simp only [Option.map_some, Option.some.injEq] at hx
      subst hx
      obtain ⟨hk, hk2⟩ := List.getElem?_eq_some_iff.1 hj
      simp only [List.getElem_range] at hk2
      subst hk2
      have := hF (j / w) (by simpa using hk) _ _ hr
      rw [← this]
      congr 1
      have e : j / w * w + j % w = j := by rw [Nat.mul_comm]; exact Nat.div_add_mod j w
      omega
  ·cases hsh
def extB (bs : List (Option BB)) : Nat → Option BB := fun k => if k < 1000 then B0 k else (bs[k - 1000]?).join
theorem extB_old {bs : List (Option BB)} {k : Nat} {x : BB} (h : B0 k = some x) : extB bs k = some x := by
 have := b0_high h
 simp only [extB]
 rw [if_pos (by omega)]; exact h
theorem extB_new {bs : List (Option BB)} {k : Nat} {o : Option BB} (h : bs[k]? = some o) : extB bs (1000 + k) = o := by
 simp only [extB]
 rw [if_neg (by omega), Nat.add_sub_cancel_left, h]; rfl
theorem glo_extB {bs : List (Option BB)} {H : AHeap} (hE : Ext (heapOf (extB bs)) H) : Glo B0 H := glo_ext (fun _ _ hx => extB_old hx) hE
def BBat (B : Nat → Option BB) (W : World) (x : BB) : Prop := ∃ rc e fz, W.heap[x.i.real]? = some (.cells rc e fz) ∧ x.i.size = x.cs.length ∧ x.i.slack = false ∧ x.i.shift + x.cs.length ≤ rc.size ∧ x.i.rsize = rc.size ∧ ∀ (j : Nat) (v : Value), x.cs[j]? = some v → ∃ v', rc[x.i.shift + j]? = some v' ∧ VR (gaOf B) v v'
theorem extB_ok {W : World} (h : BBok B0 W) {bs : List (Option BB)} (hb : ∀ (k : Nat) x, bs[k]? = some (some x) → BBat (extB bs) W x) : BBok (extB bs) W := by
 refine ⟨fun k x hx hk => ?_, fun k x hx => ?_⟩
 ·simp only [extB] at hx
  rw [if_pos hk] at hx
  exact h.glob k x hx hk
 ·simp only [extB] at hx
  split at hx
  ·obtain ⟨rc', e, fz', h1, h2, h3, h4, h5, h6⟩ := h.blk k x hx
   refine ⟨rc', e, fz', h1, h2, h3, h4, h5, fun j v hv => ?_⟩
   obtain ⟨v', h7, h8⟩ := h6 j v hv
   have hf := b0_flat k x hx
   have hfv : flatC v = true := List.all_eq_true.1 hf v (List.mem_of_getElem? hv)
   have := h8.flatC hfv
   subst this
   exact ⟨_, h7, flatVR hf hv⟩
  ·cases hk : bs[k - 1000]? with
   | none => rw [hk] at hx; cases hx
   | some o =>
    rw [hk] at hx
    simp only [Option.join_some] at hx
    subst hx
    exact hb _ _ hk
structure OpU (W : World) {α : Type} (f : α → List Value) (w : Nat) (v : Value) (o : Option BB) (p : Nat → Option Addr) (c : Nat) (l : List α) : Prop where
 blk : ∀ x, o = some x → ∀ B, BBat B W x
 vr : ∀ B k, 1000 ≤ k → B k = o → VR (gaOf B) (.slice (p k) l.length c) v
 at_ : ∀ B k, 1000 ≤ k → B k = o → SlAt (heapOf B) w f (p k) l
 cap : l.length ≤ c
 nil : ∀ k, p k = none → l.length = 0 ∧ c = 0
 spot : ∀ k a, p k = some a → a.spot = none
theorem OpS.use {W : World} {α : Type} {f : α → List Value} {w : Nat} {v : Value} (hf : ∀ x, (f x).length = w) (hfl : ∀ x, (f x).all flatC = true) (h : OpS W f w v) : ∃ o p c l, OpU W f w v o p c l := by
 rcases h.out with rfl | ⟨b, sh, ob, len, cap, m, rc, ty, fz, rfl, hle, hm, hh, hsz, hob, hc⟩
 ·exact ⟨none, fun _ => none, 0, [], ⟨fun x hx => (by cases hx), fun _ _ _ _ => VR.sliceN _ _, fun _ _ _ _ => .nil, Nat.le_refl _, fun _ _ => ⟨rfl, rfl⟩, fun _ _ e => (by cases e)⟩⟩
 ·subst hm
  have hfm : (m.flatMap f).all flatC = true := by
   rw [List.all_eq_true]
   intro x hx
   obtain ⟨y, _, hy⟩ := List.mem_flatMap.1 hx
   exact List.all_eq_true.1 (hfl y) x hy
  have hl : (m.take len).length = len := by rw [List.length_take]; omega
  refine ⟨some ⟨⟨b, rc.size, sh, m.length * w, w, false⟩, m.flatMap f⟩, fun k => some ⟨2 * k + 1, ob, none⟩, m.length, m.take len, ⟨fun x hx B => ?_, fun B k hk hB => ?_, fun B k hk hB => ?_, by omega, fun _ e => (by cases e), fun _ _ e => (by cases e; rfl)⟩⟩
  ·cases hx
   exact ⟨rc, ty, fz, hh, (len_flat hf m).symm, rfl, by rw [len_flat hf]; exact hsz, rfl, fun j v hv => ⟨v, hc j v hv, flatVR hfm hv⟩⟩
  ·rw [hl]
   have := gaOf_at (k := k) hB
   exact .slice this (.inl rfl)
  ·have hg := heapOf_get (k := k) hB
   refine ⟨fun hne => ?_⟩
   have h0 : m.length ≠ 0 := fun e => hne (by rw [List.length_eq_zero_iff.1 e]; simp)
   simp only [hob h0]
   exact ((slAt_flat hf hg).take len).out hne
end Go.Proofs.YtmcecjplgalcgaaGreatDoor
