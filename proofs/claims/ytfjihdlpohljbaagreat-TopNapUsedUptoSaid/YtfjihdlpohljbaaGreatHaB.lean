/- The symbolic layer: slices inside of slices, parts of lists, appends of them. -/
import Derived.Test.YtfjihdlpohljbaaGreatSxU
import Derived.Test.YtfjihdlpohljbaaGreatPnH
import Derived.Test.YtfjihdlpohljbaaGreatSxK
import Derived.Test.YtfjihdlpohljbaaGreatSxA
import Derived.Test.YtfjihdlpohljbaaGreatFnA
import Derived.Test.YtfjihdlpohljbaaGreatElJ
noncomputable section
namespace Go.Den
section
variable {α : Type} {f : α → List Value} {w : Nat} {H H' : AHeap} {p : Option Addr} {c : Nat} {l : List α}

/-- a slice inside of another one -/
def WdG (H : AHeap) (w : Nat) (f : α → List Value) (p : Option Addr) (c : Nat) (l : List α) : Prop :=
  (p = none ∧ l = [] ∧ c = 0) ∨ (p = some ⟨0, 0, some 0⟩ ∧ l = [] ∧ c = 0) ∨ ∃ b o cs ro, p = some ⟨b, o, none⟩ ∧ H.get b = some (.cells cs w false ro) ∧ l.length ≤ c ∧ ∀ i (h : i < l.length), sliceIn cs (o + i * w) w = some (f l[i])
theorem WdG.ext (h : WdG H w f p c l) (hE : Ext H H') : WdG H' w f p c l := by
  rcases h with h | h | ⟨b, o, cs, ro, h1, h2, h3⟩
  · exact .inl h
  · exact .inr (.inl h)
  · exact .inr (.inr ⟨b, o, cs, ro, h1, hE _ _ h2, h3⟩)
theorem WdG.cap (h : WdG H w f p c l) : l.length ≤ c := by
  rcases h with ⟨_, rfl, _⟩ | ⟨_, rfl, _⟩ | ⟨b, o, cs, ro, h1, h2, h3, _⟩
  · simp
  · simp
  · exact h3

/-- a slice whose cells are those of a list -/
def Wv (H : AHeap) (w : Nat) (f : α → List Value) (v : Value) (l : List α) : Prop := ∃ p c, v = .slice p l.length c ∧ srcCells H w v l.length = some (l.flatMap f)

/-- the part of a slice -/
def cutV (w : Nat) (p : Option Addr) (c i j : Nat) : Value := match p with
  | none => .slice none 0 0
  | some ⟨b, o, none⟩ => .slice (some ⟨b, fromO o c i w, none⟩) (j - i) (c - i)
  | some ⟨b, o, some x⟩ => .slice (some ⟨b, o, some x⟩) 0 0
theorem WdG.cut {P : Program} {t : TypeId} {ag : Bool} (hs : selOf P t = some (w, ag)) (hf : ∀ x, (f x).length = w) (h : WdG H w f p c l) {lo hi : Option Value} {i j : Nat} (hb : bounds3 l.length c lo hi none = some (i, j, c)) (hij : i ≤ j) (hj : j ≤ l.length) :
    sliceA (ctxOf P) H t (.slice p l.length c) lo hi none = some (cutV w p c i j) ∧ Wv H w f (cutV w p c i j) ((l.take j).drop i) := by
  obtain ⟨ti, e, ei, h1, h2, h3, h4, h5⟩ := selOf_spec hs
  rcases h with ⟨rfl, rfl, rfl⟩ | ⟨rfl, rfl, rfl⟩ | ⟨b, o, cs, ro, rfl, hg, hc, hw⟩
  · simp only [List.length_nil] at hb ⊢
    refine ⟨by simp only [sliceA, h1, h2, h3, hb]; rfl, none, 0, by simp [cutV], by simp [srcCells, cutV]⟩
  · simp only [List.length_nil] at hb ⊢
    refine ⟨by simp only [sliceA, h1, h2, h3, hb]; rfl, some ⟨0, 0, some 0⟩, 0, by simp [cutV], by simp [srcCells, cutV]⟩
  · have hx1 : exactCap H b o c = true := by simp [exactCap, hg]
    have hx2 : eszIs H b w = true := by simp [eszIs, hg]
    have hlen : ((l.take j).drop i).length = j - i := by rw [List.length_drop, List.length_take]; omega
    refine ⟨?_, some ⟨b, fromO o c i w, none⟩, c - i, by rw [hlen]; rfl, ?_⟩
    · show _ = some (Value.slice (some ⟨b, fromO o c i w, none⟩) (j - i) (c - i))
      simp only [sliceA, h1, h2, h3, hb]
      by_cases hcl : c = i
      · have ef : fromO o c i w = o := if_pos hcl
        rw [ef]
        by_cases hi0 : i = 0
        · subst hi0; simp
        · rw [if_neg (by simpa using hi0), if_pos (by simpa using hcl)]
          simp [hx1]
      · have ef : fromO o c i w = o + i * w := if_neg hcl
        rw [ef]
        by_cases hi0 : i = 0
        · subst hi0; simp
        · rw [if_neg (by simpa using hi0), if_neg (by simpa using hcl), if_pos (by rw [h4, hx2]; simp), h4]
    · have := part_from (f := f) (w := w) (l := l.take j) (o := o) (c := c) (i := i) (cs := cs) hf (fun k hk => by
        rw [List.length_take] at hk
        rw [List.getElem_take]; exact hw k (by omega)) (by rw [List.length_take]; omega)
      rw [List.length_take, Nat.min_eq_left hj] at this
      show srcCells H w (.slice (some ⟨b, fromO o c i w, none⟩) (j - i) (c - i)) _ = _
      simp only [srcCells, hg, hlen]
      exact this
theorem Wv.blk {v : Value} (hw0 : 0 < w) (hf : ∀ x, (f x).length = w) (h : Wv H w f v l) (hne : l ≠ []) : ∃ b o c cs z k ro, v = .slice (some ⟨b, o, none⟩) l.length c ∧ H.get b = some (.cells cs z k ro) ∧ sliceIn cs o (l.length * w) = some (l.flatMap f) := by
  obtain ⟨p, c, rfl, hs⟩ := h
  have hl : 0 < l.length := List.length_pos_iff.2 hne
  have hfl : l.flatMap f ≠ [] := fun e => by
    have := len_flat hf l
    rw [e] at this
    have h2 : 0 < l.length * w := Nat.mul_pos hl hw0
    simp at this; omega
  unfold srcCells at hs
  split at hs
  · exact absurd (Option.some.inj hs).symm hfl
  · rename_i b o n c' heq
    injection heq with e1 e2 e3
    subst e1; subst e2; subst e3
    split at hs
    · rename_i cs z k ro hg
      exact ⟨b, o, _, cs, z, k, ro, rfl, hg, hs⟩
    · cases hs
  · rename_i heq
    injection heq with e1 e2 e3
    omega
  · rename_i heq; cases heq
  · cases hs
end

section
variable {P : Program} {l : EL} {h : AHeap} {α : Type} {f : α → List Value}
end

section
variable {P : Program} {rd : Option Nat} {nt : Nat} {ops : Array Oper} {l : EL} {ds : List Nat} {K : St → Prop} {i : Nat} {r : List Oper} {o : Oper} {ty : TypeId} {pos : String} {af : Array Edge} {H : AHeap} {lo : Nat} {L : List (Option ABlk)} {α : Type} {f : α → List Value}
end
end Go.Den
/- Contracts: the reference's check of matches. -/
noncomputable section
namespace Go.Proofs.YtfjihdlpohljbaaGreat
open Go Go.Den
set_option maxRecDepth 100000

/-- the first error of elements that are told those before them -/
def errG {α : Type} (err : List α → α → Int) (l : List α) (i : Nat) : Int := match l[i]? with
  | some x => err (l.take i) x
  | none => 0
def restG {α : Type} (err : List α → α → Int) (l : List α) : Int := firstL ((List.range l.length).map (errG err l))
section
variable {α : Type} {err : List α → α → Int} {l : List α}
theorem errG_at {i : Nat} (h : i < l.length) : errG err l i = err (l.take i) l[i] := by simp [errG, h]
theorem restG_at {i : Nat} (hi : i < l.length) (h : ∀ j, j < i → errG err l j = 0) (hne : errG err l i ≠ 0) : restG err l = errG err l i := by
  have := firstL_at (l := (List.range l.length).map (errG err l)) (i := i) (by simpa using hi) (fun j hj hji => by simpa using h j hji) (by simpa using hne)
  simpa [restG] using this
theorem restG_none (h : ∀ j, j < l.length → errG err l j = 0) : restG err l = 0 :=
  firstL_none fun j hj => by
    have hj' : j < l.length := by simpa using hj
    simpa using h j hj'
end
section
variable {n : Int} {pre : List Ma} {m : Ma}
end
end Go.Proofs.YtfjihdlpohljbaaGreat
/- Plain law: the hall's rates, prices, shares. -/
noncomputable section
namespace Go.Proofs.YtfjihdlpohljbaaGreat
open Go Go.Den
set_option maxRecDepth 100000

/-! ### rates as they are given -/
structure Ra where
  frm : Int
  to : Int
  price : Int
theorem firstL_allZ {l : List Int} (h : firstL l = 0) : ∀ x ∈ l, x = 0 := by
  induction l with
  | nil => intro x hx; cases hx
  | cons a r ih =>
    intro x hx
    by_cases e : a = 0
    · have h2 : firstL r = 0 := by simpa [firstL, e] using h
      rcases List.mem_cons.1 hx with rfl | hx
      · exact e
      · exact ih h2 x hx
    · have h2 : firstL (a :: r) = a := by simp [firstL, e]
      rw [h2] at h; exact absurd h e
theorem whenL_z {b : Bool} {e : Int} (h : whenL b e = 0) (he : e ≠ 0) : b = false := by
  cases b
  · rfl
  · simp [whenL] at h; exact absurd h he
theorem restG_zero {α : Type} {err : List α → α → Int} {l : List α} (h : restG err l = 0) {i : Nat} (hi : i < l.length) : err (l.take i) l[i] = 0 := by
  have := firstL_allZ h (errG err l i) (List.mem_map.2 ⟨i, List.mem_range.2 hi, rfl⟩)
  rwa [errG_at hi] at this
/-! ### shares of equal weights -/
end Go.Proofs.YtfjihdlpohljbaaGreat
/- Contracts: the hall's prices. -/
noncomputable section
namespace Go.Proofs.YtfjihdlpohljbaaGreat
open Go Go.Den
set_option maxRecDepth 100000

theorem day_c {H : AHeap} {n : Int} : Ret Tryz.prog 69 [I n] H (I (whenL (outL n 0 99999) 3)) H := by
  refine fn_start Tryz.func69 rfl rfl rfl fun hc => ?_
  apply ct_seq
  apply ct_region
  apply seq_plain; exact do_assign rfl; exact rfl
  apply seq_nil
  apply ct_seq
  apply ct_region
  apply seq_plain; exact do_move rfl; exact rfl
  apply seq_call (ht := rfl); exact within89; exact rfl
  apply seq_plain; exact do_assign rfl; exact rfl
  apply seq_nil
  apply ct_ret
  exact fin_flat hc rfl rfl ⟨rfl, rfl⟩
end Go.Proofs.YtfjihdlpohljbaaGreat
