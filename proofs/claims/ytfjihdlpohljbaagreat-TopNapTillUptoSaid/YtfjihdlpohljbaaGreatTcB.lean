/- The symbolic layer: slices inside of slices, parts of lists, appends of them. -/
import Derived.Test.YtfjihdlpohljbaaGreatSxP
import Derived.Test.YtfjihdlpohljbaaGreatPnH
import Derived.Test.YtfjihdlpohljbaaGreatFnL
import Derived.Test.YtfjihdlpohljbaaGreatSxA
noncomputable section
namespace Go.Den
section
variable {α : Type} {f : α → List Value} {w : Nat} {H H' : AHeap} {p : Option Addr} {c : Nat} {l : List α}

/-- a slice inside of another one -/
def WdG (H : AHeap) (w : Nat) (f : α → List Value) (p : Option Addr) (c : Nat) (l : List α) : Prop :=
  (p = none ∧ l = [] ∧ c = 0) ∨ (p = some ⟨0, 0, some 0⟩ ∧ l = [] ∧ c = 0) ∨ ∃ b o cs ro, p = some ⟨b, o, none⟩ ∧ H.get b = some (.cells cs w false ro) ∧ l.length ≤ c ∧ ∀ i (h : i < l.length), sliceIn cs (o + i * w) w = some (f l[i])
theorem WdG.ext (h : WdG H w f p c l) (hE : Ext H H') : WdG H' w f p c l := by
  rcases h with h | h | ⟨b, o, cs, ro, h1, h2, h3⟩
  · exact .inl h
  · exact .inr (.inl h)
  · exact .inr (.inr ⟨b, o, cs, ro, h1, hE _ _ h2, h3⟩)
theorem WdG.cap (h : WdG H w f p c l) : l.length ≤ c := by
  rcases h with ⟨_, rfl, _⟩ | ⟨_, rfl, _⟩ | ⟨b, o, cs, ro, h1, h2, h3, _⟩
  · simp
  · simp
  · exact h3

/-- a slice whose cells are those of a list -/
def Wv (H : AHeap) (w : Nat) (f : α → List Value) (v : Value) (l : List α) : Prop := ∃ p c, v = .slice p l.length c ∧ srcCells H w v l.length = some (l.flatMap f)

/-- the part of a slice -/
def cutV (w : Nat) (p : Option Addr) (c i j : Nat) : Value := match p with
  | none => .slice none 0 0
  | some ⟨b, o, none⟩ => .slice (some ⟨b, fromO o c i w, none⟩) (j - i) (c - i)
  | some ⟨b, o, some x⟩ => .slice (some ⟨b, o, some x⟩) 0 0
theorem WdG.cut {P : Program} {t : TypeId} {ag : Bool} (hs : selOf P t = some (w, ag)) (hf : ∀ x, (f x).length = w) (h : WdG H w f p c l) {lo hi : Option Value} {i j : Nat} (hb : bounds3 l.length c lo hi none = some (i, j, c)) (hij : i ≤ j) (hj : j ≤ l.length) :
    sliceA (ctxOf P) H t (.slice p l.length c) lo hi none = some (cutV w p c i j) ∧ Wv H w f (cutV w p c i j) ((l.take j).drop i) := by
  obtain ⟨ti, e, ei, h1, h2, h3, h4, h5⟩ := selOf_spec hs
  rcases h with ⟨rfl, rfl, rfl⟩ | ⟨rfl, rfl, rfl⟩ | ⟨b, o, cs, ro, rfl, hg, hc, hw⟩
  · simp only [List.length_nil] at hb ⊢
    refine ⟨by simp only [sliceA, h1, h2, h3, hb]; rfl, none, 0, by simp [cutV], by simp [srcCells, cutV]⟩
  · simp only [List.length_nil] at hb ⊢
    refine ⟨by simp only [sliceA, h1, h2, h3, hb]; rfl, some ⟨0, 0, some 0⟩, 0, by simp [cutV], by simp [srcCells, cutV]⟩
  · have hx1 : exactCap H b o c = true := by simp [exactCap, hg]
    have hx2 : eszIs H b w = true := by simp [eszIs, hg]
    have hlen : ((l.take j).drop i).length = j - i := by rw [List.length_drop, List.length_take]; omega
    refine ⟨?_, some ⟨b, fromO o c i w, none⟩, c - i, by rw [hlen]; rfl, ?_⟩
    · show _ = some (Value.slice (some ⟨b, fromO o c i w, none⟩) (j - i) (c - i))
      simp only [sliceA, h1, h2, h3, hb]
      by_cases hcl : c = i
      · have ef : fromO o c i w = o := if_pos hcl
        rw [ef]
        by_cases hi0 : i = 0
        · subst hi0; simp
        · rw [if_neg (by simpa using hi0), if_pos (by simpa using hcl)]
          simp [hx1]
      · have ef : fromO o c i w = o + i * w := if_neg hcl
        rw [ef]
        by_cases hi0 : i = 0
        · subst hi0; simp
        · rw [if_neg (by simpa using hi0), if_neg (by simpa using hcl), if_pos (by rw [h4, hx2]; simp), h4]
    · have := part_from (f := f) (w := w) (l := l.take j) (o := o) (c := c) (i := i) (cs := cs) hf (fun k hk => by
        rw [List.length_take] at hk
        rw [List.getElem_take]; exact hw k (by omega)) (by rw [List.length_take]; omega)
      rw [List.length_take, Nat.min_eq_left hj] at this
      show srcCells H w (.slice (some ⟨b, fromO o c i w, none⟩) (j - i) (c - i)) _ = _
      simp only [srcCells, hg, hlen]
      exact this
theorem Wv.blk {v : Value} (hw0 : 0 < w) (hf : ∀ x, (f x).length = w) (h : Wv H w f v l) (hne : l ≠ []) : ∃ b o c cs z k ro, v = .slice (some ⟨b, o, none⟩) l.length c ∧ H.get b = some (.cells cs z k ro) ∧ sliceIn cs o (l.length * w) = some (l.flatMap f) := by
  obtain ⟨p, c, rfl, hs⟩ := h
  have hl : 0 < l.length := List.length_pos_iff.2 hne
  have hfl : l.flatMap f ≠ [] := fun e => by
    have := len_flat hf l
    rw [e] at this
    have h2 : 0 < l.length * w := Nat.mul_pos hl hw0
    simp at this; omega
  unfold srcCells at hs
  split at hs
  · exact absurd (Option.some.inj hs).symm hfl
  · rename_i b o n c' heq
    injection heq with e1 e2 e3
    subst e1; subst e2; subst e3
    split at hs
    · rename_i cs z k ro hg
      exact ⟨b, o, _, cs, z, k, ro, rfl, hg, hs⟩
    · cases hs
  · rename_i heq
    injection heq with e1 e2 e3
    omega
  · rename_i heq; cases heq
  · cases hs
end

section
variable {P : Program} {l : EL} {h : AHeap} {α : Type} {f : α → List Value}
theorem do_appNil {args : Array Operand} {tys : Array TypeId} {st : TypeId} {r : List TypeId} {m by' sl sc : Nat} {ag : Bool} {e : TypeId} {zs : List Value} {base : Option Addr} {x : Value} (ha : evs l args.toList = some [.slice base sl sc, x]) (hty : tys.toList = st :: st :: r)
    (hs : selOf P st = some (m, ag)) (he : (tyOf P st).map (·.und) = some (.slice e)) (hz : zerOf P e = some zs) (hby : (tyOf P e).map (·.bytes) = some by') (hx : Wv h m f x []) (hb : ∀ a, base = some a → a.spot = none)
    (hle : sl ≤ sc) (h1 : (2 * (sl + 0) + 1000) * by' ≤ 2 ^ 48) (h2 : by' ≠ 0) (h3 : m ≠ 0) :
    Does P l (.call ⟨.builtin .append, args, tys⟩) h (.slice base sl sc) h := by
  refine do_builtin ha ?_
  rw [hty]
  obtain ⟨ti, e', ei, g1, g2, g3, g4, g5⟩ := selOf_spec hs
  obtain ⟨ez, k1, k2⟩ := zerOf_spec hz
  have : e' = e := by
    cases hti : tyOf P st with
    | none => rw [hti] at he; cases he
    | some ti' =>
      rw [hti] at he
      have := ctx_ty hti
      rw [g1] at this; cases this
      simp only [Option.map_some, Option.some.injEq] at he
      rw [g2] at he; cases he; rfl
  subst this
  rw [g3] at k1; cases k1
  have hbe : ei.bytes = by' := by
    cases hti : tyOf P e' with
    | none => rw [hti] at hby; cases hby
    | some x =>
      rw [hti] at hby
      have := ctx_ty hti
      rw [g3] at this; cases this
      simpa using hby
  obtain ⟨p, c, rfl, hsrc⟩ := hx
  simp only [List.length_nil, List.flatMap_nil] at hsrc ⊢
  have hnew : newsA (ctxOf P) h ei st (.slice p 0 c) = some (0, []) := by
    simp only [newsA, g1, g2, srcLen, g4, hsrc]
    simp
  simp only [biA, appendA, g1, g2, g3, hnew, hbe, g4, k2]
  rw [if_neg (by simp [h2, h3]; omega)]
  unfold pushA
  rw [if_pos (by omega)]
  cases base with
  | none => simp
  | some a =>
    obtain ⟨b, o, sp⟩ := a
    have := hb _ rfl
    simp only at this
    subst this
    simp
theorem do_predN {t t' : TypeId} {x y : Operand} {a : Nat} (hx : ev l x = some (.int .i64 (a : Int))) (hy : ev l y = some (.int .i64 1)) (hle : 0 < a) (hlt : a < 9223372036854775808) : Does P l (.binOp .sub t x y t') h (.int .i64 ((a - 1 : Nat) : Int)) h := by
  have := do_sub (P := P) (h := h) (t := t) (t' := t') hx hy (by omega)
  rwa [show (a : Int) - 1 = ((a - 1 : Nat) : Int) by omega] at this
end

section
variable {P : Program} {rd : Option Nat} {nt : Nat} {ops : Array Oper} {l : EL} {ds : List Nat} {K : St → Prop} {i : Nat} {r : List Oper} {o : Oper} {ty : TypeId} {pos : String} {af : Array Edge} {H : AHeap} {lo : Nat} {L : List (Option ABlk)} {α : Type} {f : α → List Value}
theorem Lst.shape {m k0 : Nat} {v : Value} {lst : List α} (hv : Lst H L m f k0 v lst) : ∃ base, v = .slice base lst.length lst.length ∧ ∀ a, base = some a → a.spot = none := by
  rcases hv.out with ⟨rfl, rfl⟩ | ⟨_, k, _, rfl, _⟩
  · exact ⟨none, rfl, fun _ e => (by cases e)⟩
  · exact ⟨_, rfl, fun _ e => (by cases e; rfl)⟩
/-- a list grows; the others stay -/
theorem seq_growK [PC P] {lst xs : List α} {m k0 d : Nat} {args : Array Operand} {tys : Array TypeId} {st : TypeId} {tr : List TypeId} {v : Value} {b o' c by' z : Nat} {ag k ro : Bool} {e : TypeId} {zs cs : List Value}
    (hc : Closed H) (hv : Lst H L m f k0 v lst) (h0 : k0 ≤ L.length) (hf : ∀ x, (f x).length = m) (hone : ∀ x, (f x).all oneCell = true)
    (ha : evs l args.toList = some [v, .slice (some ⟨b, o', none⟩) xs.length c]) (hty : tys.toList = st :: st :: tr)
    (hs : selOf P st = some (m, ag)) (he : (tyOf P st).map (·.und) = some (.slice e)) (hz : zerOf P e = some zs) (hby : (tyOf P e).map (·.bytes) = some by')
    (hb : (ext H lo L).get b = some (.cells cs z k ro)) (hn : sliceIn cs o' (xs.length * m) = some (xs.flatMap f)) (hxs : xs ≠ []) (h1 : (2 * (lst.length + xs.length) + 1000) * by' ≤ 2 ^ 48) (h2 : by' ≠ 0) (h3 : m ≠ 0) (hd : Nat.blt d nt = true)
    (hk : ∀ v' L', Lst H L' m f k0 v' (lst ++ xs) → (∀ (j : Nat) y, L[j]? = some (some y) → (lst ≠ [] → y ≠ .cells (lst.flatMap f) m true false) → L'[j]? = some (some y)) → L'.length = L.length + 1 → SeqL P rd nt ops (o :: r) (i + 1) ⟨ofA ((d, v') :: l), ds, ext H lo L'⟩ K) :
    SeqL P rd nt ops (⟨some d, .call ⟨.builtin .append, args, tys⟩, ty, pos, af, none⟩ :: o :: r) i ⟨ofA l, ds, ext H lo L⟩ K := by
  have hx0 : 0 < xs.length := by cases xs with | nil => exact absurd rfl hxs | cons _ _ => simp
  have hall : (xs.flatMap f).all oneCell = true := by
    rw [List.all_eq_true]
    intro x hx
    obtain ⟨y, _, hy⟩ := List.mem_flatMap.1 hx
    exact List.all_eq_true.1 (hone y) x hy
  rcases hv.out with ⟨rfl, rfl⟩ | ⟨hne, k1, hk1, rfl, hL⟩
  · refine seq_newS (do_append0 ha hty hs he hz hby hb hn (by simpa using h1) h2 h3 hx0) hd (hk _ _ ?_ (fun j y hy _ => getApp hy) (by simp))
    exact ⟨.inr ⟨by simpa using hxs, L.length, h0, by simp, by simp⟩⟩
  · have hlt : k1 < L.length := (List.getElem?_eq_some_iff.1 hL).1
    refine seq_push hc hlt (do_append1 ha hty hs he hz hby hb hn (ext_get_new hL) (len_flat hf lst) (nb_own _) hall h1 h2 h3 hx0) hd (hk _ _ ?_ ?_ (by simp))
    · exact ⟨.inr ⟨by simp [hne], L.length, h0, by simp, by simp⟩⟩
    · intro j y hy hne2
      have hjk : j ≠ k1 := fun e => by
        subst e
        rw [hL] at hy
        cases hy
        exact hne2 hne rfl
      exact getApp (by rw [List.getElem?_set_ne (fun e => hjk e.symm)]; exact hy)
/-- a part of a list behind a list -/
theorem seq_appW [PC P] {lst xs : List α} {m k0 d : Nat} {args : Array Operand} {tys : Array TypeId} {st : TypeId} {tr : List TypeId} {v x : Value} {by' : Nat} {ag : Bool} {e : TypeId} {zs : List Value}
    (hc : Closed H) (hv : Lst H L m f k0 v lst) (h0 : k0 ≤ L.length) (hf : ∀ x, (f x).length = m) (hone : ∀ x, (f x).all oneCell = true) (hx : Wv (ext H lo L) m f x xs)
    (ha : evs l args.toList = some [v, x]) (hty : tys.toList = st :: st :: tr)
    (hs : selOf P st = some (m, ag)) (he : (tyOf P st).map (·.und) = some (.slice e)) (hz : zerOf P e = some zs) (hby : (tyOf P e).map (·.bytes) = some by')
    (h1 : (2 * (lst.length + xs.length) + 1000) * by' ≤ 2 ^ 48) (h2 : by' ≠ 0) (h3 : m ≠ 0) (hd : Nat.blt d nt = true)
    (hk : ∀ v' L', Lst H L' m f k0 v' (lst ++ xs) → Stay k0 L L' → L.length ≤ L'.length → SeqL P rd nt ops (o :: r) (i + 1) ⟨ofA ((d, v') :: l), ds, ext H lo L'⟩ K) :
    SeqL P rd nt ops (⟨some d, .call ⟨.builtin .append, args, tys⟩, ty, pos, af, none⟩ :: o :: r) i ⟨ofA l, ds, ext H lo L⟩ K := by
  by_cases hne : xs = []
  · subst hne
    obtain ⟨base, rfl, hb⟩ := hv.shape
    exact seq_plain (do_appNil ha hty hs he hz hby hx hb (Nat.le_refl _) (by simpa using h1) h2 h3) hd (hk _ L (by simpa using hv) (Stay.refl _ _) (Nat.le_refl _))
  · obtain ⟨b, o', c, cs, z, k, ro, rfl, hg, hn⟩ := hx.blk (by omega) hf hne
    exact seq_grow hc hv h0 hf hone ha hty hs he hz hby hg hn hne h1 h2 h3 hd fun v' L' a1 a2 a3 => hk v' L' a1 a2 (by omega)
end
end Go.Den
/- Contracts: the reference's check of matches. -/
noncomputable section
namespace Go.Proofs.YtfjihdlpohljbaaGreat
open Go Go.Den
set_option maxRecDepth 100000

/-- the first error of elements that are told those before them -/
def errG {α : Type} (err : List α → α → Int) (l : List α) (i : Nat) : Int := match l[i]? with
  | some x => err (l.take i) x
  | none => 0
def restG {α : Type} (err : List α → α → Int) (l : List α) : Int := firstL ((List.range l.length).map (errG err l))
section
variable {α : Type} {err : List α → α → Int} {l : List α}
theorem errG_at {i : Nat} (h : i < l.length) : errG err l i = err (l.take i) l[i] := by simp [errG, h]
theorem restG_at {i : Nat} (hi : i < l.length) (h : ∀ j, j < i → errG err l j = 0) (hne : errG err l i ≠ 0) : restG err l = errG err l i := by
  have := firstL_at (l := (List.range l.length).map (errG err l)) (i := i) (by simpa using hi) (fun j hj hji => by simpa using h j hji) (by simpa using hne)
  simpa [restG] using this
theorem restG_none (h : ∀ j, j < l.length → errG err l j = 0) : restG err l = 0 :=
  firstL_none fun j hj => by
    have hj' : j < l.length := by simpa using hj
    simpa using h j hj'
end
section
variable {n : Int} {pre : List Ma} {m : Ma}
end
end Go.Proofs.YtfjihdlpohljbaaGreat
