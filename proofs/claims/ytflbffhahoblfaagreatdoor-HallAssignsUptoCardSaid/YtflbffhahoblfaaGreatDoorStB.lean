/- Contracts: the program's search for days. -/
import Derived.Test.YtflbffhahoblfaaGreatDoorPnF
import Derived.Test.YtflbffhahoblfaaGreatDoorSxM
noncomputable section
namespace Go.Proofs.YtflbffhahoblfaaGreatDoor
open Go Go.Den
set_option maxRecDepth 100000
def ArrAt (H0 h : AHeap) (bo be : Nat) (pa : Option Addr) (ca : Nat) (out : List Int) : Prop := (pa = none ∧ out = [] ∧ ca = 0) ∨ ∃ (ba : Nat) (arr : List Int), pa = some ⟨ba, 0, none⟩ ∧ own ba = true ∧ H0.fresh ≤ ba ∧ ba < h.fresh ∧ ba ≠ bo ∧ ba ≠ be ∧ h.get ba = some (.cells (arr.map I) 1 true false) ∧ arr.length = ca ∧ out.length ≤ ca ∧ arr.take out.length = out
structure ESt (H0 h : AHeap) (bo be : Nat) (fv : Value) (out : List Int) : Prop where
  cl : Closed h
  low : h.low ≤ h.fresh
  ext0 : Ext H0 h
  ge : H0.fresh ≤ h.fresh
  bo1 : own bo = true
  bo2 : H0.fresh ≤ bo
  bo3 : bo < h.fresh
  be2 : H0.fresh ≤ be
  be3 : be < h.fresh
  ne : be ≠ bo
  func : h.get be = some (.cells [fv] 0 false false)
  cell : ∃ pa ca, h.get bo = some (.cells [.slice pa out.length ca] 0 false false) ∧ ArrAt H0 h bo be pa ca out
theorem ESt.next {H0 h X : AHeap} {bo be : Nat} {fv : Value} {out out2 : List Int} (S : ESt H0 h bo be fv out) (hc0 : Closed H0) (hcX : Closed X) (hlX : X.low ≤ X.fresh) (hfX : h.fresh ≤ X.fresh) (hsame : ∀ b y, (b % 2 = 1 ∨ b < H0.fresh ∨ b = be) → h.get b = some y → X.get b = some y)
    (cell : ∃ pa ca, X.get bo = some (.cells [.slice pa out2.length ca] 0 false false) ∧ ArrAt H0 X bo be pa ca out2) : ESt H0 X bo be fv out2 := by
  refine ⟨hcX, hlX, fun b y hb => hsame b y ?_ (S.ext0 b y hb), Nat.le_trans S.ge hfX, S.bo1, S.bo2, Nat.lt_of_lt_of_le S.bo3 hfX, S.be2, Nat.lt_of_lt_of_le S.be3 hfX, S.ne, hsame _ _ (.inr (.inr rfl)) S.func, cell⟩
  rcases hc0.lt hb with h | h
  · exact .inl h
  · exact .inr (.inl h)
theorem ESt.lower {H0 h : AHeap} {bo be x : Nat} {fv : Value} {out : List Int} (S : ESt H0 h bo be fv out) (hx : x ≤ h.fresh) : ESt H0 { h with low := x } bo be fv out :=
  ⟨S.cl, hx, S.ext0, S.ge, S.bo1, S.bo2, S.bo3, S.be2, S.be3, S.ne, S.func, S.cell⟩
theorem ESt.step {H0 h H1 : AHeap} {bo be lo n ca : Nat} {pa : Option Addr} {L : List (Option ABlk)} {fv : Value} {out out2 : List Int} (S : ESt H0 h bo be fv out) (hc0 : Closed H0) (hc1 : Closed H1) (hf : H1.fresh = h.fresh) (hsame : ∀ b y, (b % 2 = 1 ∨ b < H0.fresh ∨ b = be) → h.get b = some y → H1.get b = some y) (hn : n = out2.length)
    (har : ArrAt H0 (ext (H1.put bo (.cells [.slice pa n ca] 0 false false)) lo L) bo be pa ca out2) : ESt H0 (ext (H1.put bo (.cells [.slice pa n ca] 0 false false)) lo L) bo be fv out2 := by
  have hlt : bo < H1.fresh := by rw [hf]; exact S.bo3
  have hcp := closed_put (x := .cells [.slice pa n ca] 0 false false) hc1 S.bo1 hlt
  have hfp : (H1.put bo (.cells [.slice pa n ca] 0 false false)).fresh = h.fresh := hf
  have hge : h.fresh ≤ (ext (H1.put bo (.cells [.slice pa n ca] 0 false false)) lo L).fresh := by rw [ext_fresh, ← hfp]; exact nb_ge _
  refine S.next hc0 (ext_closed hcp) (by show min lo (H1.put bo (.cells [.slice pa n ca] 0 false false)).fresh ≤ _; rw [hfp]; omega) hge (fun b y hb hy => ext_get_old hcp (put_ne S.bo1 (fun e => ?_) (hsame b y hb hy))) ⟨pa, ca, by rw [← hn]; exact ext_get_old hcp (put_same S.bo1), har⟩
  have h1 := own_iff.1 S.bo1
  have h2 := S.bo2
  have h3 := S.ne
  omega
theorem ESt.wrap {H0 h : AHeap} {bo be lo : Nat} {fv : Value} {out : List Int} (S : ESt H0 h bo be fv out) (hc0 : Closed H0) : ESt H0 (ext h lo []) bo be fv out := by
  obtain ⟨pa, ca, hcl, har⟩ := S.cell
  refine S.next hc0 (ext_closed S.cl) (by show min lo h.fresh ≤ _; rw [ext_fresh]; have := nb_ge (H := h) ([] : List (Option ABlk)).length; omega) (by rw [ext_fresh]; exact nb_ge _) (fun b y _ hb => ext_get_old S.cl hb) ⟨pa, ca, ext_get_old S.cl hcl, ?_⟩
  rcases har with h1 | ⟨ba, arr, h1, h2, h3, h4, h5, h6, h7, h8⟩
  · exact .inl h1
  · exact .inr ⟨ba, arr, h1, h2, h3, by rw [ext_fresh]; exact Nat.lt_of_lt_of_le h4 (nb_ge _), h5, h6, ext_get_old S.cl h7, h8⟩
theorem _root_.Go.Den.HQ.trans {a b c : AHeap} (h : HQ a b) (k : HQ b c) : HQ a c := ⟨fun x => (h.get x).trans (k.get x), h.next.trans k.next, h.low.trans k.low⟩
end Go.Proofs.YtflbffhahoblfaaGreatDoor
/- Contracts: the program's Postpone. -/
noncomputable section
namespace Go.Den
section
variable {P : Program} {rd : Option Nat} {nt : Nat} {ops : Array Oper} {l : EL} {ds : List Nat} {K : St → Prop} {i : Nat} {r : List Oper} {ty : TypeId} {pos : String} {af : Array Edge} {H : AHeap} {lo : Nat}
end
namespace Plan
end Plan
end Go.Den
namespace Go.Proofs.YtflbffhahoblfaaGreatDoor
open Go Go.Den
set_option maxRecDepth 100000
def InB (H : AHeap) (L : List (Option ABlk)) (x : Bz) : Prop := (x.p = none ∧ x.l = []) ∨ ∃ (k : Nat) (dl : List Int) (n : Nat), L[k]? = some (some (.cells (dl.map I) 1 true false)) ∧ dl ≠ [] ∧ x.p = some ⟨nb H k, 0, none⟩ ∧ x.l = dl.take n
theorem InB.keep {H : AHeap} {L L' : List (Option ABlk)} {x : Bz} (h : InB H L x) (hk : ∀ (k : Nat) (dl : List Int), dl ≠ [] → L[k]? = some (some (.cells (dl.map I) 1 true false)) → L'[k]? = some (some (.cells (dl.map I) 1 true false))) : InB H L' x := by
  rcases h with h | ⟨k, dl, n, h1, h2, h3, h4⟩
  · exact .inl h
  · exact .inr ⟨k, dl, n, hk k dl h2 h1, h2, h3, h4⟩
end Go.Proofs.YtflbffhahoblfaaGreatDoor
/- The symbolic layer: slices inside of slices, parts of lists, appends of them. -/
noncomputable section
namespace Go.Den
section
variable {α : Type} {f : α → List Value} {w : Nat} {H H' : AHeap} {p : Option Addr} {c : Nat} {l : List α}
def WdG (H : AHeap) (w : Nat) (f : α → List Value) (p : Option Addr) (c : Nat) (l : List α) : Prop :=
  (p = none ∧ l = [] ∧ c = 0) ∨ (p = some ⟨0, 0, some 0⟩ ∧ l = [] ∧ c = 0) ∨ ∃ b o cs ro, p = some ⟨b, o, none⟩ ∧ H.get b = some (.cells cs w false ro) ∧ l.length ≤ c ∧ ∀ i (h : i < l.length), sliceIn cs (o + i * w) w = some (f l[i])
theorem WdG.ext (h : WdG H w f p c l) (hE : Ext H H') : WdG H' w f p c l := by
  rcases h with h | h | ⟨b, o, cs, ro, h1, h2, h3⟩
  · exact .inl h
  · exact .inr (.inl h)
  · exact .inr (.inr ⟨b, o, cs, ro, h1, hE _ _ h2, h3⟩)
theorem WdG.cap (h : WdG H w f p c l) : l.length ≤ c := by
  rcases h with ⟨_, rfl, _⟩ | ⟨_, rfl, _⟩ | ⟨b, o, cs, ro, h1, h2, h3, _⟩
  · simp
  · simp
  · exact h3
def Wv (H : AHeap) (w : Nat) (f : α → List Value) (v : Value) (l : List α) : Prop := ∃ p c, v = .slice p l.length c ∧ srcCells H w v l.length = some (l.flatMap f)
def cutV (w : Nat) (p : Option Addr) (c i j : Nat) : Value := match p with
  | none => .slice none 0 0
  | some ⟨b, o, none⟩ => .slice (some ⟨b, fromO o c i w, none⟩) (j - i) (c - i)
  | some ⟨b, o, some x⟩ => .slice (some ⟨b, o, some x⟩) 0 0
theorem WdG.cut {P : Program} {t : TypeId} {ag : Bool} (hs : selOf P t = some (w, ag)) (hf : ∀ x, (f x).length = w) (h : WdG H w f p c l) {lo hi : Option Value} {i j : Nat} (hb : bounds3 l.length c lo hi none = some (i, j, c)) (hij : i ≤ j) (hj : j ≤ l.length) :
    sliceA (ctxOf P) H t (.slice p l.length c) lo hi none = some (cutV w p c i j) ∧ Wv H w f (cutV w p c i j) ((l.take j).drop i) := by
  obtain ⟨ti, e, ei, h1, h2, h3, h4, h5⟩ := selOf_spec hs
  rcases h with ⟨rfl, rfl, rfl⟩ | ⟨rfl, rfl, rfl⟩ | ⟨b, o, cs, ro, rfl, hg, hc, hw⟩
  · simp only [List.length_nil] at hb ⊢
    refine ⟨by simp only [sliceA, h1, h2, h3, hb]; rfl, none, 0, by simp [cutV], by simp [srcCells, cutV]⟩
  · simp only [List.length_nil] at hb ⊢
    refine ⟨by simp only [sliceA, h1, h2, h3, hb]; rfl, some ⟨0, 0, some 0⟩, 0, by simp [cutV], by simp [srcCells, cutV]⟩
  · have hx1 : exactCap H b o c = true := by simp [exactCap, hg]
    have hx2 : eszIs H b w = true := by simp [eszIs, hg]
    have hlen : ((l.take j).drop i).length = j - i := by rw [List.length_drop, List.length_take]; omega
    refine ⟨?_, some ⟨b, fromO o c i w, none⟩, c - i, by rw [hlen]; rfl, ?_⟩
    · show _ = some (Value.slice (some ⟨b, fromO o c i w, none⟩) (j - i) (c - i))
      simp only [sliceA, h1, h2, h3, hb]
      by_cases hcl : c = i
      · have ef : fromO o c i w = o := if_pos hcl
        rw [ef]
        by_cases hi0 : i = 0
        · subst hi0; simp
        · rw [if_neg (by simpa using hi0), if_pos (by simpa using hcl)]
          simp [hx1]
      · have ef : fromO o c i w = o + i * w := if_neg hcl
        rw [ef]
        by_cases hi0 : i = 0
        · subst hi0; simp
        · rw [if_neg (by simpa using hi0), if_neg (by simpa using hcl), if_pos (by rw [h4, hx2]; simp), h4]
    · have := part_from (f := f) (w := w) (l := l.take j) (o := o) (c := c) (i := i) (cs := cs) hf (fun k hk => by
        rw [List.length_take] at hk
        rw [List.getElem_take]; exact hw k (by omega)) (by rw [List.length_take]; omega)
      rw [List.length_take, Nat.min_eq_left hj] at this
      show srcCells H w (.slice (some ⟨b, fromO o c i w, none⟩) (j - i) (c - i)) _ = _
      simp only [srcCells, hg, hlen]
      exact this
theorem Wv.blk {v : Value} (hw0 : 0 < w) (hf : ∀ x, (f x).length = w) (h : Wv H w f v l) (hne : l ≠ []) : ∃ b o c cs z k ro, v = .slice (some ⟨b, o, none⟩) l.length c ∧ H.get b = some (.cells cs z k ro) ∧ sliceIn cs o (l.length * w) = some (l.flatMap f) := by
  obtain ⟨p, c, rfl, hs⟩ := h
  have hl : 0 < l.length := List.length_pos_iff.2 hne
  have hfl : l.flatMap f ≠ [] := fun e => by
    have := len_flat hf l
    rw [e] at this
    have h2 : 0 < l.length * w := Nat.mul_pos hl hw0
    simp at this; omega
  unfold srcCells at hs
  split at hs
  · exact absurd (Option.some.inj hs).symm hfl
  · rename_i b o n c' heq
    injection heq with e1 e2 e3
    subst e1; subst e2; subst e3
    split at hs
    · rename_i cs z k ro hg
      exact ⟨b, o, _, cs, z, k, ro, rfl, hg, hs⟩
    · cases hs
  · rename_i heq
    injection heq with e1 e2 e3
    omega
  · rename_i heq; cases heq
  · cases hs
end
section
variable {P : Program} {l : EL} {h : AHeap} {α : Type} {f : α → List Value}
theorem do_subN {t t' : TypeId} {x y : Operand} {a b : Nat} (hx : ev l x = some (.int .i64 (a : Int))) (hy : ev l y = some (.int .i64 (b : Int))) (hle : b ≤ a) (hlt : a < 9223372036854775808) : Does P l (.binOp .sub t x y t') h (.int .i64 ((a - b : Nat) : Int)) h := by
  have := do_sub (P := P) (h := h) (t := t) (t' := t') hx hy (by omega)
  rwa [show (a : Int) - (b : Int) = ((a - b : Nat) : Int) by omega] at this
theorem do_predN {t t' : TypeId} {x y : Operand} {a : Nat} (hx : ev l x = some (.int .i64 (a : Int))) (hy : ev l y = some (.int .i64 1)) (hle : 0 < a) (hlt : a < 9223372036854775808) : Does P l (.binOp .sub t x y t') h (.int .i64 ((a - 1 : Nat) : Int)) h := by
  have := do_sub (P := P) (h := h) (t := t) (t' := t') hx hy (by omega)
  rwa [show (a : Int) - 1 = ((a - 1 : Nat) : Int) by omega] at this
end
section
variable {P : Program} {rd : Option Nat} {nt : Nat} {ops : Array Oper} {l : EL} {ds : List Nat} {K : St → Prop} {i : Nat} {r : List Oper} {o : Oper} {ty : TypeId} {pos : String} {af : Array Edge} {H : AHeap} {lo : Nat} {L : List (Option ABlk)} {α : Type} {f : α → List Value}
end
end Go.Den
