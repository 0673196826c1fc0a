/- The symbolic layer: appends of nothing, ends of functions. -/
import Derived.Test.YtiggikjbknoohaaGreatDoorSxT
noncomputable section
namespace Go.Den

section
variable {P : Program} {l : EL} {h : AHeap}
theorem appendA_nil {st : TypeId} {r : List TypeId} {s : Value} {m by' : Nat} {ag : Bool} {e : TypeId} {zs : List Value} (hs : selOf P st = some (m, ag)) (he : (tyOf P st).map (·.und) = some (.slice e)) (hz : zerOf P e = some zs) (hby : (tyOf P e).map (·.bytes) = some by')
    {base : Option Addr} {sl sc : Nat} (hsv : s = .slice base sl sc) (h1 : (2 * (sl + 0) + 1000) * by' ≤ 2 ^ 48) (h2 : by' ≠ 0) (h3 : m ≠ 0) :
    ∃ ei : TI, ei.size = m ∧ appendA (ctxOf P) h (st :: st :: r) s (.slice none 0 0) = pushA h ei base sl sc 0 [] := by
  obtain ⟨ti, e', ei, g1, g2, g3, g4, g5⟩ := selOf_spec hs
  obtain ⟨ez, k1, k2⟩ := zerOf_spec hz
  have : e' = e := by
    cases hti : tyOf P st with
    | none => rw [hti] at he; cases he
    | some ti' =>
      rw [hti] at he
      have := ctx_ty hti
      rw [g1] at this; cases this
      simp only [Option.map_some, Option.some.injEq] at he
      rw [g2] at he; cases he; rfl
  subst this
  rw [g3] at k1; cases k1
  have hbe : ei.bytes = by' := by
    cases hti : tyOf P e' with
    | none => rw [hti] at hby; cases hby
    | some x =>
      rw [hti] at hby
      have := ctx_ty hti
      rw [g3] at this; cases this
      simpa using hby
  refine ⟨ei, g4, ?_⟩
  subst hsv
  have hnew : newsA (ctxOf P) h ei st (.slice none 0 0) = some (0, []) := by
    simp only [newsA, g1, g2, srcLen, srcCells]
    simp
  simp only [appendA, g1, g2, g3, hnew, hbe, g4, k2]
  rw [if_neg]
  simp [h2, h3]
  omega
/-- append to a list that was written without elements -/
theorem do_appendB {args : Array Operand} {tys : Array TypeId} {st : TypeId} {r : List TypeId} {b o n c m by' z z0 b0 : Nat} {ag k ro ro0 : Bool} {e : TypeId} {zs cs new : List Value} (ha : evs l args.toList = some [.slice (some ⟨b0, 0, none⟩) 0 0, .slice (some ⟨b, o, none⟩) n c]) (hty : tys.toList = st :: st :: r)
    (hs : selOf P st = some (m, ag)) (he : (tyOf P st).map (·.und) = some (.slice e)) (hz : zerOf P e = some zs) (hby : (tyOf P e).map (·.bytes) = some by')
    (hb : h.get b = some (.cells cs z k ro)) (hn : sliceIn cs o (n * m) = some new) (h0 : h.get b0 = some (.cells [] z0 false ro0)) (h1 : (2 * (0 + n) + 1000) * by' ≤ 2 ^ 48) (h2 : by' ≠ 0) (h3 : m ≠ 0) (h4 : 0 < n) :
    Does P l (.call ⟨.builtin .append, args, tys⟩) h (.slice (some ⟨h.fresh, 0, none⟩) n n) (h.add (.cells new m true false)) := by
  refine do_builtin ha ?_
  rw [hty]
  obtain ⟨ei, e1, e2⟩ := appendA_of (r := r) (c := c) hs he hz hby hb hn (s := .slice (some ⟨b0, 0, none⟩) 0 0) rfl h1 h2 h3
  simp only [biA, e2, pushA]
  rw [if_neg (by omega)]
  have hold : sliceIn ([] : List Value) 0 0 = some [] := by simp [sliceIn]
  have hx : exactCap h b0 0 0 = true := by simp [exactCap, h0]
  simp [h0, e1, hold, hx]
/-- append of the nil list -/
theorem do_appendN {args : Array Operand} {tys : Array TypeId} {st : TypeId} {r : List TypeId} {m by' sl sc b0 o0 : Nat} {ag : Bool} {e : TypeId} {zs : List Value} (ha : evs l args.toList = some [.slice (some ⟨b0, o0, none⟩) sl sc, .slice none 0 0]) (hty : tys.toList = st :: st :: r)
    (hs : selOf P st = some (m, ag)) (he : (tyOf P st).map (·.und) = some (.slice e)) (hz : zerOf P e = some zs) (hby : (tyOf P e).map (·.bytes) = some by')
    (hle : sl ≤ sc) (h1 : (2 * (sl + 0) + 1000) * by' ≤ 2 ^ 48) (h2 : by' ≠ 0) (h3 : m ≠ 0) :
    Does P l (.call ⟨.builtin .append, args, tys⟩) h (.slice (some ⟨b0, o0, none⟩) sl sc) h := by
  refine do_builtin ha ?_
  rw [hty]
  obtain ⟨ei, e1, e2⟩ := appendA_nil (h := h) (r := r) hs he hz hby (s := .slice (some ⟨b0, o0, none⟩) sl sc) rfl h1 h2 h3
  simp only [biA, e2, pushA]
  rw [if_pos (by omega)]
  simp
end

section
variable {P : Program} {l : EL} {H : AHeap} {lo : Nat} {L : List (Option ABlk)}
/-- what lay before is the result -/
theorem fin_keep {Q : Value → AHeap → Prop} {rs : Array ResultVar} {vs : List Value} (hc : Closed H) (hr : resE l rs.toList = some vs) (hv : renV (renOf H []) 8 (packA vs) = some (packA vs)) (hq : Q (packA vs) H) : Fin P rs H Q ⟨ofA l, [], ext H lo L⟩ :=
  ⟨⟨_, vs, packA vs, H, rfl, resE_A hr, tidy_of (H0 := H) (ys := []) (ren_ext hc (fun _ _ h => ext_get_old hc h) (l := []) .nil (by simp) rfl (by simp)) hv, hq⟩⟩
theorem renOf_old {b : Nat} {lb : List Nat} (h : b % 2 = 1 ∨ b < H.fresh) : renOf H lb b = some b := if_pos h
/-- a list and a bool are the result -/
theorem fin_lst2b {α : Type} {m k0 : Nat} {f : α → List Value} {lst : List α} {v : Value} {t : Bool} {Q : Value → AHeap → Prop} {rs : Array ResultVar} (hc : Closed H) (hv : Lst H L m f k0 v lst) (hr : resE l rs.toList = some [v, .bool t]) (hf : ∀ x, (f x).all (flatD 8) = true) (hq : Q (.tuple ⟨[lstV H.fresh lst, .bool t]⟩) (lstH H m f lst)) : Fin P rs H Q ⟨ofA l, [], ext H lo L⟩ := by
  rcases hv.out with ⟨rfl, rfl⟩ | ⟨hne, k, hk, rfl, hL⟩
  · exact fin_flat hc hr rfl hq
  · cases lst with
    | nil => exact absurd rfl hne
    | cons a lst => exact fin_one hc hr hL (flat_all hf _) (v := .tuple ⟨[lstV H.fresh (a :: lst), .bool t]⟩) (by simp [packA, renV, renL, lstV, lstP, renOf_one (H := H) ⟨own_iff.1 (nb_own k), nb_ge k⟩]) (by exact hq)
end
theorem slAt_ints {cs : List Value} {l : List Int} {o : Nat} (hw : ∀ i (h : i < l.length), sliceIn cs (o + i * 1) 1 = some [(.int .i64 l[i] : Value)]) : sliceIn cs o (l.length * 1) = some (l.map fun x => (.int .i64 x : Value)) := by
  have := slAt_cells (f := fun x : Int => [(.int .i64 x : Value)]) (w := 1) (fun _ => rfl) hw
  rw [this]
  congr 1
  clear this hw
  induction l with
  | nil => rfl
  | cons a r ih => simp [List.flatMap_cons, ih]
theorem getR {α : Type} {l m : List α} {k : Nat} {x : α} (h : m[k]? = some x) : (l ++ m)[l.length + k]? = some x := by
  rw [List.getElem?_append_right (by omega), Nat.add_sub_cancel_left]; exact h
section
theorem findSome_at {α β : Type} {g : α → Option β} : ∀ {l : List α} {j : Nat} {s : β} (h : j < l.length), (l.take j).findSome? g = none → g l[j] = some s → l.findSome? g = some s
  | [], j, s, h, _, _ => by simp at h
  | a :: r, 0, s, _, _, hg => by
    simp only [List.getElem_cons_zero] at hg
    simp [hg]
  | a :: r, j + 1, s, h, hn, hg => by
    simp only [List.take_succ_cons, List.findSome?_cons] at hn
    simp only [List.getElem_cons_succ] at hg
    rw [List.findSome?_cons]
    cases ha : g a with
    | some x => rw [ha] at hn; cases hn
    | none => rw [ha] at hn; exact findSome_at (by simpa using h) hn hg
theorem findSome_next {α β : Type} {g : α → Option β} {l : List α} {j : Nat} (h : j < l.length) (hn : (l.take j).findSome? g = none) (hg : g l[j] = none) : (l.take (j + 1)).findSome? g = none := by
  rw [List.take_add_one, List.getElem?_eq_getElem h, List.findSome?_append, hn]
  simp [hg]
end
end Go.Den
