/- Contracts: fixtures, what is wrong with a list of them. -/
import Derived.Test.YtfjihdlpohljbaaGreatFnA
import Derived.Test.YtfjihdlpohljbaaGreatSxA
import Derived.Deep.Slices
import Derived.Deep.Strs
import Derived.Test.YtfjihdlpohljbaaGreatRows
import Derived.MakeChecks
import Derived.LaidMore
import Derived.WalkKit
import Derived.ProofKit
import Derived.OpenShut
import Derived.Deep.DeepHandedRow
import Derived.Lib.LaidTab
noncomputable section
namespace Go.Proofs.YtfjihdlpohljbaaGreat
open Go Go.Den
set_option maxRecDepth 10000
structure Fx where
  day : Int
  home : Int
  away : Int
end Go.Proofs.YtfjihdlpohljbaaGreat
/- Contracts: counts of home matches; same lists; copies. -/
noncomputable section
namespace Go.Proofs.YtfjihdlpohljbaaGreat
open Go Go.Den
set_option maxRecDepth 10000
theorem take_snoc {α : Type} {l : List α} {i : Nat} (h : i < l.length) : l.take (i + 1) = l.take i ++ [l[i]] := by
  rw [List.take_add_one, List.getElem?_eq_getElem h]; rfl
theorem mk33 {l : EL} {h : AHeap} {a : Operand} {n : Nat} (ha : ev l a = some (I n)) (hn : n ≤ 24) : Does Tryz.prog l (.makeSlice 48 a a) h (.slice (some ⟨h.fresh, 0, none⟩) n n) (h.add (.cells ((List.replicate n 0).map I) 1 false false)) := by
  rw [← repl_map]
  exact do_makeSlice ha ha rfl rfl rfl rfl (Nat.le_refl _) (by omega) (Nat.le_trans (Nat.mul_le_mul_left _ hn) (Nat.le_of_ble_eq_true rfl))
end Go.Proofs.YtfjihdlpohljbaaGreat
/- Plain law: all pairs met are counted. -/
noncomputable section
namespace Go.Proofs.YtfjihdlpohljbaaGreat
open Go Go.Den
theorem mem_addK {α : Type} [DecidableEq α] {k : List α} {a x : α} : x ∈ addK k a ↔ x ∈ k ∨ x = a := by
  unfold addK
  split
  · rename_i h
    constructor
    · exact .inl
    · rintro (h' | rfl)
      · exact h'
      · exact h
  · simp
theorem nodup_addK {α : Type} [DecidableEq α] {k : List α} {a : α} (h : k.Nodup) : (addK k a).Nodup := by
  unfold addK
  split
  · exact h
  · rename_i hn
    rw [List.nodup_append]
    refine ⟨h, by simp, fun x hx y hy => ?_⟩
    rw [List.mem_singleton] at hy
    subst hy
    intro e; subst e; exact hn hx
end Go.Proofs.YtfjihdlpohljbaaGreat
/- Opening a list of fixtures. -/
noncomputable section
namespace Go.Proofs.YtfjihdlpohljbaaGreat
open Go Go.Den Go.ChangeShapes Go.Deep
set_option maxRecDepth 10000
noncomputable instance : Inhabited Fx := ⟨⟨0, 0, 0⟩⟩
theorem trod_i64 {H : Type} {enc : TypeId × Value → H} {W : World} {b : Nat} {sp hd} {fuel : Nat} {cs : List Value} {x : DataW H × List MemPlace} (h : DataW.trod enc Tryz.prog W b sp hd fuel 3 cs = some x) : ∃ n, cs = [I n] := by
  have hu : Tryz.prog.underlying 3 = some (.int .i64) := rfl
  cases fuel with
  | zero => simp [DataW.trod] at h
  | succ fuel =>
    unfold DataW.trod at h
    rw [hu] at h
    match cs, h with
    | [.int k n], h =>
      simp only at h
      split at h
      · rename_i hk
        obtain ⟨rfl, _⟩ := hk
        exact ⟨n, rfl⟩
      · cases h
theorem add_none (b o n : Nat) : (⟨b, o, none⟩ : Addr).add n = ⟨b, o + n, none⟩ := by
  unfold Addr.add
  split
  · rename_i h; subst h; rfl
  · rfl
end Go.Proofs.YtfjihdlpohljbaaGreat
/- No package-level variable is listed for this seat. -/
namespace Go.Proofs.YtfjihdlpohljbaaGreat
open Go Go.Den
set_option maxRecDepth 100000
def bl0 : BL := []
noncomputable abbrev B0 : Nat → Option BB := bOf bl0
theorem bl0_ok : blOk bl0 = true := by kernel_rfl
theorem b0_flat : ∀ k x, B0 k = some x → x.cs.all flatC = true := fun k x h => (bOf_ok bl0_ok k x h).2
theorem bb0_ok {W : World} : BBok B0 W := ⟨fun _ _ hx => (by cases hx), fun _ _ hx => (by cases hx)⟩
end Go.Proofs.YtfjihdlpohljbaaGreat
/- LeagueChecks: the contract over every input. -/
noncomputable section
namespace Go.Proofs.YtfjihdlpohljbaaGreat
open Go Go.Den Go.ChangeShapes Go.WideShapes Go.ChangeAt Go.RowKit
set_option maxRecDepth 10000
theorem b0_high {k : Nat} {x : BB} (h : B0 k = some x) : k < 1000 := by
  have h2 := (bOf_ok bl0_ok k x h).1
  first | exact h2 | omega | exact h2.1
theorem glo_ext {B : Nat → Option BB} {H : AHeap} (hB : ∀ k x, B0 k = some x → B k = some x) (hE : Ext (heapOf B) H) : Glo B0 H := by
  intro k x hx
  have := hE _ _ (heapOf_get (hB k x hx))
  rw [AHeap.get_odd _ (by omega)] at this
  rw [show (2 * k + 1) / 2 = k by omega] at this
  exact this
end Go.Proofs.YtfjihdlpohljbaaGreat
/- The symbolic layer: lists that grow by append. -/
noncomputable section
namespace Go.Den
def Stay (k0 : Nat) (L L' : List (Option ABlk)) : Prop := ∀ (j : Nat) y, j < k0 → L[j]? = some (some y) → L'[j]? = some (some y)
theorem Stay.trans {k0 : Nat} {L L' L2 : List (Option ABlk)} (h : Stay k0 L L') (k : Stay k0 L' L2) : Stay k0 L L2 := fun j y hj hy => k j y hj (h j y hj hy)
theorem Stay.app {k0 : Nat} {L : List (Option ABlk)} (M : List (Option ABlk)) : Stay k0 L (L ++ M) := fun _ _ _ h => getApp h
theorem Stay.to {k0 : Nat} {L L' : List (Option ABlk)} (h : Stay k0 L L') {j : Nat} {y : ABlk} (hj : j < k0) (hy : L[j]? = some (some y)) : L'[j]? = some (some y) := h j y hj hy
def lstP (b : Nat) {α : Type} : List α → Option Addr
  | [] => none
  | _ :: _ => some ⟨b, 0, none⟩
def lstV {α : Type} (b : Nat) (l : List α) : Value := .slice (lstP b l) l.length l.length
def lstL {α : Type} (m : Nat) (f : α → List Value) : List α → List (Option ABlk)
  | [] => []
  | a :: l => [some (.cells ((a :: l).flatMap f) m true false)]
def lstH {α : Type} (H : AHeap) (m : Nat) (f : α → List Value) : List α → AHeap
  | [] => H
  | a :: l => H.add (.cells ((a :: l).flatMap f) m true false)
section
variable {α : Type} {H : AHeap} {lo : Nat} {L : List (Option ABlk)} {m : Nat} {f : α → List Value} {l : List α}
theorem lstH_ext : lstH (ext H lo L) m f l = ext H lo (L ++ lstL m f l) := by
  cases l with
  | nil => simp [lstH, lstL]
  | cons a l => simp only [lstH, lstL, ext_add]
theorem lst_slAt (hf : ∀ x, (f x).length = m) : SlAt (ext H lo (L ++ lstL m f l)) m f (lstP (nb H L.length) l) l := by
  cases l with
  | nil => exact .nil
  | cons a l => exact slAt_flat hf (ext_get_new List.getElem?_concat_length)
end
structure Lst {α : Type} (H : AHeap) (L : List (Option ABlk)) (m : Nat) (f : α → List Value) (k0 : Nat) (v : Value) (l : List α) : Prop where
  out : (l = [] ∧ v = .slice none 0 0) ∨ (l ≠ [] ∧ ∃ k, k0 ≤ k ∧ v = .slice (some ⟨nb H k, 0, none⟩) l.length l.length ∧ L[k]? = some (some (.cells (l.flatMap f) m true false)))
section
variable {α : Type} {H : AHeap} {lo : Nat} {L L' : List (Option ABlk)} {m : Nat} {f : α → List Value} {l : List α} {k0 : Nat} {v : Value}
theorem Lst.nil : Lst H L m f k0 (.slice none 0 0) ([] : List α) := ⟨.inl ⟨rfl, rfl⟩⟩
theorem Lst.app (h : Lst H L m f k0 v l) (M : List (Option ABlk)) : Lst H (L ++ M) m f k0 v l := by
  rcases h.out with ⟨e1, e2⟩ | ⟨hne, k, h1, e, h2⟩
  · exact ⟨.inl ⟨e1, e2⟩⟩
  · exact ⟨.inr ⟨hne, k, h1, e, getApp h2⟩⟩
end
section
variable {P : Program} {rd : Option Nat} {nt : Nat} {ops : Array Oper} {l : EL} {ds : List Nat} {K : St → Prop} {i : Nat} {r : List Oper} {o : Oper} {ty : TypeId} {pos : String} {af : Array Edge} {H : AHeap} {lo : Nat} {L : List (Option ABlk)}
theorem seq_grow [PC P] {α : Type} {lst xs : List α} {f : α → List Value} {m k0 d : Nat} {args : Array Operand} {tys : Array TypeId} {st : TypeId} {tr : List TypeId} {v : Value} {b o' c by' z : Nat} {ag k ro : Bool} {e : TypeId} {zs cs : List Value}
    (hc : Closed H) (hv : Lst H L m f k0 v lst) (h0 : k0 ≤ L.length) (hf : ∀ x, (f x).length = m) (hone : ∀ x, (f x).all oneCell = true)
    (ha : evs l args.toList = some [v, .slice (some ⟨b, o', none⟩) xs.length c]) (hty : tys.toList = st :: st :: tr)
    (hs : selOf P st = some (m, ag)) (he : (tyOf P st).map (·.und) = some (.slice e)) (hz : zerOf P e = some zs) (hby : (tyOf P e).map (·.bytes) = some by')
    (hb : (ext H lo L).get b = some (.cells cs z k ro)) (hn : sliceIn cs o' (xs.length * m) = some (xs.flatMap f)) (hxs : xs ≠ []) (h1 : (2 * (lst.length + xs.length) + 1000) * by' ≤ 2 ^ 48) (h2 : by' ≠ 0) (h3 : m ≠ 0) (hd : Nat.blt d nt = true)
    (hk : ∀ v' L', Lst H L' m f k0 v' (lst ++ xs) → Stay k0 L L' → L'.length = L.length + 1 → SeqL P rd nt ops (o :: r) (i + 1) ⟨ofA ((d, v') :: l), ds, ext H lo L'⟩ K) :
    SeqL P rd nt ops (⟨some d, .call ⟨.builtin .append, args, tys⟩, ty, pos, af, none⟩ :: o :: r) i ⟨ofA l, ds, ext H lo L⟩ K := by
  have hx0 : 0 < xs.length := by cases xs with | nil => exact absurd rfl hxs | cons _ _ => simp
  have hall : (xs.flatMap f).all oneCell = true := by
    rw [List.all_eq_true]
    intro x hx
    obtain ⟨y, _, hy⟩ := List.mem_flatMap.1 hx
    exact List.all_eq_true.1 (hone y) x hy
  rcases hv.out with ⟨rfl, rfl⟩ | ⟨hne, k1, hk1, rfl, hL⟩
  · refine seq_newS (do_append0 ha hty hs he hz hby hb hn (by simpa using h1) h2 h3 hx0) hd (hk _ _ ?_ (Stay.app _) (by simp))
    exact ⟨.inr ⟨by simpa using hxs, L.length, h0, by simp, by simp⟩⟩
  · have hlt : k1 < L.length := (List.getElem?_eq_some_iff.1 hL).1
    refine seq_push hc hlt (do_append1 ha hty hs he hz hby hb hn (ext_get_new hL) (len_flat hf lst) (nb_own _) hall h1 h2 h3 hx0) hd (hk _ _ ?_ ?_ (by simp))
    · exact ⟨.inr ⟨by simp [hne], L.length, h0, by simp, by simp⟩⟩
    · intro j y hj hy
      rw [List.getElem?_append_left (by rw [List.length_set]; omega), List.getElem?_set_ne (by omega)]
      exact hy
end
section
variable {P : Program} {l : EL} {H : AHeap} {lo : Nat} {L : List (Option ABlk)} {α : Type} {m k0 : Nat} {f : α → List Value} {lst : List α} {v : Value}
theorem flat_all (hf : ∀ x, (f x).all (flatD 8) = true) (l : List α) : (l.flatMap f).all (flatD 8) = true := by
  rw [List.all_eq_true]
  intro x hx
  obtain ⟨y, _, hy⟩ := List.mem_flatMap.1 hx
  exact List.all_eq_true.1 (hf y) x hy
theorem fin_lst {Q : Value → AHeap → Prop} {rs : Array ResultVar} (hc : Closed H) (hv : Lst H L m f k0 v lst) (hr : resE l rs.toList = some [v]) (hf : ∀ x, (f x).all (flatD 8) = true) (hq : Q (lstV H.fresh lst) (lstH H m f lst)) : Fin P rs H Q ⟨ofA l, [], ext H lo L⟩ := by
  rcases hv.out with ⟨rfl, rfl⟩ | ⟨hne, k, hk, rfl, hL⟩
  · exact fin_flat hc hr rfl hq
  · cases lst with
    | nil => exact absurd rfl hne
    | cons a lst => exact fin_one hc hr hL (flat_all hf _) (v := lstV H.fresh (a :: lst)) (by simp [packA, renV, lstV, lstP, renOf_one (H := H) ⟨own_iff.1 (nb_own k), nb_ge k⟩]) (by exact hq)
theorem fin_lst2 {Q : Value → AHeap → Prop} {rs : Array ResultVar} {n : Int} {kd : IntKind} (hc : Closed H) (hv : Lst H L m f k0 v lst) (hr : resE l rs.toList = some [v, .int kd n]) (hf : ∀ x, (f x).all (flatD 8) = true) (hq : Q (.tuple ⟨[lstV H.fresh lst, .int kd n]⟩) (lstH H m f lst)) : Fin P rs H Q ⟨ofA l, [], ext H lo L⟩ := by
  rcases hv.out with ⟨rfl, rfl⟩ | ⟨hne, k, hk, rfl, hL⟩
  · exact fin_flat hc hr rfl hq
  · cases lst with
    | nil => exact absurd rfl hne
    | cons a lst => exact fin_one hc hr hL (flat_all hf _) (v := .tuple ⟨[lstV H.fresh (a :: lst), .int kd n]⟩) (by simp [packA, renV, renL, lstV, lstP, renOf_one (H := H) ⟨own_iff.1 (nb_own k), nb_ge k⟩]) (by exact hq)
end
/-! ### max and min of two numbers -/
section
variable {P : Program} {l : EL} {h : AHeap}
theorem do_max {args : Array Operand} {tys : Array TypeId} {k : IntKind} {a b : Int} (ha : evs l args.toList = some [.int k a, .int k b]) : Does P l (.call ⟨.builtin .max, args, tys⟩) h (.int k (max a b)) h := by
  refine do_builtin ha ?_
  simp only [biA, extremeA, extremeA.go, if_true, Option.map_some]
  have : (if b > a then b else a) = max a b := by split <;> omega
  rw [this]
theorem do_eqlNilS {t t' : TypeId} {x y : Operand} {p : Option Addr} {n c : Nat} (hx : ev l x = some (.slice p n c)) (hy : ev l y = some (.slice none 0 0)) (ht : (selOf P t).isSome = true) : Does P l (.binOp .eql t x y t') h (.bool p.isNone) h := by
  refine do_eql hx hy trivial ?_
  cases hs : selOf P t with
  | none => rw [hs] at ht; cases ht
  | some z =>
    obtain ⟨ti, e, ei, h1, h2, h3, h4, h5⟩ := selOf_spec (n := z.1) (a := z.2) hs
    unfold eqA
    simp only [h1, h2]
    cases p <;> rfl
end
end Go.Den
