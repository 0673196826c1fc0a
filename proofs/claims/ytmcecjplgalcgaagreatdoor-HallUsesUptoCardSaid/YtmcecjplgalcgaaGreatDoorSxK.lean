/- Plain law: tables. -/
import Derived.Test.YtmcecjplgalcgaaGreatDoorSrL
import Derived.Test.YtmcecjplgalcgaaGreatDoorSxA
import Derived.Deep.Slices
import Derived.Deep.Strs
import Derived.Test.YtmcecjplgalcgaaGreatDoorCards
import Derived.Test.YtmcecjplgalcgaaGreatDoorTie
import Derived.MakeChecks
import Derived.LaidMore
import Derived.WalkKit
import Derived.ProofKit
import Derived.OpenShut
import Derived.Deep.DeepHandedRow
import Derived.Lib.LaidTab
noncomputable section
namespace Go.Proofs.YtmcecjplgalcgaaGreatDoor
open Go Go.Den
set_option maxRecDepth 100000
structure Ma where
 home : Int
 away : Int
 fr : Int
 ag : Int
 kind : ByteArray
structure Ru where
 win : Int
 draw : Int
 loss : Int
 frames : Int
structure Rw where
 team : Int
 played : Int
 won : Int
 drawn : Int
 lost : Int
 fr : Int
 ag : Int
 pts : Int
 rank : Int
/-! ### what holds of each row -/
/-! ### sums over all rows -/
/-! ### how teams are compared -/
abbrev Fg := Int × Int × Int
/-! ### the table -/
end Go.Proofs.YtmcecjplgalcgaaGreatDoor
/- Opening a list of fixtures. -/
noncomputable section
namespace Go.Proofs.YtmcecjplgalcgaaGreatDoor
open Go Go.Den Go.ChangeShapes Go.Deep
set_option maxRecDepth 10000
noncomputable instance : Inhabited Fx := ⟨⟨0, 0, 0⟩⟩
theorem trod_i64 {H : Type} {enc : TypeId × Value → H} {W : World} {b : Nat} {sp hd} {fuel : Nat} {cs : List Value} {x : DataW H × List MemPlace} (h : DataW.trod enc Tryz.prog W b sp hd fuel 3 cs = some x) : ∃ n, cs = [I n] := by
 have hu : Tryz.prog.underlying 3 = some (.int .i64) := rfl
 cases fuel with
 | zero => simp [DataW.trod] at h
 | succ fuel =>
  unfold DataW.trod at h
  rw [hu] at h
  match cs, h with
  | [.int k n], h =>
   simp only at h
   split at h
   ·rename_i hk
    obtain ⟨rfl, _⟩ := hk
    exact ⟨n, rfl⟩
   ·cases h
theorem add_none (b o n : Nat) : (⟨b, o, none⟩ : Addr).add n = ⟨b, o + n, none⟩ := by
 unfold Addr.add
 split
 ·rename_i h; subst h; rfl
 ·rfl
end Go.Proofs.YtmcecjplgalcgaaGreatDoor
/- What the listed package-level variables hold; the law's own check of the document's examples. -/
namespace Go.Proofs.YtmcecjplgalcgaaGreatDoor
open Go Go.Den
set_option maxRecDepth 100000
def cs2 : List Value := [.int .u64 1, .int .u64 10, .int .u64 100, .int .u64 1000, .int .u64 10000, .int .u64 100000, .int .u64 1000000, .int .u64 10000000, .int .u64 100000000, .int .u64 1000000000, .int .u64 10000000000, .int .u64 100000000000, .int .u64 1000000000000, .int .u64 10000000000000, .int .u64 100000000000000, .int .u64 1000000000000000, .int .u64 10000000000000000, .int .u64 100000000000000000, .int .u64 1000000000000000000, .int .u64 10000000000000000000]
def cs4 : List Value := [.int .u8 0, .int .u8 1, .int .u8 28, .int .u8 2, .int .u8 29, .int .u8 14, .int .u8 24, .int .u8 3, .int .u8 30, .int .u8 22, .int .u8 20, .int .u8 15, .int .u8 25, .int .u8 17, .int .u8 4, .int .u8 8, .int .u8 31, .int .u8 27, .int .u8 13, .int .u8 23, .int .u8 21, .int .u8 19, .int .u8 16, .int .u8 7, .int .u8 26, .int .u8 12, .int .u8 18, .int .u8 6, .int .u8 11, .int .u8 5, .int .u8 10, .int .u8 9]
def cs5 : List Value := [.int .u8 0, .int .u8 1, .int .u8 56, .int .u8 2, .int .u8 57, .int .u8 49, .int .u8 28, .int .u8 3, .int .u8 61, .int .u8 58, .int .u8 42, .int .u8 50, .int .u8 38, .int .u8 29, .int .u8 17, .int .u8 4, .int .u8 62, .int .u8 47, .int .u8 59, .int .u8 36, .int .u8 45, .int .u8 43, .int .u8 51, .int .u8 22, .int .u8 53, .int .u8 39, .int .u8 33, .int .u8 30, .int .u8 24, .int .u8 18, .int .u8 12, .int .u8 5, .int .u8 63, .int .u8 55, .int .u8 48, .int .u8 27, .int .u8 60, .int .u8 41, .int .u8 37, .int .u8 16, .int .u8 46, .int .u8 35, .int .u8 44, .int .u8 21, .int .u8 52, .int .u8 32, .int .u8 23, .int .u8 11, .int .u8 54, .int .u8 26, .int .u8 40, .int .u8 15, .int .u8 34, .int .u8 20, .int .u8 31, .int .u8 10, .int .u8 25, .int .u8 14, .int .u8 19, .int .u8 9, .int .u8 13, .int .u8 8, .int .u8 7, .int .u8 6]
def bl0 : BL := [(2, cs2), (4, cs4), (5, cs5)]
noncomputable abbrev B0 : Nat → Option BB := bOf bl0
theorem bl0_ok : blOk bl0 = true := by kernel_rfl
def laidList : List (String × DataW Unit) := [("math/bits.deBruijn32tab", Rows.laid_math_bits_deBruijn32tab), ("math/bits.deBruijn64tab", Rows.laid_math_bits_deBruijn64tab), ("internal/strconv.uint64pow10", Rows.laid_internal_strconv_uint64pow10)]
theorem b0_flat : ∀ k x, B0 k = some x → x.cs.all flatC = true := fun k x h => (bOf_ok bl0_ok k x h).2
theorem laid_heap {W : World} (h : laidMetH Tryz.prog laidList W) : ∀ k x, B0 k = some x → ∃ ct fz, W.heap[k]? = some (.cells ⟨x.cs⟩ ct fz) := by
 rw [MakeChecks.laidMetH_plain _ _ _ (by kernel_rfl)] at h
 obtain ⟨ps, hL, _, _⟩ := h
 have h2 := laid_cells hL (n := "internal/strconv.uint64pow10") (d := Rows.laid_internal_strconv_uint64pow10) (g := 2) (t := 322) (cs := cs2) (by simp [laidList]) (by kernel_rfl) (by kernel_rfl) (by kernel_rfl) (by kernel_rfl)
 have h4 := laid_cells hL (n := "math/bits.deBruijn32tab") (d := Rows.laid_math_bits_deBruijn32tab) (g := 4) (t := 325) (cs := cs4) (by simp [laidList]) (by kernel_rfl) (by kernel_rfl) (by kernel_rfl) (by kernel_rfl)
 have h5 := laid_cells hL (n := "math/bits.deBruijn64tab") (d := Rows.laid_math_bits_deBruijn64tab) (g := 5) (t := 326) (cs := cs5) (by simp [laidList]) (by kernel_rfl) (by kernel_rfl) (by kernel_rfl) (by kernel_rfl)
 have key : ∀ (b : BL), (∀ p ∈ b, ∃ ct fz, W.heap[p.1]? = some (.cells ⟨p.2⟩ ct fz)) → ∀ k x, bOf b k = some x → ∃ ct fz, W.heap[k]? = some (.cells ⟨x.cs⟩ ct fz) := by
  intro b
  induction b with
  | nil => intro _ k x hx; cases hx
  | cons p r ih =>
   obtain ⟨g, cs⟩ := p
   intro hb k x hx
   simp only [bOf] at hx
   split at hx
   ·rename_i e
    cases hx
    rw [← Nat.eq_of_beq_eq_true e]
    exact hb (g, cs) (by simp)
   ·exact ih (fun p hp => hb p (by simp [hp])) k x hx
 refine key bl0 fun p hp => ?_
 simp only [bl0, List.mem_cons, List.not_mem_nil, or_false] at hp
 rcases hp with rfl | rfl | rfl
 ·exact h2
 ·exact h4
 ·exact h5
theorem bOf_real : ∀ (b : BL) k x, bOf b k = some x → x = laidBB k x.cs
 | [], k, x, h => by cases h
 | (g, cs) :: r, k, x, h => by
  simp only [bOf] at h
  split at h
  ·rename_i e; cases h; rw [Nat.eq_of_beq_eq_true e]; rfl
  ·exact bOf_real r k x h
theorem bb0_ok {W : World} (h : laidMetH Tryz.prog laidList W) : BBok B0 W := by
 refine ⟨fun k x hx _ => ?_, fun k x hx => ?_⟩
 ·rw [bOf_real _ k x hx]; exact ⟨rfl, rfl, rfl⟩
 ·obtain ⟨ct, fz, hw⟩ := laid_heap h k x hx
  have hf := b0_flat k x hx
  rw [bOf_real _ k x hx]
  exact laidBB_ok hw hf
end Go.Proofs.YtmcecjplgalcgaaGreatDoor
/- LeagueChecks: the contract over every input. -/
noncomputable section
namespace Go.Proofs.YtmcecjplgalcgaaGreatDoor
open Go Go.Den Go.ChangeShapes Go.WideShapes Go.ChangeAt Go.RowKit
set_option maxRecDepth 10000
def B1 (i : BI) (cs : List Value) : Nat → Option BB := fun k => if k = 1000 then some ⟨i, cs⟩ else B0 k
theorem b0_high {k : Nat} {x : BB} (h : B0 k = some x) : k < 1000 := by
 have h2 := (bOf_ok bl0_ok k x h).1
 first | exact h2 | omega | exact h2.1
theorem glo_ext {B : Nat → Option BB} {H : AHeap} (hB : ∀ k x, B0 k = some x → B k = some x) (hE : Ext (heapOf B) H) : Glo B0 H := by
 intro k x hx
 have := hE _ _ (heapOf_get (hB k x hx))
 rw [AHeap.get_odd _ (by omega)] at this
 rw [show (2 * k + 1) / 2 = k by omega] at this
 exact this
end Go.Proofs.YtmcecjplgalcgaaGreatDoor
/- The symbolic layer: lists that grow by append. -/
noncomputable section
namespace Go.Den
def Stay (k0 : Nat) (L L' : List (Option ABlk)) : Prop := ∀ (j : Nat) y, j < k0 → L[j]? = some (some y) → L'[j]? = some (some y)
theorem Stay.app {k0 : Nat} {L : List (Option ABlk)} (M : List (Option ABlk)) : Stay k0 L (L ++ M) := fun _ _ _ h => getApp h
def lstP (b : Nat) {α : Type} : List α → Option Addr
 | [] => none
 | _ :: _ => some ⟨b, 0, none⟩
def lstV {α : Type} (b : Nat) (l : List α) : Value := .slice (lstP b l) l.length l.length
def lstL {α : Type} (m : Nat) (f : α → List Value) : List α → List (Option ABlk)
 | [] => []
 | a :: l => [some (.cells ((a :: l).flatMap f) m true false)]
def lstH {α : Type} (H : AHeap) (m : Nat) (f : α → List Value) : List α → AHeap
 | [] => H
 | a :: l => H.add (.cells ((a :: l).flatMap f) m true false)
section
variable {α : Type} {H : AHeap} {lo : Nat} {L : List (Option ABlk)} {m : Nat} {f : α → List Value} {l : List α}
theorem lstH_ext : lstH (ext H lo L) m f l = ext H lo (L ++ lstL m f l) := by
 cases l with
 | nil => simp [lstH, lstL]
 | cons a l => simp only [lstH, lstL, ext_add]
theorem lst_slAt (hf : ∀ x, (f x).length = m) : SlAt (ext H lo (L ++ lstL m f l)) m f (lstP (nb H L.length) l) l := by
 cases l with
 | nil => exact .nil
 | cons a l => exact slAt_flat hf (ext_get_new List.getElem?_concat_length)
end
structure Lst {α : Type} (H : AHeap) (L : List (Option ABlk)) (m : Nat) (f : α → List Value) (k0 : Nat) (v : Value) (l : List α) : Prop where
 out : (l = [] ∧ v = .slice none 0 0) ∨ (l ≠ [] ∧ ∃ k, k0 ≤ k ∧ v = .slice (some ⟨nb H k, 0, none⟩) l.length l.length ∧ L[k]? = some (some (.cells (l.flatMap f) m true false)))
section
variable {α : Type} {H : AHeap} {lo : Nat} {L L' : List (Option ABlk)} {m : Nat} {f : α → List Value} {l : List α} {k0 : Nat} {v : Value}
theorem Lst.nil : Lst H L m f k0 (.slice none 0 0) ([] : List α) := ⟨.inl ⟨rfl, rfl⟩⟩
theorem Lst.app (h : Lst H L m f k0 v l) (M : List (Option ABlk)) : Lst H (L ++ M) m f k0 v l := by
 rcases h.out with ⟨e1, e2⟩ | ⟨hne, k, h1, e, h2⟩
 ·exact ⟨.inl ⟨e1, e2⟩⟩
 ·exact ⟨.inr ⟨hne, k, h1, e, getApp h2⟩⟩
end
section
variable {P : Program} {rd : Option Nat} {nt : Nat} {ops : Array Oper} {l : EL} {ds : List Nat} {K : St → Prop} {i : Nat} {r : List Oper} {o : Oper} {ty : TypeId} {pos : String} {af : Array Edge} {H : AHeap} {lo : Nat} {L : List (Option ABlk)}
theorem seq_grow [PC P] {α : Type} {lst xs : List α} {f : α → List Value} {m k0 d : Nat} {args : Array Operand} {tys : Array TypeId} {st : TypeId} {tr : List TypeId} {v : Value} {b o' c by' z : Nat} {ag k ro : Bool} {e : TypeId} {zs cs : List Value}
  (hc : Closed H) (hv : Lst H L m f k0 v lst) (h0 : k0 ≤ L.length) (hf : ∀ x, (f x).length = m) (hone : ∀ x, (f x).all oneCell = true)
  (ha : evs l args.toList = some [v, .slice (some ⟨b, o', none⟩) xs.length c]) (hty : tys.toList = st :: st :: tr)
  (hs : selOf P st = some (m, ag)) (he : (tyOf P st).map (·.und) = some (.slice e)) (hz : zerOf P e = some zs) (hby : (tyOf P e).map (·.bytes) = some by')
  (hb : (ext H lo L).get b = some (.cells cs z k ro)) (hn : sliceIn cs o' (xs.length * m) = some (xs.flatMap f)) (hxs : xs ≠ []) (h1 : (2 * (lst.length + xs.length) + 1000) * by' ≤ 2 ^ 48) (h2 : by' ≠ 0) (h3 : m ≠ 0) (hd : Nat.blt d nt = true)
  (hk : ∀ v' L', Lst H L' m f k0 v' (lst ++ xs) → Stay k0 L L' → L'.length = L.length + 1 → SeqL P rd nt ops (o :: r) (i + 1) ⟨ofA ((d, v') :: l), ds, ext H lo L'⟩ K) :
  SeqL P rd nt ops (⟨some d, .call ⟨.builtin .append, args, tys⟩, ty, pos, af, none⟩ :: o :: r) i ⟨ofA l, ds, ext H lo L⟩ K := by
 have hx0 : 0 < xs.length := by cases xs with | nil => exact absurd rfl hxs | cons _ _ => simp
 have hall : (xs.flatMap f).all oneCell = true := by
  rw [List.all_eq_true]
  intro x hx
  obtain ⟨y, _, hy⟩ := List.mem_flatMap.1 hx
  exact List.all_eq_true.1 (hone y) x hy
 rcases hv.out with ⟨rfl, rfl⟩ | ⟨hne, k1, hk1, rfl, hL⟩
 ·refine seq_newS (do_append0 ha hty hs he hz hby hb hn (by simpa using h1) h2 h3 hx0) hd (hk _ _ ?_ (Stay.app _) (by simp))
  exact ⟨.inr ⟨by simpa using hxs, L.length, h0, by simp, by simp⟩⟩
 ·have hlt : k1 < L.length := (List.getElem?_eq_some_iff.1 hL).1
  refine seq_push hc hlt (do_append1 ha hty hs he hz hby hb hn (ext_get_new hL) (len_flat hf lst) (nb_own _) hall h1 h2 h3 hx0) hd (hk _ _ ?_ ?_ (by simp))
  ·exact ⟨.inr ⟨by simp [hne], L.length, h0, by simp, by simp⟩⟩
  ·intro j y hj hy
   rw [List.getElem?_append_left (by rw [List.length_set]; omega), List.getElem?_set_ne (by omega)]
   exact hy
end
section
variable {P : Program} {l : EL} {H : AHeap} {lo : Nat} {L : List (Option ABlk)} {α : Type} {m k0 : Nat} {f : α → List Value} {lst : List α} {v : Value}
theorem flat_all (hf : ∀ x, (f x).all (flatD 8) = true) (l : List α) : (l.flatMap f).all (flatD 8) = true := by
 rw [List.all_eq_true]
 intro x hx
 obtain ⟨y, _, hy⟩ := List.mem_flatMap.1 hx
 exact List.all_eq_true.1 (hf y) x hy
theorem fin_lst2 {Q : Value → AHeap → Prop} {rs : Array ResultVar} {n : Int} {kd : IntKind} (hc : Closed H) (hv : Lst H L m f k0 v lst) (hr : resE l rs.toList = some [v, .int kd n]) (hf : ∀ x, (f x).all (flatD 8) = true) (hq : Q (.tuple ⟨[lstV H.fresh lst, .int kd n]⟩) (lstH H m f lst)) : Fin P rs H Q ⟨ofA l, [], ext H lo L⟩ := by
 rcases hv.out with ⟨rfl, rfl⟩ | ⟨hne, k, hk, rfl, hL⟩
 ·exact fin_flat hc hr rfl hq
 ·cases lst with
  | nil => exact absurd rfl hne
  | cons a lst => exact fin_one hc hr hL (flat_all hf _) (v := .tuple ⟨[lstV H.fresh (a :: lst), .int kd n]⟩) (by simp [packA, renV, renL, lstV, lstP, renOf_one (H := H) ⟨own_iff.1 (nb_own k), nb_ge k⟩]) (by exact hq)
end
/-! ### max and min of two numbers -/
section
variable {P : Program} {l : EL} {h : AHeap}
theorem do_max {args : Array Operand} {tys : Array TypeId} {k : IntKind} {a b : Int} (ha : evs l args.toList = some [.int k a, .int k b]) : Does P l (.call ⟨.builtin .max, args, tys⟩) h (.int k (max a b)) h := by
 refine do_builtin ha ?_
 simp only [biA, extremeA, extremeA.go, if_true, Option.map_some]
 have : (if b > a then b else a) = max a b := by split <;> omega
 rw [this]
theorem do_min {args : Array Operand} {tys : Array TypeId} {k : IntKind} {a b : Int} (ha : evs l args.toList = some [.int k a, .int k b]) : Does P l (.call ⟨.builtin .min, args, tys⟩) h (.int k (min a b)) h := by
 refine do_builtin ha ?_
 simp only [biA, extremeA, extremeA.go, Bool.false_eq_true, if_false, Option.map_some]
 have : (if b < a then b else a) = min a b := by split <;> omega
 rw [this]
theorem do_eqlNilS {t t' : TypeId} {x y : Operand} {p : Option Addr} {n c : Nat} (hx : ev l x = some (.slice p n c)) (hy : ev l y = some (.slice none 0 0)) (ht : (selOf P t).isSome = true) : Does P l (.binOp .eql t x y t') h (.bool p.isNone) h := by
 refine do_eql hx hy trivial ?_
 cases hs : selOf P t with
 | none => rw [hs] at ht; cases ht
 | some z =>
  obtain ⟨ti, e, ei, h1, h2, h3, h4, h5⟩ := selOf_spec (n := z.1) (a := z.2) hs
  unfold eqA
  simp only [h1, h2]
  cases p <;> rfl
theorem do_sliceArr {t : TypeId} {x : Operand} {b o n m : Nat} {ag : Bool} (hx : ev l x = some (.pointer (some ⟨b, o, none⟩))) (hs : aelOf P t = some (n, m, ag)) (_hn : Nat.blt 0 n = true) : Does P l (.slice t x none none none) h (.slice (some ⟨b, o, none⟩) n n) h := by
 obtain ⟨ti, e, ei, h1, h2, h3, h4, h5⟩ := aelOf_spec hs
 refine do_slice hx rfl rfl rfl ?_
 have hb : bounds3 n n none none none = some (0, n, n) := by simp [bounds3, bound]
 simp only [sliceA, h1, h2, h3, hb]
 simp
end
end Go.Den
