import Derived.Test.YtlejimjgagfalaaGreatDoorSxA
import Derived.Test.YtlejimjgagfalaaGreatDoorProg
import Derived.KernelRfl
import Derived.Deep.Slices
import Derived.Deep.Strs
import Derived.Test.YtlejimjgagfalaaGreatDoorCards
import Derived.Test.YtlejimjgagfalaaGreatDoorTie
import Derived.MakeChecks
import Derived.LaidMore
import Derived.WalkKit
import Derived.ProofKit
import Derived.OpenShut
import Derived.Deep.DeepHandedRow
import Derived.Lib.LaidTab
import Derived.Laws.RangeString
import Derived.Laws.RangeAny
noncomputable section
namespace Go.Den
def Stay (k0 : Nat) (L L' : List (Option ABlk)) : Prop := ∀ (j : Nat) y, j < k0 → L[j]? = some (some y) → L'[j]? = some (some y)
theorem Stay.app {k0 : Nat} {L : List (Option ABlk)} (M : List (Option ABlk)) : Stay k0 L (L ++ M) := fun _ _ _ h => getApp h
def lstP (b : Nat) {α : Type} : List α → Option Addr
 | [] => none
 | _ :: _ => some ⟨b, 0, none⟩
def lstV {α : Type} (b : Nat) (l : List α) : Value := .slice (lstP b l) l.length l.length
def lstL {α : Type} (m : Nat) (f : α → List Value) : List α → List (Option ABlk)
 | [] => []
 | a :: l => [some (.cells ((a :: l).flatMap f) m true false)]
def lstH {α : Type} (H : AHeap) (m : Nat) (f : α → List Value) : List α → AHeap
 | [] => H
 | a :: l => H.add (.cells ((a :: l).flatMap f) m true false)
section
variable {α : Type} {H : AHeap} {lo : Nat} {L : List (Option ABlk)} {m : Nat} {f : α → List Value} {l : List α}
theorem zeR : lstH (ext H lo L) m f l = ext H lo (L ++ lstL m f l) := by
 cases l with
 | nil => simp [lstH, lstL]
 | cons a l => simp only [lstH, lstL, za2]
theorem zgd (hf : ∀ x, (f x).length = m) : SlAt (ext H lo (L ++ lstL m f l)) m f (lstP (nb H L.length) l) l := by
 cases l with
 | nil => exact .nil
 | cons a l => exact zbs hf (zaa List.getElem?_concat_length)
end
structure Lst {α : Type} (H : AHeap) (L : List (Option ABlk)) (m : Nat) (f : α → List Value) (k0 : Nat) (v : Value) (l : List α) : Prop where
 out : (l = [] ∧ v = .slice none 0 0) ∨ (l ≠ [] ∧ ∃ k, k0 ≤ k ∧ v = .slice (some ⟨nb H k, 0, none⟩) l.length l.length ∧ L[k]? = some (some (.cells (l.flatMap f) m true false)))
section
variable {α : Type} {H : AHeap} {lo : Nat} {L L' : List (Option ABlk)} {m : Nat} {f : α → List Value} {l : List α} {k0 : Nat} {v : Value}
theorem Lst.nil : Lst H L m f k0 (.slice none 0 0) ([] : List α) := ⟨.inl ⟨rfl, rfl⟩⟩
theorem Lst.slice (h : Lst H L m f k0 v l) (hf : ∀ x, (f x).length = m) : ∃ p, v = .slice p l.length l.length ∧ SlAt (ext H lo L) m f p l ∧ (p = none ↔ l = []) := by
 rcases h.out with ⟨rfl, rfl⟩ | ⟨hne, k, h1, rfl, h2⟩
 ·exact ⟨none, rfl, .nil, by simp⟩
 ·exact ⟨_, rfl, zbs hf (zaa h2), by simp [hne]⟩
theorem Lst.app (h : Lst H L m f k0 v l) (M : List (Option ABlk)) : Lst H (L ++ M) m f k0 v l := by
 rcases h.out with ⟨e1, e2⟩ | ⟨hne, k, h1, e, h2⟩
 ·exact ⟨.inl ⟨e1, e2⟩⟩
 ·exact ⟨.inr ⟨hne, k, h1, e, getApp h2⟩⟩
theorem Lst.stay {k1 : Nat} (h : Lst H L m f k0 v l) (hs : Stay k1 L L') (hk : ∀ k, L[k]? = some (some (.cells (l.flatMap f) m true false)) → k < k1) : Lst H L' m f k0 v l := by
 rcases h.out with ⟨e1, e2⟩ | ⟨hne, k, h1, e, h2⟩
 ·exact ⟨.inl ⟨e1, e2⟩⟩
 ·exact ⟨.inr ⟨hne, k, h1, e, hs k _ (hk k h2) h2⟩⟩
theorem Lst.stayAll (h : Lst H L m f k0 v l) (hs : Stay L.length L L') : Lst H L' m f k0 v l :=
 h.stay hs fun _ hk => (List.getElem?_eq_some_iff.1 hk).1
theorem Lst.le {k1 : Nat} (h : Lst H L m f k1 v l) (hk : k0 ≤ k1) : Lst H L m f k0 v l := by
 rcases h.out with ⟨e1, e2⟩ | ⟨hne, k, h1, e, h2⟩
 ·exact ⟨.inl ⟨e1, e2⟩⟩
 ·exact ⟨.inr ⟨hne, k, by omega, e, h2⟩⟩
end
section
variable {P : Program} {rd : Option Nat} {nt : Nat} {ops : Array Oper} {l : EL} {ds : List Nat} {K : St → Prop} {i : Nat} {r : List Oper} {o : Oper} {ty : TypeId} {pos : String} {af : Array Edge} {H : AHeap} {lo : Nat} {L : List (Option ABlk)}
theorem zbP [PC P] {α : Type} {lst xs : List α} {f : α → List Value} {m k0 d : Nat} {args : Array Operand} {tys : Array TypeId} {st : TypeId} {tr : List TypeId} {v : Value} {b o' c by' z : Nat} {ag k ro : Bool} {e : TypeId} {zs cs : List Value}
  (hc : Closed H) (hv : Lst H L m f k0 v lst) (h0 : k0 ≤ L.length) (hf : ∀ x, (f x).length = m) (hone : ∀ x, (f x).all oneCell = true)
  (ha : evs l args.toList = some [v, .slice (some ⟨b, o', none⟩) xs.length c]) (hty : tys.toList = st :: st :: tr)
  (hs : selOf P st = some (m, ag)) (he : (tyOf P st).map (·.und) = some (.slice e)) (hz : zerOf P e = some zs) (hby : (tyOf P e).map (·.bytes) = some by')
  (hb : (ext H lo L).get b = some (.cells cs z k ro)) (hn : sliceIn cs o' (xs.length * m) = some (xs.flatMap f)) (hxs : xs ≠ []) (h1 : (2 * (lst.length + xs.length) + 1000) * by' ≤ 2 ^ 48) (h2 : by' ≠ 0) (h3 : m ≠ 0) (hd : Nat.blt d nt = true)
  (hk : ∀ v' L', Lst H L' m f k0 v' (lst ++ xs) → Stay k0 L L' → L'.length = L.length + 1 → SeqL P rd nt ops (o :: r) (i + 1) ⟨ofA ((d, v') :: l), ds, ext H lo L'⟩ K) :
  SeqL P rd nt ops (⟨some d, .call ⟨.builtin .append, args, tys⟩, ty, pos, af, none⟩ :: o :: r) i ⟨ofA l, ds, ext H lo L⟩ K := by
 have hx0 : 0 < xs.length := by cases xs with | nil => exact absurd rfl hxs | cons _ _ => simp
 have hall : (xs.flatMap f).all oneCell = true := by
  rw [List.all_eq_true];intro x hx;obtain ⟨y, _, hy⟩ := List.mem_flatMap.1 hx;exact List.all_eq_true.1 (hone y) x hy
 rcases hv.out with ⟨rfl, rfl⟩ | ⟨hne, k1, hk1, rfl, hL⟩
 ·refine zbO (zd9 ha hty hs he hz hby hb hn (by simpa using h1) h2 h3 hx0) hd (hk _ _ ?_ (Stay.app _) (by simp));exact ⟨.inr ⟨by simpa using hxs, L.length, h0, by simp, by simp⟩⟩
 ·have hlt : k1 < L.length := (List.getElem?_eq_some_iff.1 hL).1;refine zf4 hc hlt (zc7 ha hty hs he hz hby hb hn (zaa hL) (zbR hf lst) (zat _) hall h1 h2 h3 hx0) hd (hk _ _ ?_ ?_ (by simp))
  ·exact ⟨.inr ⟨by simp [hne], L.length, h0, by simp, by simp⟩⟩
  ·intro j y hj hy;rw [List.getElem?_append_left (by rw [List.length_set]; omega), List.getElem?_set_ne (by omega)];exact hy
end
section
variable {P : Program} {l : EL} {H : AHeap} {lo : Nat} {L : List (Option ABlk)} {α : Type} {m k0 : Nat} {f : α → List Value} {lst : List α} {v : Value}
theorem zdm (hf : ∀ x, (f x).all (flatD 8) = true) (l : List α) : (l.flatMap f).all (flatD 8) = true := by
 rw [List.all_eq_true];intro x hx;obtain ⟨y, _, hy⟩ := List.mem_flatMap.1 hx;exact List.all_eq_true.1 (hf y) x hy
theorem zku {Q : Value → AHeap → Prop} {rs : Array ResultVar} (hc : Closed H) (hv : Lst H L m f k0 v lst) (hr : resE l rs.toList = some [v]) (hf : ∀ x, (f x).all (flatD 8) = true) (hq : Q (lstV H.fresh lst) (lstH H m f lst)) : Fin P rs H Q ⟨ofA l, [], ext H lo L⟩ := by
 rcases hv.out with ⟨rfl, rfl⟩ | ⟨hne, k, hk, rfl, hL⟩
 ·exact zab hc hr rfl hq
 ·cases lst with
  | nil => exact absurd rfl hne
  | cons a lst => exact zci hc hr hL (zdm hf _) (v := lstV H.fresh (a :: lst)) (by simp [packA, renV, lstV, lstP, zbw (H := H) ⟨zao.1 (zat k), zbf k⟩]) (by exact hq)
theorem zly {Q : Value → AHeap → Prop} {rs : Array ResultVar} {n : Int} {kd : IntKind} (hc : Closed H) (hv : Lst H L m f k0 v lst) (hr : resE l rs.toList = some [v, .int kd n]) (hf : ∀ x, (f x).all (flatD 8) = true) (hq : Q (.tuple ⟨[lstV H.fresh lst, .int kd n]⟩) (lstH H m f lst)) : Fin P rs H Q ⟨ofA l, [], ext H lo L⟩ := by
 rcases hv.out with ⟨rfl, rfl⟩ | ⟨hne, k, hk, rfl, hL⟩
 ·exact zab hc hr rfl hq
 ·cases lst with
  | nil => exact absurd rfl hne
  | cons a lst => exact zci hc hr hL (zdm hf _) (v := .tuple ⟨[lstV H.fresh (a :: lst), .int kd n]⟩) (by simp [packA, renV, renL, lstV, lstP, zbw (H := H) ⟨zao.1 (zat k), zbf k⟩]) (by exact hq)
end
section
variable {P : Program} {l : EL} {h : AHeap}
theorem zlH {args : Array Operand} {tys : Array TypeId} {k : IntKind} {a b : Int} (ha : evs l args.toList = some [.int k a, .int k b]) : Does P l (.call ⟨.builtin .max, args, tys⟩) h (.int k (max a b)) h := by
 refine zca ha ?_;simp only [biA, extremeA, extremeA.go, if_true, Option.map_some];have : (if b > a then b else a) = max a b := by split <;> omega
 rw [this]
theorem do_min {args : Array Operand} {tys : Array TypeId} {k : IntKind} {a b : Int} (ha : evs l args.toList = some [.int k a, .int k b]) : Does P l (.call ⟨.builtin .min, args, tys⟩) h (.int k (min a b)) h := by
 refine zca ha ?_;simp only [biA, extremeA, extremeA.go, Bool.false_eq_true, if_false, Option.map_some];have : (if b < a then b else a) = min a b := by split <;> omega
 rw [this]
theorem zcu {t t' : TypeId} {x y : Operand} {p : Option Addr} {n c : Nat} (hx : ev l x = some (.slice p n c)) (hy : ev l y = some (.slice none 0 0)) (ht : (selOf P t).isSome = true) : Does P l (.binOp .eql t x y t') h (.bool p.isNone) h := by
 refine zdU hx hy trivial ?_
 cases hs : selOf P t with
 | none => rw [hs] at ht; cases ht
 | some z =>
  obtain ⟨ti, e, ei, h1, h2, h3, h4, h5⟩ := zbI (n := z.1) (a := z.2) hs;unfold eqA;simp only [h1, h2];cases p <;> rfl
theorem zep {t : TypeId} {x : Operand} {b o n m : Nat} {ag : Bool} (hx : ev l x = some (.pointer (some ⟨b, o, none⟩))) (hs : aelOf P t = some (n, m, ag)) (_hn : Nat.blt 0 n = true) : Does P l (.slice t x none none none) h (.slice (some ⟨b, o, none⟩) n n) h := by
 obtain ⟨ti, e, ei, h1, h2, h3, h4, h5⟩ := zh7 hs;refine ziI hx rfl rfl rfl ?_;have hb : bounds3 n n none none none = some (0, n, n) := by simp [bounds3, bound]
 simp only [sliceA, h1, h2, h3, hb];simp
end
structure Puts (H H1 : AHeap) : Prop where
 next : H1.next = H.next
 odd : ∀ b, b % 2 = 1 → H1.get b = H.get b
 ge : ∀ b, b % 2 = 0 → H.fresh ≤ b → H1.get b = none
 chg : ∀ b y, b % 2 = 0 → b < H.fresh → H1.get b = some y → H.get b = some y ∨ ∃ cs z s ro, y = .cells cs z s ro ∧ cs.all (flatD 8) = true
 low : H1.low ≤ H.low
 lows : ∀ b, b < H.fresh → b < H1.low → H1.get b = H.get b
theorem Puts.refl {H : AHeap} (hc : Closed H) : Puts H H := ⟨rfl, fun _ _ => rfl, hc, fun _ _ _ _ h => .inl h, Nat.le_refl _, fun _ _ _ => rfl⟩
theorem Puts.closed {H H1 : AHeap} (h : Puts H H1) : Closed H1 := fun b h1 h2 => h.ge b h1 (by simp only [AHeap.fresh, h.next] at h2 ⊢; exact h2)
theorem Puts.put {H H1 : AHeap} (h : Puts H H1) {b : Nat} (hb : own b = true) (hlt : b < H.fresh) {cs : List Value} {z : Nat} {s ro : Bool} (hf : cs.all (flatD 8) = true) : Puts H (H1.put b (.cells cs z s ro)) := by
 refine ⟨h.next, fun c hc => ?_, fun c h1 h2 => ?_, fun c y h1 h2 hy => ?_, Nat.le_trans (Nat.min_le_left _ _) h.low, fun c h1 h2 => ?_⟩
 ·rw [AHeap.get_put _ _ _ _ hb, if_neg (by intro e; subst e; rw [zao] at hb; omega)]; exact h.odd c hc
 ·rw [AHeap.get_put _ _ _ _ hb, if_neg (by omega)]; exact h.ge c h1 h2
 ·rw [AHeap.get_put _ _ _ _ hb] at hy;split at hy
  ·cases hy; exact .inr ⟨_, _, _, _, rfl, hf⟩
  ·exact h.chg c y h1 h2 hy
 ·have h2' : c < min H1.low b := h2;rw [AHeap.get_put _ _ _ _ hb, if_neg (by omega)];exact h.lows c h1 (by omega)
theorem zcA {H : AHeap} {b c : Nat} {x : ABlk} (hb : own b = true) : (H.put b x).get c = if c = b then some x else H.get c := AHeap.get_put _ _ _ _ hb
theorem zf9 {H : AHeap} {b : Nat} {x : ABlk} (hb : own b = true) : (H.put b x).get b = some x := by rw [zcA hb, if_pos rfl]
theorem zk8 {H : AHeap} {b c : Nat} {x y : ABlk} (hb : own b = true) (hne : c ≠ b) (h : H.get c = some y) : (H.put b x).get c = some y := by rw [zcA hb, if_neg hne]; exact h
theorem zc9 {H : AHeap} (hc : Closed H) {b : Nat} {x : ABlk} (hb : own b = true) (hlt : b < H.fresh) : Closed (H.put b x) := fun c h1 h2 => by
 have h2' : H.fresh ≤ c := h2;rw [zcA hb, if_neg (by omega)]; exact hc c h1 h2'
section
variable {P : Program} {rd : Option Nat} {nt : Nat} {ops : Array Oper} {l : EL} {ds : List Nat} {K : St → Prop} {i : Nat} {r : List Oper} {o : Oper} {ty : TypeId} {pos : String} {af : Array Edge} {H : AHeap} {lo : Nat} {L : List (Option ABlk)}
 {Qn : St → Prop} {Qe : Nat → St → Prop} {Qr : St → Prop}
end
section
variable {P : Program} {l : EL} {h : AHeap}
end
section
variable {P : Program} {C : Ctx} {rd : Option Nat} {nt : Nat} {ops : Array Oper}
end
section
variable {P : Program} {rd : Option Nat} {nt : Nat} {ops : Array Oper} {l : EL} {ds : List Nat} {h : AHeap} {K : St → Prop} {i : Nat} {r : List Oper} {ty : TypeId} {pos : String} {af : Array Edge}
end
structure Only (o o' : List Nat) (h h' : AHeap) : Prop where
 old : ∀ b, b ∉ o → (b % 2 = 1 ∨ b < h.fresh) → h'.get b = h.get b
 nw : ∀ b ∈ o', b ∈ o ∨ (b % 2 = 0 ∧ h.fresh ≤ b)
 fresh : h.fresh ≤ h'.fresh
 closed : Closed h'
 low : h'.low ≤ h'.fresh
theorem zo0 {h : AHeap} (hl : h.low ≤ h.fresh) : HQ h (ext h h.low []) := ⟨fun b => rfl, rfl, (by show h.low = min h.low h.fresh; omega)⟩
theorem tidy_id {H : AHeap} {v : Value} {H1 : AHeap} : Tidy H v H1 v { H1 with low := min H1.low H.low } := by
 intro Γ Γ1 w w' v' hr h1 ha hv;refine ⟨Γ1, h1.lower _, ?_, hv⟩;refine ⟨ha.ext, ha.fresh, ha.size, ha.keep, ha.mine, ha.os, ha.tape, ha.output, ⟨Nat.min_le_right _ _, fun b hb => ?_⟩⟩;refine ha.kept.get b ?_;rcases hb with hb | ⟨h1, h2⟩
 ·exact .inl hb
 ·exact .inr ⟨h1, Nat.lt_of_lt_of_le h2 (Nat.min_le_left _ _)⟩
theorem zo7 {P : Program} {H h : AHeap} {Q : Value → AHeap → Prop} {rs : Array ResultVar} {l : EL} {vs : List Value} (hr : resE l rs.toList = some vs) (hq : Q (packA vs) { h with low := min h.low H.low }) : Fin P rs H Q ⟨ofA l, [], h⟩ :=
 ⟨⟨_, vs, packA vs, _, rfl, zdD hr, tidy_id, hq⟩⟩
end Go.Den
namespace Go.Proofs
open Go Go.Den
instance pcTryz : PC Tryz.prog := ⟨ctxOk (by kernel_rfl) (by kernel_rfl)⟩
end Go.Proofs
noncomputable section
namespace Go.Proofs.YtlejimjgagfalaaGreatDoor
open Go Go.Den
set_option maxRecDepth 10000
abbrev I (n : Int) : Value := .int .i64 n
def whenL (b : Bool) (e : Int) : Int := if b then e else 0
def firstL (l : List Int) : Int := (l.find? (fun e => decide (e ≠ 0))).getD 0
def outL (n a b : Int) : Bool := decide (n < a ∨ n > b)
abbrev i1 (x : Int) : List Value := [I x]
theorem when85 {H : AHeap} {b : Bool} {e : Int} : Ret Tryz.prog 69 [.bool b, I e] H (I (whenL b e)) H := by
 refine zae Tryz.func69 rfl rfl rfl fun hc => ?_
 refine zst ?_;refine zai rfl (fun hb => ?_) (fun hb => ?_)
 ·refine zst ?_;refine zab hc rfl rfl ⟨?_, rfl⟩;rw [hb]; rfl
 ·refine zst ?_;refine zab hc rfl rfl ⟨?_, rfl⟩;rw [hb]; rfl
theorem within89 {H : AHeap} {n a b : Int} : Ret Tryz.prog 47 [I n, I a, I b] H (I (whenL (outL n a b) 3)) H := by
 refine zae Tryz.func47 rfl rfl rfl fun hc => ?_
 refine zst ?_;refine zq0 ?_;refine zst ?_;refine zan rfl rfl (fun hb => ?_) (fun hb => ?_)
 ·refine zst ?_;apply zac (ht := rfl); exact when85; exact rfl;refine zst ?_;refine zab hc rfl rfl ⟨?_, rfl⟩;simp at hb;simp [packA, whenL, outL, hb]
 ·refine zst ?_;refine zq1 ?_;refine zst ?_;apply zac (ht := rfl); exact when85; exact rfl;refine zst ?_;refine zab hc rfl rfl ⟨?_, rfl⟩;simp at hb;have : ¬ n < a := by omega
  simp [packA, whenL, outL, this]
theorem outside24 {H : AHeap} {n a b : Int} : Ret Tryz.prog 13 [I n, I a, I b] H (.bool (outL n a b)) H := by
 refine zae Tryz.func13 rfl rfl rfl fun hc => ?_
 refine zst ?_;refine zq0 ?_;refine zst ?_;refine zan rfl rfl (fun hb => ?_) (fun hb => ?_)
 ·refine zst ?_;refine zab hc rfl rfl ⟨?_, rfl⟩;simp at hb;simp [packA, outL, hb]
 ·refine zst ?_;refine zq1 ?_;refine zst ?_;refine zab hc rfl rfl ⟨?_, rfl⟩;simp at hb;have : ¬ n < a := by omega
  simp [packA, outL, this]
theorem zdM {l : List Int} {i : Nat} (hi : i < l.length) (h : ∀ j (hj : j < l.length), j < i → l[j] = 0) (hne : l[i] ≠ 0) : firstL l = l[i] := by
 have : l.find? (fun e => decide (e ≠ 0)) = some l[i] := by
  rw [List.find?_eq_some_iff_getElem];refine ⟨by simpa using hne, i, hi, rfl, fun j hj => ?_⟩;simp [h j (by omega) hj]
 simp only [firstL, this]; rfl
theorem zcD {l : List Int} (h : ∀ j (hj : j < l.length), l[j] = 0) : firstL l = 0 := by
 have : l.find? (fun e => decide (e ≠ 0)) = none := by
  rw [List.find?_eq_none];intro x hx;obtain ⟨j, hj, rfl⟩ := List.getElem_of_mem hx;simp [h j hj]
 simp only [firstL, this]; rfl
theorem first84 {H : AHeap} {q : Option Addr} {c : Nat} {l : List Int} (hs : SlAt H 1 i1 q l) (hn : l.length < 1000000000000) :
  Ret Tryz.prog 46 [.slice q l.length c] H (I (firstL l)) H := by
 refine zae Tryz.func46 rfl rfl rfl fun hc => ?_
 refine zst ?_;apply zar;refine zcG (fun i => [(5, .slice q l.length c), (6, I l.length), (7, I i)]) (fun i => ∀ j (hj : j < l.length), j < i → l[j] = 0) l.length (fun i hi hJ ih => ?_) 0 (by omega) (by intros; omega) zsb;refine zst ?_;refine zq0 ?_;refine zst ?_;refine zai rfl (fun hb => ?_) (fun hb => ?_)
 ·simp only [decide_eq_true_eq, Int.ofNat_lt] at hb;obtain ⟨b, o, cs, z, s, ro, rfl, hg, hw⟩ := hs.out (by intro e; rw [e] at hb; simp at hb);refine zst ?_;refine zq2 ?_;refine zq3 ?_;refine zst ?_;refine zq0 ?_;apply zaf;refine zai rfl (fun h2 => ?_) (fun h2 => ?_)
  ·refine zst ?_;refine zab hc rfl rfl ⟨?_, rfl⟩;rw [zdM hb hJ (by simpa using h2)]; rfl
  ·refine zst ?_;refine zq4 ?_;refine zst ?_;refine zbn ?_ (ih (i + 1) (by omega) (by omega) fun j hj hji => ?_)
   ·(repeat (first | exact zbi | apply za0 rfl))
   ·rcases Nat.lt_or_ge j i with h | h
    ·exact hJ j hj h
    ·have : j = i := by omega
     subst this; simpa using h2
 ·simp only [decide_eq_false_iff_not, Int.ofNat_lt] at hb;apply zap;apply zaq; exact rfl;refine zst ?_;refine zab hc rfl rfl ⟨?_, rfl⟩;rw [zcD fun j hj => hJ j hj (by omega)]; rfl
structure Fx where
 day : Int
 home : Int
 away : Int
def fx (x : Fx) : List Value := [I x.day, I x.home, I x.away]
theorem sameInts79 {H : AHeap} {p q : Option Addr} {c c' : Nat} {l m : List Int} (hs : SlAt H 1 i1 p l) (ht : SlAt H 1 i1 q m) (hn : l.length < 1000000000000) :
  Ret Tryz.prog 32 [.slice p l.length c, .slice q m.length c'] H (.bool (decide (l = m))) H := by
 refine zae Tryz.func32 rfl rfl rfl fun hc => ?_
 refine zst ?_;refine zq0 ?_;apply zaf;refine zai rfl (fun hb => ?_) (fun hb => ?_)
 ·refine zst ?_;refine zab hc rfl rfl ⟨?_, rfl⟩
  have : l ≠ m := by
   intro e;subst e;have hb : (((l.length : Int)) != (l.length : Int)) = true := hb;simp at hb
  simp [packA, this]
 ·have hlen : l.length = m.length := by
   have hb : (((l.length : Int)) != (m.length : Int)) = false := hb;simp at hb; omega
  refine zst ?_;apply zar;refine zcG (fun i => [(0, .slice p l.length c), (1, .slice q m.length c'), (5, I i)]) (fun i => ∀ j (hj : j < l.length), j < i → l[j] = m[j]'(by omega)) l.length (fun i hi hJ ih => ?_) 0 (by omega) (by intros; omega) zsb;refine zst ?_;refine zq0 ?_;apply zaf;refine zai rfl (fun h1 => ?_) (fun h1 => ?_)
  ·simp only [decide_eq_true_eq, Int.ofNat_lt] at h1;have h1' : i < m.length := by omega
   obtain ⟨b, o, cs, z, s, ro, rfl, hg, hw⟩ := hs.out (by intro e; rw [e] at h1; simp at h1);obtain ⟨b', o', cs', z', s', ro', rfl, hg', hw'⟩ := ht.out (by intro e; rw [e] at h1'; simp at h1');refine zst ?_;apply zax (by assumption); decide +kernel;(iterate 2 (refine zq5 ?_));refine zq6 ?_;refine zq7 ?_;(iterate 2 (refine zq5 ?_));refine zq6 ?_;refine zq7 ?_;refine zq8 ?_;apply zaz;refine zai rfl (fun h2 => ?_) (fun h2 => ?_)
   ·refine zst ?_;refine zab hc rfl rfl ⟨?_, rfl⟩
    have : l ≠ m := by
     intro e;subst e;have h2 : (l[i] != l[i]) = true := h2;simp at h2
    simp [packA, this]
   ·refine zst ?_;refine zq4 ?_;refine zst ?_;refine zbn ?_ (ih (i + 1) (by omega) (by omega) fun j hj hji => ?_)
    ·(repeat (first | exact zbi | apply za0 rfl))
    ·rcases Nat.lt_or_ge j i with h | h
     ·exact hJ j hj h
     ·have : j = i := by omega
      subst this;have h2 : (l[j] != m[j]) = false := h2;simpa using h2
  ·simp only [decide_eq_false_iff_not, Int.ofNat_lt] at h1;apply zap;apply zaq; exact rfl;refine zst ?_;refine zab hc rfl rfl ⟨?_, rfl⟩;have : l = m := List.ext_getElem hlen fun j hj _ => hJ j hj (by omega)
   simp [packA, this]
theorem zgr {α : Type} {l : List α} {i : Nat} (h : i < l.length) : l.take (i + 1) = l.take i ++ [l[i]] := by
 rw [List.take_add_one, List.getElem?_eq_getElem h]; rfl
theorem zg0 (m : List Int) : (m.map I).all (flatD 8) = true := by
 rw [List.all_eq_true];intro x hx;obtain ⟨y, _, rfl⟩ := List.mem_map.1 hx;rfl
theorem zo4 (x : Fx) : (fx x).length = 3 := rfl
open Go Go.Den Go.ChangeShapes Go.Deep
noncomputable instance : Inhabited Fx := ⟨⟨0, 0, 0⟩⟩
theorem zdd {H : Type} {enc : TypeId × Value → H} {W : World} {b : Nat} {sp hd} {fuel : Nat} {cs : List Value} {x : DataW H × List MemPlace} (h : DataW.trod enc Tryz.prog W b sp hd fuel 3 cs = some x) : ∃ n, cs = [I n] := by
 have hu : Tryz.prog.underlying 3 = some (.int .i64) := rfl
 cases fuel with
 | zero => simp [DataW.trod] at h
 | succ fuel =>
  unfold DataW.trod at h;rw [hu] at h
  match cs, h with
  | [.int k n], h =>
   simp only at h;split at h
   ·rename_i hk;obtain ⟨rfl, _⟩ := hk;exact ⟨n, rfl⟩
   ·cases h
theorem zlV (b o n : Nat) : (⟨b, o, none⟩ : Addr).add n = ⟨b, o + n, none⟩ := by
 unfold Addr.add;split
 ·rename_i h; subst h; rfl
 ·rfl
theorem flat_at {m : List Fx} {j : Nat} {u : Value} (h : (m.flatMap fx)[j]? = some u) : ∃ x, m[j / 3]? = some x ∧ (fx x)[j % 3]? = some u := by
 have hl : j < m.length * 3 := by
  have := (List.getElem?_eq_some_iff.1 h).1
  rwa [zbR zo4] at this
 have hi : j / 3 < m.length := by omega
 refine ⟨m[j / 3], List.getElem?_eq_getElem hi, ?_⟩;have e : j = j / 3 * 3 + j % 3 := by omega
 rw [e, ← List.getElem?_drop, zdS zo4, List.drop_eq_getElem_cons hi, List.flatMap_cons, List.getElem?_append_left (by rw [zo4]; omega)] at h;have e2 : (j / 3 * 3 + j % 3) % 3 = j % 3 := by omega
 exact h
end Go.Proofs.YtlejimjgagfalaaGreatDoor
namespace Go.Proofs.YtlejimjgagfalaaGreatDoor
open Go Go.Den
set_option maxRecDepth 100000
def cs2 : List Value := [.int .u64 1, .int .u64 10, .int .u64 100, .int .u64 1000, .int .u64 10000, .int .u64 100000, .int .u64 1000000, .int .u64 10000000, .int .u64 100000000, .int .u64 1000000000, .int .u64 10000000000, .int .u64 100000000000, .int .u64 1000000000000, .int .u64 10000000000000, .int .u64 100000000000000, .int .u64 1000000000000000, .int .u64 10000000000000000, .int .u64 100000000000000000, .int .u64 1000000000000000000, .int .u64 10000000000000000000]
def cs4 : List Value := [.int .u8 0, .int .u8 1, .int .u8 28, .int .u8 2, .int .u8 29, .int .u8 14, .int .u8 24, .int .u8 3, .int .u8 30, .int .u8 22, .int .u8 20, .int .u8 15, .int .u8 25, .int .u8 17, .int .u8 4, .int .u8 8, .int .u8 31, .int .u8 27, .int .u8 13, .int .u8 23, .int .u8 21, .int .u8 19, .int .u8 16, .int .u8 7, .int .u8 26, .int .u8 12, .int .u8 18, .int .u8 6, .int .u8 11, .int .u8 5, .int .u8 10, .int .u8 9]
def cs5 : List Value := [.int .u8 0, .int .u8 1, .int .u8 56, .int .u8 2, .int .u8 57, .int .u8 49, .int .u8 28, .int .u8 3, .int .u8 61, .int .u8 58, .int .u8 42, .int .u8 50, .int .u8 38, .int .u8 29, .int .u8 17, .int .u8 4, .int .u8 62, .int .u8 47, .int .u8 59, .int .u8 36, .int .u8 45, .int .u8 43, .int .u8 51, .int .u8 22, .int .u8 53, .int .u8 39, .int .u8 33, .int .u8 30, .int .u8 24, .int .u8 18, .int .u8 12, .int .u8 5, .int .u8 63, .int .u8 55, .int .u8 48, .int .u8 27, .int .u8 60, .int .u8 41, .int .u8 37, .int .u8 16, .int .u8 46, .int .u8 35, .int .u8 44, .int .u8 21, .int .u8 52, .int .u8 32, .int .u8 23, .int .u8 11, .int .u8 54, .int .u8 26, .int .u8 40, .int .u8 15, .int .u8 34, .int .u8 20, .int .u8 31, .int .u8 10, .int .u8 25, .int .u8 14, .int .u8 19, .int .u8 9, .int .u8 13, .int .u8 8, .int .u8 7, .int .u8 6]
def bl0 : BL := [(2, cs2), (4, cs4), (5, cs5)]
noncomputable abbrev B0 : Nat → Option BB := bOf bl0
theorem za6 : blOk bl0 = true := by kernel_rfl
def laidList : List (String × DataW Unit) := [("math/bits.deBruijn32tab", Rows.laid_math_bits_deBruijn32tab), ("math/bits.deBruijn64tab", Rows.laid_math_bits_deBruijn64tab), ("internal/strconv.uint64pow10", Rows.laid_internal_strconv_uint64pow10)]
theorem zkM : ∀ k x, B0 k = some x → x.cs.all flatC = true := fun k x h => (zh5 za6 k x h).2
theorem zoT {W : World} (h : laidMetH Tryz.prog laidList W) : ∀ k x, B0 k = some x → ∃ ct fz, W.heap[k]? = some (.cells ⟨x.cs⟩ ct fz) := by
 rw [MakeChecks.laidMetH_plain _ _ _ (by kernel_rfl)] at h;obtain ⟨ps, hL, _, _⟩ := h;have h2 := zd5 hL (n := "internal/strconv.uint64pow10") (d := Rows.laid_internal_strconv_uint64pow10) (g := 2) (t := 343) (cs := cs2) (by simp [laidList]) (by kernel_rfl) (by kernel_rfl) (by kernel_rfl) (by kernel_rfl);have h4 := zd5 hL (n := "math/bits.deBruijn32tab") (d := Rows.laid_math_bits_deBruijn32tab) (g := 4) (t := 347) (cs := cs4) (by simp [laidList]) (by kernel_rfl) (by kernel_rfl) (by kernel_rfl) (by kernel_rfl);have h5 := zd5 hL (n := "math/bits.deBruijn64tab") (d := Rows.laid_math_bits_deBruijn64tab) (g := 5) (t := 348) (cs := cs5) (by simp [laidList]) (by kernel_rfl) (by kernel_rfl) (by kernel_rfl) (by kernel_rfl)
 have key : ∀ (b : BL), (∀ p ∈ b, ∃ ct fz, W.heap[p.1]? = some (.cells ⟨p.2⟩ ct fz)) → ∀ k x, bOf b k = some x → ∃ ct fz, W.heap[k]? = some (.cells ⟨x.cs⟩ ct fz) := by
  intro b
  induction b with
  | nil => intro _ k x hx; cases hx
  | cons p r ih =>
   obtain ⟨g, cs⟩ := p;intro hb k x hx;simp only [bOf] at hx;split at hx
   ·rename_i e;cases hx;rw [← Nat.eq_of_beq_eq_true e];exact hb (g, cs) (by simp)
   ·exact ih (fun p hp => hb p (by simp [hp])) k x hx
 refine key bl0 fun p hp => ?_
 simp only [bl0, List.mem_cons, List.not_mem_nil, or_false] at hp;rcases hp with rfl | rfl | rfl
 ·exact h2
 ·exact h4
 ·exact h5
theorem ziT : ∀ (b : BL) k x, bOf b k = some x → x = laidBB k x.cs
 | [], k, x, h => by cases h
 | (g, cs) :: r, k, x, h => by
  simp only [bOf] at h;split at h
  ·rename_i e; cases h; rw [Nat.eq_of_beq_eq_true e]; rfl
  ·exact ziT r k x h
theorem bb0_ok {W : World} (h : laidMetH Tryz.prog laidList W) : BBok B0 W := by
 refine ⟨fun k x hx _ => ?_, fun k x hx => ?_⟩
 ·rw [ziT _ k x hx]; exact ⟨rfl, rfl, rfl⟩
 ·obtain ⟨ct, fz, hw⟩ := zoT h k x hx;have hf := zkM k x hx;rw [ziT _ k x hx];exact zoU hw hf
open Go Go.Den Go.ChangeShapes Go.WideShapes Go.ChangeAt Go.RowKit
set_option maxRecDepth 10000
theorem b0_high {k : Nat} {x : BB} (h : B0 k = some x) : k < 1000 := by
 have h2 := (zh5 za6 k x h).1;first | exact h2 | omega | exact h2.1
theorem glo_ext {B : Nat → Option BB} {H : AHeap} (hB : ∀ k x, B0 k = some x → B k = some x) (hE : Ext (heapOf B) H) : Glo B0 H := by
 intro k x hx;have := hE _ _ (zhM (hB k x hx));rw [AHeap.get_odd _ (by omega)] at this;rw [show (2 * k + 1) / 2 = k by omega] at this;exact this
end Go.Proofs.YtlejimjgagfalaaGreatDoor
noncomputable section
namespace Go.Den
section
variable {P : Program} {α : Type} [DecidableEq α] {f : α → Value} {kt : TypeId} {l : EL} {h : AHeap}
theorem zkC {t : TypeId} {x : Operand} {s : ByteArray} (hx : ev l x = some (.string s)) (ht : strOf P t = true) : Does P l (.range t x) h (.pointer (some ⟨h.fresh, 0, none⟩)) (h.add (.siter s 0)) := by
 unfold strOf at ht;split at ht
 ·rename_i ti hti;split at ht
  ·rename_i hk;refine ⟨?_⟩;simp only [opA, zaE, hx, rangeA, zbJ hti, hk]; rfl
  ·cases ht
 ·cases ht
theorem zm5 {it : Operand} {r pos : Nat} {s : ByteArray} (hi : ev l it = some (.pointer (some ⟨r, 0, none⟩))) (hg : h.get r = some (.siter s pos)) (ho : own r = true) (hp : pos < s.size) :
  Does P l (.next it true) h (.tuple #[.bool true, .int .i64 pos, .int .i32 (Utf8.decode s pos).1]) (h.put r (.siter s (pos + (Utf8.decode s pos).2))) := by
 refine ⟨?_⟩;simp only [opA, zaE, hi, nextA, hg, ho];simp [hp]; rfl
theorem zm6 {it : Operand} {r pos : Nat} {s : ByteArray} (hi : ev l it = some (.pointer (some ⟨r, 0, none⟩))) (hg : h.get r = some (.siter s pos)) (ho : own r = true) (hp : ¬ pos < s.size) :
  Does P l (.next it true) h (.tuple #[.bool false]) h := by
 refine ⟨?_⟩;simp only [opA, zaE, hi, nextA, hg, ho];simp [hp]; rfl
def byteI (s : ByteArray) (i : Nat) : Int := ((s.data.toList[i]?.map fun b => ((b.toNat : Nat) : Int))).getD 0
theorem byte_at {s : ByteArray} {i : Nat} (h : i < s.size) : ∃ b : UInt8, s.data.toList[i]? = some b ∧ s[i]'h = b ∧ byteI s i = ((b.toNat : Nat) : Int) := by
 have hl : i < s.data.toList.length := by simpa using h
 refine ⟨s.data.toList[i], List.getElem?_eq_getElem hl, by simp; rfl, ?_⟩;unfold byteI;rw [List.getElem?_eq_getElem hl]; rfl
theorem zba {a b : ByteArray} : byteL a.data.toList b.data.toList = decide (a = b) := by
 rw [ziR, Bool.eq_iff_iff, beq_iff_eq, decide_eq_true_iff];constructor
 ·intro e;cases a; cases b;simp only [ByteArray.mk.injEq];exact Array.toList_inj.1 e
 ·intro e; rw [e]
end
section
variable {P : Program} {rd : Option Nat} {nt : Nat} {ops : Array Oper} {l : EL} {ds : List Nat} {K : St → Prop} {i : Nat} {r : List Oper} {ty : TypeId} {pos : String} {af : Array Edge} {H : AHeap} {lo : Nat}
theorem zpZ [PC P] {o : Oper} {L : List (Option ABlk)} {d k : Nat} {op : Op} {v : Value} {x : ABlk} (hc : Closed H) (hlt : k < L.length) (hop : Does P l op (ext H lo L) v ((ext H lo L).put (nb H k) x)) (hd : Nat.blt d nt = true)
  (hk : SeqL P rd nt ops (o :: r) (i + 1) ⟨ofA ((d, v) :: l), ds, ext H lo (L.set k (some x))⟩ K) : SeqL P rd nt ops (⟨some d, op, ty, pos, af, none⟩ :: o :: r) i ⟨ofA l, ds, ext H lo L⟩ K :=
 zad hop hd (zcy zde (zem hc hlt x) (by simp) hk)
end
end Go.Den
namespace Go.Proofs.YtlejimjgagfalaaGreatDoor
open Go Go.Den
set_option maxRecDepth 100000
end Go.Proofs.YtlejimjgagfalaaGreatDoor
