/- The symbolic layer: sets are asked, strings are gone through. -/
import Derived.Test.YtmcecjplgalcgaaGreatDoorSxK
import Derived.Laws.RangeString
import Derived.Laws.RangeAny
import Derived.Test.YtmcecjplgalcgaaGreatDoorSrL
import Derived.Test.YtmcecjplgalcgaaGreatDoorSxA
noncomputable section
namespace Go.Den
section
variable {P : Program} {α : Type} [DecidableEq α] {f : α → Value} {kt : TypeId} {l : EL} {h : AHeap}
theorem do_rangeStr {t : TypeId} {x : Operand} {s : ByteArray} (hx : ev l x = some (.string s)) (ht : strOf P t = true) : Does P l (.range t x) h (.pointer (some ⟨h.fresh, 0, none⟩)) (h.add (.siter s 0)) := by
 unfold strOf at ht
 split at ht
 ·rename_i ti hti
  split at ht
  ·rename_i hk
   refine ⟨?_⟩
   simp only [opA, evalA_ofA, hx, rangeA, ctx_ty hti, hk]; rfl
  ·cases ht
 ·cases ht
theorem do_nextStr {it : Operand} {r pos : Nat} {s : ByteArray} (hi : ev l it = some (.pointer (some ⟨r, 0, none⟩))) (hg : h.get r = some (.siter s pos)) (ho : own r = true) (hp : pos < s.size) :
  Does P l (.next it true) h (.tuple #[.bool true, .int .i64 pos, .int .i32 (Utf8.decode s pos).1]) (h.put r (.siter s (pos + (Utf8.decode s pos).2))) := by
 refine ⟨?_⟩
 simp only [opA, evalA_ofA, hi, nextA, hg, ho]
 simp [hp]; rfl
theorem do_nextEnd {it : Operand} {r pos : Nat} {s : ByteArray} (hi : ev l it = some (.pointer (some ⟨r, 0, none⟩))) (hg : h.get r = some (.siter s pos)) (ho : own r = true) (hp : ¬ pos < s.size) :
  Does P l (.next it true) h (.tuple #[.bool false]) h := by
 refine ⟨?_⟩
 simp only [opA, evalA_ofA, hi, nextA, hg, ho]
 simp [hp]; rfl
def byteI (s : ByteArray) (i : Nat) : Int := ((s.data.toList[i]?.map fun b => ((b.toNat : Nat) : Int))).getD 0
theorem byte_at {s : ByteArray} {i : Nat} (h : i < s.size) : ∃ b : UInt8, s.data.toList[i]? = some b ∧ s[i]'h = b ∧ byteI s i = ((b.toNat : Nat) : Int) := by
 have hl : i < s.data.toList.length := by simpa using h
 refine ⟨s.data.toList[i], List.getElem?_eq_getElem hl, by simp; rfl, ?_⟩
 unfold byteI
 rw [List.getElem?_eq_getElem hl]; rfl
theorem bytes_eq {a b : ByteArray} : byteL a.data.toList b.data.toList = decide (a = b) := by
 rw [byteL_eq, Bool.eq_iff_iff, beq_iff_eq, decide_eq_true_iff]
 constructor
 ·intro e
  cases a; cases b
  simp only [ByteArray.mk.injEq]
  exact Array.toList_inj.1 e
 ·intro e; rw [e]
end
section
variable {P : Program} {rd : Option Nat} {nt : Nat} {ops : Array Oper} {l : EL} {ds : List Nat} {K : St → Prop} {i : Nat} {r : List Oper} {ty : TypeId} {pos : String} {af : Array Edge} {H : AHeap} {lo : Nat}
theorem seq_putV [PC P] {o : Oper} {L : List (Option ABlk)} {d k : Nat} {op : Op} {v : Value} {x : ABlk} (hc : Closed H) (hlt : k < L.length) (hop : Does P l op (ext H lo L) v ((ext H lo L).put (nb H k) x)) (hd : Nat.blt d nt = true)
  (hk : SeqL P rd nt ops (o :: r) (i + 1) ⟨ofA ((d, v) :: l), ds, ext H lo (L.set k (some x))⟩ K) : SeqL P rd nt ops (⟨some d, op, ty, pos, af, none⟩ :: o :: r) i ⟨ofA l, ds, ext H lo L⟩ K :=
 seq_plain hop hd (seqL_to sub_refl (ext_put hc hlt x) (by simp) hk)
end
end Go.Den
namespace Go.Proofs.YtmcecjplgalcgaaGreatDoor
open Go Go.Den
set_option maxRecDepth 100000
end Go.Proofs.YtmcecjplgalcgaaGreatDoor
/- The symbolic layer: blocks of the caller that are turned; labels and scopes. -/
noncomputable section
namespace Go.Den
structure Puts (H H1 : AHeap) : Prop where
 next : H1.next = H.next
 odd : ∀ b, b % 2 = 1 → H1.get b = H.get b
 ge : ∀ b, b % 2 = 0 → H.fresh ≤ b → H1.get b = none
 chg : ∀ b y, b % 2 = 0 → b < H.fresh → H1.get b = some y → H.get b = some y ∨ ∃ cs z s ro, y = .cells cs z s ro ∧ cs.all (flatD 8) = true
 low : H1.low ≤ H.low
 lows : ∀ b, b < H.fresh → b < H1.low → H1.get b = H.get b
theorem Puts.refl {H : AHeap} (hc : Closed H) : Puts H H := ⟨rfl, fun _ _ => rfl, hc, fun _ _ _ _ h => .inl h, Nat.le_refl _, fun _ _ _ => rfl⟩
theorem Puts.closed {H H1 : AHeap} (h : Puts H H1) : Closed H1 := fun b h1 h2 => h.ge b h1 (by simp only [AHeap.fresh, h.next] at h2 ⊢; exact h2)
theorem Puts.fresh {H H1 : AHeap} (h : Puts H H1) : H1.fresh = H.fresh := by simp only [AHeap.fresh, h.next]
theorem Puts.put {H H1 : AHeap} (h : Puts H H1) {b : Nat} (hb : own b = true) (hlt : b < H.fresh) {cs : List Value} {z : Nat} {s ro : Bool} (hf : cs.all (flatD 8) = true) : Puts H (H1.put b (.cells cs z s ro)) := by
 refine ⟨h.next, fun c hc => ?_, fun c h1 h2 => ?_, fun c y h1 h2 hy => ?_, Nat.le_trans (Nat.min_le_left _ _) h.low, fun c h1 h2 => ?_⟩
 ·rw [AHeap.get_put _ _ _ _ hb, if_neg (by intro e; subst e; rw [own_iff] at hb; omega)]; exact h.odd c hc
 ·rw [AHeap.get_put _ _ _ _ hb, if_neg (by omega)]; exact h.ge c h1 h2
 ·rw [AHeap.get_put _ _ _ _ hb] at hy
  split at hy
  ·cases hy; exact .inr ⟨_, _, _, _, rfl, hf⟩
  ·exact h.chg c y h1 h2 hy
 ·have h2' : c < min H1.low b := h2
  rw [AHeap.get_put _ _ _ _ hb, if_neg (by omega)]
  exact h.lows c h1 (by omega)
theorem put_get {H : AHeap} {b c : Nat} {x : ABlk} (hb : own b = true) : (H.put b x).get c = if c = b then some x else H.get c := AHeap.get_put _ _ _ _ hb
theorem put_same {H : AHeap} {b : Nat} {x : ABlk} (hb : own b = true) : (H.put b x).get b = some x := by rw [put_get hb, if_pos rfl]
theorem closed_put {H : AHeap} (hc : Closed H) {b : Nat} {x : ABlk} (hb : own b = true) (hlt : b < H.fresh) : Closed (H.put b x) := fun c h1 h2 => by
 have h2' : H.fresh ≤ c := h2
 rw [put_get hb, if_neg (by omega)]; exact hc c h1 h2'
section
variable {P : Program} {rd : Option Nat} {nt : Nat} {ops : Array Oper} {l : EL} {ds : List Nat} {K : St → Prop} {i : Nat} {r : List Oper} {o : Oper} {ty : TypeId} {pos : String} {af : Array Edge} {H : AHeap} {lo : Nat} {L : List (Option ABlk)}
 {Qn : St → Prop} {Qe : Nat → St → Prop} {Qr : St → Prop}
end
section
variable {P : Program} {l : EL} {h : AHeap}
end
end Go.Den
/- The symbolic layer: parts of lists, appends of parts, blocks that are replaced in drawn regions. -/
noncomputable section
namespace Go.Den
section
variable {P : Program} {l : EL} {h : AHeap}
end
section
variable {α : Type} {f : α → List Value} {w : Nat}
end
section
variable {P : Program} {l : EL} {h : AHeap} {α : Type} {f : α → List Value} {w : Nat}
end
/-! ### drawn regions -/
section
variable {P : Program} {rd : Option Nat} {nt : Nat} {ops : Array Oper} {l : EL} {ds : List Nat} {K : St → Prop} {i : Nat} {r : List Oper} {ty : TypeId} {pos : String} {af : Array Edge} {H : AHeap} {lo : Nat} {L0 : List (Option ABlk)} {ow : List Nat} {N : List ABlk}
theorem sd_turn [PC P] {op : Op} {v : Value} {k j : Nat} {x0 y : ABlk} (hc : Closed H) (hfree : isFree op = false) (hNk : N[k]? = some x0) (hj : ow[k]? = some j) (hbit : Nat.testBit (befS ops i) j = true) (hrep : replS ops i j = true)
  (hop : Does P l op (ext H lo (L0 ++ (N.map fun _ => none).set k (some x0))) v ((ext H lo (L0 ++ (N.map fun _ => none).set k (some x0))).put (nb H (L0.length + k)) y))
  (hk : SeqD P rd nt ops r (i + 1) ds l H lo L0 (ow.set k i) (N.set k y) K) : SeqD P rd nt ops (⟨none, op, ty, pos, af, none⟩ :: r) i ds l H lo L0 ow N K := by
 have hlt : k < N.length := (List.getElem?_eq_some_iff.1 hNk).1
 have hM : MaskOk (befS ops i) ow (N.map some) ((N.map fun _ => none).set k (some x0)) := by
  refine ⟨by simp, fun k2 x hx => ?_⟩
  by_cases e : k2 = k
  ·subst e
   rw [List.getElem?_set_self (by simpa using hlt)] at hx
   cases hx
   exact ⟨by rw [List.getElem?_map, hNk]; rfl, j, hj, hbit⟩
  ·rw [List.getElem?_set_ne (fun e' => e e'.symm), List.getElem?_map] at hx
   cases hk : N[k2]? with
   | none => rw [hk] at hx; cases hx
   | some y => rw [hk] at hx; cases hx
 have q := ext_put (lo := lo) hc (k := L0.length + k) (L := L0 ++ (N.map fun _ => none).set k (some x0)) (by rw [List.length_append, List.length_set, List.length_map]; omega) y
 have e2 : (L0 ++ (N.map fun _ => none).set k (some x0)).set (L0.length + k) (some y) = L0 ++ ((N.map fun _ => none).set k (some x0)).set k (some y) := by
  rw [List.set_append_right _ _ (by omega), Nat.add_sub_cancel_left]
 rw [e2] at q
 have h := hk.out
 rw [List.map_set] at h
 refine sd_ho fun ho => ⟨se_turn (v := v) (o := ⟨none, op, ty, pos, af, none⟩) (M := (N.map fun _ => none).set k (some x0)) (x0 := x0) hfree hM (List.getElem?_set_self (by simpa using hlt)) hj hrep (fun ad ha => ?_) q h⟩
 refine opT_plain PC.ok ho (s := ⟨ofA (fl ad l), ds, _⟩) rfl (does_fl hop ha) fun u H' hm => ?_
 rw [List.mem_singleton] at hm
 cases hm
 exact ⟨_, rfl, rfl⟩
theorem opT_ofGC {o : Oper} {d : Nat} {c : Call} {h h' : AHeap} {v : Value} {ad : List Nat} {f : FuncId} {args : List Value} {j t : Nat} {w : Bool} (ho : ops[i]? = some o) (e : o = ⟨some d, .call c, ty, pos, af, some (j, w)⟩) (hg : gdst ops j = some t) (hl : lk l t = some (.bool w)) (ht : tgtE l c = some (f, args)) (hc : Ret P f args h v h') (hd : Nat.blt d nt = true) (ha : ∀ x ∈ ad, x ∉ reads ops o) :
  OpT P rd nt ops i ⟨ofA (fl ad l), ds, h⟩ (fun s => s = ⟨ofA (upd o.dst v (fl ad l)), ds, h'⟩) := by
 subst e
 refine opT_call ho (s := ⟨ofA (fl ad l), ds, h⟩) (by rw [want_fl rfl hg hl ha]; simp) rfl (tgt_fl rfl ht ha) hc fun u H' hm => ?_
 obtain ⟨rfl, rfl⟩ := hm
 exact ⟨_, put_upd hd, rfl⟩
theorem sd_gcall {d : Nat} {c : Call} {v : Value} {f : FuncId} {args : List Value} {j t : Nat} {w : Bool} (hg : gdst ops j = some t) (hl : lk l t = some (.bool w)) (ht : tgtE l c = some (f, args)) (hc : Ret P f args (ext H lo (L0 ++ N.map fun _ => none)) v (ext H lo (L0 ++ N.map fun _ => none))) (hd : Nat.blt d nt = true)
  (hk : SeqD P rd nt ops r (i + 1) ds ((d, v) :: l) H lo L0 ow N K) : SeqD P rd nt ops (⟨some d, .call c, ty, pos, af, some (j, w)⟩ :: r) i ds l H lo L0 ow N K :=
 sd_ho fun ho => sd_none rfl (mask_noneA _) (fun _ ha => opT_ofGC ho rfl hg hl ht hc hd ha) hk
end
section
variable {P : Program} {rd : Option Nat} {nt : Nat} {ops : Array Oper} {l : EL} {ds : List Nat} {K : St → Prop} {i : Nat} {r : List Oper} {ty : TypeId} {pos : String} {af : Array Edge} {H : AHeap} {lo : Nat} {L0 : List (Option ABlk)} {ow : List Nat} {N : List (Option ABlk)}
end
/-! ### joins of ways that leave different heaps -/
structure JX {α : Type} (E : α → EL) (ds : List Nat) (hh : α → AHeap) (J : α → Prop) (s : St) : Prop where
 out : ∃ a, J a ∧ JP (E a) ds (hh a) s
section
variable {P : Program} {rd : Option Nat} {nt : Nat} {ops : Array Oper} {l : EL} {ds : List Nat} {i : Nat} {r : List Oper} {H : AHeap} {lo : Nat} {L0 : List (Option ABlk)} {ow : List Nat} {N : List ABlk}
 {Qn : St → Prop} {Qe : Nat → St → Prop} {Qr : St → Prop} {α : Type} {E : α → EL} {hh : α → AHeap} {J : α → Prop}
theorem jx_of (a : α) {h : AHeap} (hJ : J a) (hs : Sub (E a) l) (e : h = hh a) : JX E ds hh J ⟨ofA l, ds, h⟩ := ⟨a, hJ, by subst e; exact jp_of hs⟩
theorem jx_ct {b : Code} (h2 : ∀ a, J a → CT P rd nt b ⟨ofA (E a), ds, hh a⟩ Qn Qe Qr) (s' : St) (hj : JX E ds hh J s') : CT P rd nt b s' Qn Qe Qr := by
 obtain ⟨a, hJ, h⟩ := hj.out
 exact jp_ct (h2 a hJ) s' h
theorem seq_JX {b : Code} {s : St} (E : α → EL) (hh : α → AHeap) (J : α → Prop) (h1 : SeqL P rd nt ops r i s (JX E ds hh J)) (h2 : ∀ a, J a → CT P rd nt b ⟨ofA (E a), ds, hh a⟩ Qn Qe Qr) : SeqL P rd nt ops r i s (fun s' => CT P rd nt b s' Qn Qe Qr) :=
 ⟨seqL0_mono (jx_ct h2) h1.out⟩
theorem ct_JX {a b : Code} {s : St} (E : α → EL) (hh : α → AHeap) (J : α → Prop) (h1 : CT P rd nt a s (JX E ds hh J) Qe Qr) (h2 : ∀ a, J a → CT P rd nt b ⟨ofA (E a), ds, hh a⟩ Qn Qe Qr) : CT P rd nt a s (fun s' => CT P rd nt b s' Qn Qe Qr) Qe Qr :=
 h1.mono (jx_ct h2) (fun _ _ h => h) (fun _ h => h)
end
end Go.Den
/- The symbolic layer: appends of nothing, ends of functions. -/
noncomputable section
namespace Go.Den
section
variable {P : Program} {l : EL} {h : AHeap}
end
section
variable {P : Program} {l : EL} {H : AHeap} {lo : Nat} {L : List (Option ABlk)}
theorem fin_keep {Q : Value → AHeap → Prop} {rs : Array ResultVar} {vs : List Value} (hc : Closed H) (hr : resE l rs.toList = some vs) (hv : renV (renOf H []) 8 (packA vs) = some (packA vs)) (hq : Q (packA vs) H) : Fin P rs H Q ⟨ofA l, [], ext H lo L⟩ :=
 ⟨⟨_, vs, packA vs, H, rfl, resE_A hr, tidy_of (H0 := H) (ys := []) (ren_ext hc (fun _ _ h => ext_get_old hc h) (l := []) .nil (by simp) rfl (by simp)) hv, hq⟩⟩
theorem renOf_old {b : Nat} {lb : List Nat} (h : b % 2 = 1 ∨ b < H.fresh) : renOf H lb b = some b := if_pos h
end
section
end
end Go.Den
/- Contracts: races, pairs, searches in lists of numbers, comparisons. -/
noncomputable section
namespace Go.Proofs.YtmcecjplgalcgaaGreatDoor
open Go Go.Den
set_option maxRecDepth 10000
abbrev p2 (p : Int × Int) : List Value := [I p.1, I p.2]
end Go.Proofs.YtmcecjplgalcgaaGreatDoor
/- Contracts: plans, what is wrong with them. -/
noncomputable section
namespace Go.Proofs.YtmcecjplgalcgaaGreatDoor
open Go Go.Den
set_option maxRecDepth 100000
structure Bz where
 p : Option Addr
 c : Nat
 l : List Int
end Go.Proofs.YtmcecjplgalcgaaGreatDoor
/- Plans: the plain law.  A search for days in lexicographic order; of more dates than there are matches the later ones are never needed. -/
noncomputable section
namespace Go.Den.Plan
def ext (D : Nat → List Int) (C : List Int → Int → Bool) : Nat → List Int → Option (List Int)
 | 0, out => some out
 | f + 1, out => (D out.length).findSome? fun d => if C out d = true then none else ext D C f (out ++ [d])
section
variable {D D' : Nat → List Int} {M : Nat → Nat → Bool}
end
end Go.Den.Plan
/- Contracts: the program's search for days. -/
noncomputable section
namespace Go.Proofs.YtmcecjplgalcgaaGreatDoor
open Go Go.Den
set_option maxRecDepth 100000
theorem _root_.Go.Den.HQ.trans {a b c : AHeap} (h : HQ a b) (k : HQ b c) : HQ a c := ⟨fun x => (h.get x).trans (k.get x), h.next.trans k.next, h.low.trans k.low⟩
end Go.Proofs.YtmcecjplgalcgaaGreatDoor
/- The symbolic layer: slices inside of slices, parts of lists, appends of them. -/
noncomputable section
namespace Go.Den
section
variable {α : Type} {f : α → List Value} {w : Nat} {H H' : AHeap} {p : Option Addr} {c : Nat} {l : List α}
end
section
variable {P : Program} {l : EL} {h : AHeap} {α : Type} {f : α → List Value}
theorem do_subN {t t' : TypeId} {x y : Operand} {a b : Nat} (hx : ev l x = some (.int .i64 (a : Int))) (hy : ev l y = some (.int .i64 (b : Int))) (hle : b ≤ a) (hlt : a < 9223372036854775808) : Does P l (.binOp .sub t x y t') h (.int .i64 ((a - b : Nat) : Int)) h := by
 have := do_sub (P := P) (h := h) (t := t) (t' := t') hx hy (by omega)
 rwa [show (a : Int) - (b : Int) = ((a - b : Nat) : Int) by omega] at this
theorem do_predN {t t' : TypeId} {x y : Operand} {a : Nat} (hx : ev l x = some (.int .i64 (a : Int))) (hy : ev l y = some (.int .i64 1)) (hle : 0 < a) (hlt : a < 9223372036854775808) : Does P l (.binOp .sub t x y t') h (.int .i64 ((a - 1 : Nat) : Int)) h := by
 have := do_sub (P := P) (h := h) (t := t) (t' := t') hx hy (by omega)
 rwa [show (a : Int) - 1 = ((a - 1 : Nat) : Int) by omega] at this
theorem b3_from {n c i : Nat} (hi : i ≤ n) (hc : n ≤ c) : bounds3 n c (some (.int .i64 (i : Int))) none none = some (i, n, c) := by
 simp only [bounds3, bound, Option.isSome_none]
 rw [if_pos ⟨by omega, by omega⟩]
 simp; omega
theorem b3_to {n c j : Nat} (hj : j ≤ n) (hc : n ≤ c) : bounds3 n c none (some (.int .i64 (j : Int))) none = some (0, j, c) := by
 simp only [bounds3, bound, Option.isSome_none, Bool.false_eq_true, if_false]
 rw [if_pos ⟨by omega, by omega⟩]
 simp
end
section
variable {P : Program} {rd : Option Nat} {nt : Nat} {ops : Array Oper} {l : EL} {ds : List Nat} {K : St → Prop} {i : Nat} {r : List Oper} {o : Oper} {ty : TypeId} {pos : String} {af : Array Edge} {H : AHeap} {lo : Nat} {L : List (Option ABlk)} {α : Type} {f : α → List Value}
end
end Go.Den
/- Contracts: the reference's check of matches. -/
noncomputable section
namespace Go.Proofs.YtmcecjplgalcgaaGreatDoor
open Go Go.Den
set_option maxRecDepth 100000
def errG {α : Type} (err : List α → α → Int) (l : List α) (i : Nat) : Int := match l[i]? with
 | some x => err (l.take i) x
 | none => 0
def restG {α : Type} (err : List α → α → Int) (l : List α) : Int := firstL ((List.range l.length).map (errG err l))
section
variable {α : Type} {err : List α → α → Int} {l : List α}
theorem errG_at {i : Nat} (h : i < l.length) : errG err l i = err (l.take i) l[i] := by simp [errG, h]
theorem restG_at {i : Nat} (hi : i < l.length) (h : ∀ j, j < i → errG err l j = 0) (hne : errG err l i ≠ 0) : restG err l = errG err l i := by
 have := firstL_at (l := (List.range l.length).map (errG err l)) (i := i) (by simpa using hi) (fun j hj hji => by simpa using h j hji) (by simpa using hne)
 simpa [restG] using this
theorem restG_none (h : ∀ j, j < l.length → errG err l j = 0) : restG err l = 0 :=
 firstL_none fun j hj => by
  have hj' : j < l.length := by simpa using hj
  simpa using h j hj'
end
section
variable {n : Int} {pre : List Ma} {m : Ma}
end
end Go.Proofs.YtmcecjplgalcgaaGreatDoor
/- Plain law: the hall's rates, prices, shares. -/
noncomputable section
namespace Go.Proofs.YtmcecjplgalcgaaGreatDoor
open Go Go.Den
set_option maxRecDepth 100000
/-! ### rates as they are given -/
structure Ra where
 frm : Int
 to : Int
 price : Int
theorem firstL_allZ {l : List Int} (h : firstL l = 0) : ∀ x ∈ l, x = 0 := by
 induction l with
 | nil => intro x hx; cases hx
 | cons a r ih =>
  intro x hx
  by_cases e : a = 0
  ·have h2 : firstL r = 0 := by simpa [firstL, e] using h
   rcases List.mem_cons.1 hx with rfl | hx
   ·exact e
   ·exact ih h2 x hx
  ·have h2 : firstL (a :: r) = a := by simp [firstL, e]
   rw [h2] at h; exact absurd h e
theorem whenL_z {b : Bool} {e : Int} (h : whenL b e = 0) (he : e ≠ 0) : b = false := by
 cases b
 ·rfl
 ·simp [whenL] at h; exact absurd h he
theorem restG_zero {α : Type} {err : List α → α → Int} {l : List α} (h : restG err l = 0) {i : Nat} (hi : i < l.length) : err (l.take i) l[i] = 0 := by
 have := firstL_allZ h (errG err l i) (List.mem_map.2 ⟨i, List.mem_range.2 hi, rfl⟩)
 rwa [errG_at hi] at this
/-! ### shares of equal weights -/
end Go.Proofs.YtmcecjplgalcgaaGreatDoor
/- LeagueEliminates: the law's own walk. -/
noncomputable section
namespace Go.Proofs.YtmcecjplgalcgaaGreatDoor
open Go Go.Den
set_option maxRecDepth 10000
structure LowS (q : Option Addr) (c n : Nat) : Prop where
 cap : n ≤ c
 nil : q = none → n = 0 ∧ c = 0
 spot : ∀ a, q = some a → a.spot = none
end Go.Proofs.YtmcecjplgalcgaaGreatDoor
/- Contracts: lists of fixtures that are the same, small numbers. -/
noncomputable section
namespace Go.Proofs.YtmcecjplgalcgaaGreatDoor
open Go Go.Den
set_option maxRecDepth 100000
theorem tyI : ∃ ti, (ctxOf Tryz.prog).ty.get 3 = some ti ∧ ti.und = .int .i64 ∧ ti.size = 1 ∧ isAggD ti.und = false := ⟨_, ctx_ty rfl, rfl, rfl, rfl⟩
end Go.Proofs.YtmcecjplgalcgaaGreatDoor
/- Contracts: the hall's prices. -/
noncomputable section
namespace Go.Proofs.YtmcecjplgalcgaaGreatDoor
open Go Go.Den
set_option maxRecDepth 100000
theorem day_c {H : AHeap} {n : Int} : Ret Tryz.prog 83 [I n] H (I (whenL (outL n 0 99999) 3)) H := by
 refine fn_start Tryz.func83 rfl rfl rfl fun hc => ?_
 apply ct_seq
 apply ct_region
 apply seq_plain; exact do_assign rfl; exact rfl
 apply seq_nil
 apply ct_seq
 apply ct_region
 apply seq_plain; exact do_move rfl; exact rfl
 apply seq_call (ht := rfl); exact within89; exact rfl
 apply seq_plain; exact do_assign rfl; exact rfl
 apply seq_nil
 apply ct_ret
 exact fin_flat hc rfl rfl ⟨rfl, rfl⟩
end Go.Proofs.YtmcecjplgalcgaaGreatDoor
