import Derived.Test.YtlejimjgagfalaaGreatDoorStC
import Derived.Test.YtlejimjgagfalaaGreatDoorStA
import Derived.Lib.ItoaNum
import Derived.Test.YtlejimjgagfalaaGreatDoorSxA
noncomputable section
namespace Go.Den
section
variable {P : Program} {rd : Option Nat} {nt : Nat} {ops : Array Oper} {l : EL} {ds : List Nat} {h : AHeap} {K : St → Prop} {i : Nat} {r : List Oper} {ty : TypeId} {pos : String} {af : Array Edge}
section
variable {α β : Type} {f : α → Value} {g : β → Value}
end
end
section
variable {P : Program} {α β : Type} [DecidableEq α] {f : α → Value} {g : β → Value} {kt : TypeId} {l : EL} {h : AHeap}
end
section
variable {P : Program} {rd : Option Nat} {nt : Nat} {ops : Array Oper} {l : EL} {ds : List Nat} {K : St → Prop} {i : Nat} {r : List Oper} {o : Oper} {ty : TypeId} {pos : String} {af : Array Edge} {H : AHeap} {lo : Nat} {L L' : List (Option ABlk)} {Qn : St → Prop} {Qe : Nat → St → Prop} {Qr : St → Prop}
theorem set_mid {α : Type} {p r : List α} {a b : α} {n : Nat} (h : n = p.length) : (p ++ a :: r).set n b = p ++ b :: r := by
 subst h; simp
end
section
variable {P : Program} {rd : Option Nat} {nt : Nat} {ops : Array Oper} {ds : List Nat} {l : EL} {H : AHeap} {lo : Nat} {L : List (Option ABlk)} {k i : Nat} {tj lc : List Nat} {K : St → Prop} {r : List Oper} {ty : TypeId} {pos : String} {af : Array Edge}
theorem sf_ser0 [PC P] {k' : Nat} {op : Op} {v : Value} {y : ABlk} (hc : Closed H) (hfree : isFree op = false) (hser : seriesS ops i = true) (hlt : k' < L.length) (hop : Does P l op (ext H lo L) v ((ext H lo L).put (nb H k') y))
  (hk : SeqD P rd nt ops r (i + 1) ds l H lo (L.set k' (some y)) [] [] K) : SeqF P rd nt ops (⟨none, op, ty, pos, af, none⟩ :: r) i ds l H lo L k tj lc K :=
 sf_ho fun ho => znV (o := ⟨none, op, ty, pos, af, none⟩) (v := v) hfree hser (fun _ ha => put0 ho rfl hop ha) (zem hc hlt y) (by rw [zal, zal, List.length_set]; exact Nat.le_refl _) hk
end
section
variable {P : Program} {H : AHeap} {lo : Nat} {l : EL}
end
section
variable {P : Program} {nt : Nat} {l : EL} {ds : List Nat} {H : AHeap} {lo : Nat} {L : List (Option ABlk)} {Qn : St → Prop} {Qe : Nat → St → Prop} {Qr : St → Prop}
end
section
variable {P : Program} {rd : Option Nat} {nt : Nat} {l : EL} {ds : List Nat} {h : AHeap} {Qe : Nat → St → Prop} {Qr : St → Prop}
end
theorem zkt {P : Program} {H : AHeap} {Q : Value → AHeap → Prop} {rs : Array ResultVar} {l : EL} {L : List (Option ABlk)} {lo : Nat} {vs : List Value} {v : Value} {j k : Nat} {cs cs' : List Value} {z z' : Nat} {s ro s' ro' : Bool} (hc : Closed H) (hr : resE l rs.toList = some vs)
  (hj : L[j]? = some (some (.cells cs z s ro))) (hk : L[k]? = some (some (.cells cs' z' s' ro'))) (hne : j ≠ k) (hf : cs.all (flatD 8) = true) (hf' : cs'.all (flatD 8) = true) (hv : renV (renOf H [nb H j, nb H k]) 8 (packA vs) = some v) (hq : Q v ((H.add (.cells cs z s ro)).add (.cells cs' z' s' ro'))) :
  Fin P rs H Q ⟨ofA l, [], ext H lo L⟩ := by
 refine ⟨⟨_, vs, v, _, rfl, zdD hr, ?_, hq⟩⟩;refine zdz (H0 := H) (ys := [.cells cs z s ro, .cells cs' z' s' ro']) (zeh hc (fun _ _ h => zaj hc h) (l := [nb H j, nb H k]) ?_ ?_ rfl ?_) hv
 ·simp only [List.nodup_cons, List.mem_singleton, List.not_mem_nil, not_false_eq_true, List.nodup_nil, and_true];intro e; exact hne (zfM.1 e)
 ·intro b hb;simp only [List.mem_cons, List.not_mem_nil, or_false] at hb;rcases hb with rfl | rfl
  ·exact ⟨zao.1 (zat _), zbf _⟩
  ·exact ⟨zao.1 (zat _), zbf _⟩
 ·intro i b y hb hy
  match i, hb, hy with
  | 0, hb, hy =>
   simp only [List.getElem?_cons_zero, Option.some.injEq] at hb hy;subst hb; subst hy
   exact ⟨_, zaa hj, zc3 hf⟩
  | 1, hb, hy =>
   simp only [List.getElem?_cons_succ, List.getElem?_cons_zero, Option.some.injEq] at hb hy;subst hb; subst hy
   exact ⟨_, zaa hk, zc3 hf'⟩
  | i + 2, hb, hy => simp at hb
theorem zjd {H : AHeap} {a b : Nat} (ha : a % 2 = 0 ∧ H.fresh ≤ a) (hb : b % 2 = 0 ∧ H.fresh ≤ b) (hne : a ≠ b) : renOf H [a, b] a = some H.fresh ∧ renOf H [a, b] b = some (H.fresh + 2) := by
 unfold renOf;rw [if_neg (by omega), if_neg (by omega)];simp [List.findIdx?, List.findIdx?.go, hne]
section
variable {P : Program} {rd : Option Nat} {nt : Nat} {ops : Array Oper} {l : EL} {ds : List Nat} {i : Nat} {ty : TypeId} {pos : String} {af : Array Edge} {H : AHeap} {lo : Nat} {L L' : List (Option ABlk)}
end
section
variable {P : Program} {nt : Nat} {l : EL} {ds : List Nat} {H : AHeap} {lo : Nat} {L : List (Option ABlk)} {Qn : St → Prop} {Qe : Nat → St → Prop} {Qr : St → Prop}
end
section
variable {P : Program} {l : EL} {h : AHeap}
end
section
variable {α : Type} {f : α → List Value} {w : Nat}
theorem zfd {cs : List Value} (hf : ∀ x, (f x).length = w) : ∀ {l : List α} {o : Nat}, (∀ i (h : i < l.length), sliceIn cs (o + i * w) w = some (f l[i])) → sliceIn cs o (l.length * w) = some (l.flatMap f)
 | [], o, _ => by simp [sliceIn]
 | a :: r, o, hw => by
  have h0 := hw 0 (by simp);simp only [Nat.zero_mul, Nat.add_zero, List.getElem_cons_zero] at h0
  have hr := zfd (cs := cs) hf (l := r) (o := o + w) (fun i hi => by
   have := hw (i + 1) (by simpa using hi);rw [show o + (i + 1) * w = o + w + i * w by rw [Nat.add_mul]; omega] at this;simpa using this)
  simp only [sliceIn] at h0 hr ⊢;split at h0
  ·rename_i e0;split at hr
   ·rename_i e1;simp only [Option.some.injEq] at h0 hr
    have key : (cs.drop o).take ((a :: r).length * w) = f a ++ r.flatMap f := by
     rw [List.length_cons, Nat.add_mul, Nat.one_mul, Nat.add_comm, List.take_add, h0, List.drop_drop, hr]
    rw [key]
    have hl : (f a ++ r.flatMap f).length = (a :: r).length * w := by
     rw [List.length_append, hf, zbR hf, List.length_cons, Nat.add_mul]; omega
    rw [if_pos (by simpa using hl)];simp
   ·cases hr
  ·cases h0
end
section
variable {P : Program} {l : EL} {h : AHeap} {α : Type} {f : α → List Value} {w : Nat}
end
section
variable {P : Program} {rd : Option Nat} {nt : Nat} {ops : Array Oper} {l : EL} {ds : List Nat} {K : St → Prop} {i : Nat} {r : List Oper} {ty : TypeId} {pos : String} {af : Array Edge} {H : AHeap} {lo : Nat} {L0 : List (Option ABlk)} {ow : List Nat} {N : List ABlk}
theorem zis {o : Oper} {d : Nat} {c : Call} {h h' : AHeap} {v : Value} {ad : List Nat} {f : FuncId} {args : List Value} {j t : Nat} {w : Bool} (ho : ops[i]? = some o) (e : o = ⟨some d, .call c, ty, pos, af, some (j, w)⟩) (hg : gdst ops j = some t) (hl : lk l t = some (.bool w)) (ht : tgtE l c = some (f, args)) (hc : Ret P f args h v h') (hd : Nat.blt d nt = true) (ha : ∀ x ∈ ad, x ∉ reads ops o) :
  OpT P rd nt ops i ⟨ofA (fl ad l), ds, h⟩ (fun s => s = ⟨ofA (upd o.dst v (fl ad l)), ds, h'⟩) := by
 subst e;refine zeP ho (s := ⟨ofA (fl ad l), ds, h⟩) (by rw [zj1 rfl hg hl ha]; simp) rfl (zrn rfl ht ha) hc fun u H' hm => ?_
 obtain ⟨rfl, rfl⟩ := hm;exact ⟨_, zfk hd, rfl⟩
theorem zf6 {d : Nat} {c : Call} {v : Value} {f : FuncId} {args : List Value} {j t : Nat} {w : Bool} (hg : gdst ops j = some t) (hl : lk l t = some (.bool w)) (ht : tgtE l c = some (f, args)) (hc : Ret P f args (ext H lo (L0 ++ N.map fun _ => none)) v (ext H lo (L0 ++ N.map fun _ => none))) (hd : Nat.blt d nt = true)
  (hk : SeqD P rd nt ops r (i + 1) ds ((d, v) :: l) H lo L0 ow N K) : SeqD P rd nt ops (⟨some d, .call c, ty, pos, af, some (j, w)⟩ :: r) i ds l H lo L0 ow N K :=
 zdw fun ho => zdB rfl (zb6 _) (fun _ ha => zis ho rfl hg hl ht hc hd ha) hk
end
section
variable {P : Program} {rd : Option Nat} {nt : Nat} {ops : Array Oper} {l : EL} {ds : List Nat} {K : St → Prop} {i : Nat} {r : List Oper} {ty : TypeId} {pos : String} {af : Array Edge} {H : AHeap} {lo : Nat} {L0 : List (Option ABlk)} {ow : List Nat} {N : List (Option ABlk)}
end
structure JX {α : Type} (E : α → EL) (ds : List Nat) (hh : α → AHeap) (J : α → Prop) (s : St) : Prop where
 out : ∃ a, J a ∧ JP (E a) ds (hh a) s
section
variable {P : Program} {rd : Option Nat} {nt : Nat} {ops : Array Oper} {l : EL} {ds : List Nat} {i : Nat} {r : List Oper} {H : AHeap} {lo : Nat} {L0 : List (Option ABlk)} {ow : List Nat} {N : List ABlk}
 {Qn : St → Prop} {Qe : Nat → St → Prop} {Qr : St → Prop} {α : Type} {E : α → EL} {hh : α → AHeap} {J : α → Prop}
theorem ziz (a : α) {h : AHeap} (hJ : J a) (hs : Sub (E a) l) (e : h = hh a) : JX E ds hh J ⟨ofA l, ds, h⟩ := ⟨a, hJ, by subst e; exact zaP hs⟩
theorem jx_ct {b : Code} (h2 : ∀ a, J a → CT P rd nt b ⟨ofA (E a), ds, hh a⟩ Qn Qe Qr) (s' : St) (hj : JX E ds hh J s') : CT P rd nt b s' Qn Qe Qr := by
 obtain ⟨a, hJ, h⟩ := hj.out;exact zqD (h2 a hJ) s' h
theorem zrs {b : Code} {s : St} (E : α → EL) (hh : α → AHeap) (J : α → Prop) (h1 : SeqL P rd nt ops r i s (JX E ds hh J)) (h2 : ∀ a, J a → CT P rd nt b ⟨ofA (E a), ds, hh a⟩ Qn Qe Qr) : SeqL P rd nt ops r i s (fun s' => CT P rd nt b s' Qn Qe Qr) :=
 ⟨zfe (jx_ct h2) h1.out⟩
theorem ct_JX {a b : Code} {s : St} (E : α → EL) (hh : α → AHeap) (J : α → Prop) (h1 : CT P rd nt a s (JX E ds hh J) Qe Qr) (h2 : ∀ a, J a → CT P rd nt b ⟨ofA (E a), ds, hh a⟩ Qn Qe Qr) : CT P rd nt a s (fun s' => CT P rd nt b s' Qn Qe Qr) Qe Qr :=
 h1.mono (jx_ct h2) (fun _ _ h => h) (fun _ h => h)
end
section
variable {P : Program} {l : EL} {h : AHeap}
end
section
variable {P : Program} {l : EL} {H : AHeap} {lo : Nat} {L : List (Option ABlk)}
theorem ziD {Q : Value → AHeap → Prop} {rs : Array ResultVar} {vs : List Value} (hc : Closed H) (hr : resE l rs.toList = some vs) (hv : renV (renOf H []) 8 (packA vs) = some (packA vs)) (hq : Q (packA vs) H) : Fin P rs H Q ⟨ofA l, [], ext H lo L⟩ :=
 ⟨⟨_, vs, packA vs, H, rfl, zdD hr, zdz (H0 := H) (ys := []) (zeh hc (fun _ _ h => zaj hc h) (l := []) .nil (by simp) rfl (by simp)) hv, hq⟩⟩
theorem zn9 {b : Nat} {lb : List Nat} (h : b % 2 = 1 ∨ b < H.fresh) : renOf H lb b = some b := if_pos h
end
section
end
end Go.Den
noncomputable section
namespace Go.Proofs.YtlejimjgagfalaaGreatDoor
open Go Go.Den
set_option maxRecDepth 10000
abbrev p2 (p : Int × Int) : List Value := [I p.1, I p.2]
set_option maxRecDepth 100000
structure Bz where
 p : Option Addr
 c : Nat
 l : List Int
end Go.Proofs.YtlejimjgagfalaaGreatDoor
noncomputable section
namespace Go.Den.Plan
def ext (D : Nat → List Int) (C : List Int → Int → Bool) : Nat → List Int → Option (List Int)
 | 0, out => some out
 | f + 1, out => (D out.length).findSome? fun d => if C out d = true then none else ext D C f (out ++ [d])
section
variable {D D' : Nat → List Int} {M : Nat → Nat → Bool}
end
end Go.Den.Plan
noncomputable section
namespace Go.Proofs.YtlejimjgagfalaaGreatDoor
open Go Go.Den
set_option maxRecDepth 100000
theorem _root_.Go.Den.HQ.trans {a b c : AHeap} (h : HQ a b) (k : HQ b c) : HQ a c := ⟨fun x => (h.get x).trans (k.get x), h.next.trans k.next, h.low.trans k.low⟩
end Go.Proofs.YtlejimjgagfalaaGreatDoor
noncomputable section
namespace Go.Den
section
variable {α : Type} {f : α → List Value} {w : Nat} {H H' : AHeap} {p : Option Addr} {c : Nat} {l : List α}
end
section
variable {P : Program} {l : EL} {h : AHeap} {α : Type} {f : α → List Value}
theorem zfz {t t' : TypeId} {x y : Operand} {a b : Nat} (hx : ev l x = some (.int .i64 (a : Int))) (hy : ev l y = some (.int .i64 (b : Int))) (hle : b ≤ a) (hlt : a < 9223372036854775808) : Does P l (.binOp .sub t x y t') h (.int .i64 ((a - b : Nat) : Int)) h := by
 have := zjI (P := P) (h := h) (t := t) (t' := t') hx hy (by omega)
 rwa [show (a : Int) - (b : Int) = ((a - b : Nat) : Int) by omega] at this
theorem zgi {t t' : TypeId} {x y : Operand} {a : Nat} (hx : ev l x = some (.int .i64 (a : Int))) (hy : ev l y = some (.int .i64 1)) (hle : 0 < a) (hlt : a < 9223372036854775808) : Does P l (.binOp .sub t x y t') h (.int .i64 ((a - 1 : Nat) : Int)) h := by
 have := zjI (P := P) (h := h) (t := t) (t' := t') hx hy (by omega)
 rwa [show (a : Int) - 1 = ((a - 1 : Nat) : Int) by omega] at this
theorem b3_from {n c i : Nat} (hi : i ≤ n) (hc : n ≤ c) : bounds3 n c (some (.int .i64 (i : Int))) none none = some (i, n, c) := by
 simp only [bounds3, bound, Option.isSome_none];rw [if_pos ⟨by omega, by omega⟩];simp; omega
theorem b3_to {n c j : Nat} (hj : j ≤ n) (hc : n ≤ c) : bounds3 n c none (some (.int .i64 (j : Int))) none = some (0, j, c) := by
 simp only [bounds3, bound, Option.isSome_none, Bool.false_eq_true, if_false];rw [if_pos ⟨by omega, by omega⟩];simp
theorem b3_both {n c i j : Nat} (hij : i ≤ j) (hj : j ≤ n) (hc : n ≤ c) : bounds3 n c (some (.int .i64 (i : Int))) (some (.int .i64 (j : Int))) none = some (i, j, c) := by
 simp only [bounds3, bound, Option.isSome_none, Bool.false_eq_true, if_false];rw [if_pos ⟨by omega, by omega⟩];simp only [Int.toNat_natCast];rw [if_pos ⟨by omega, by omega⟩];simp; omega
end
section
variable {P : Program} {rd : Option Nat} {nt : Nat} {ops : Array Oper} {l : EL} {ds : List Nat} {K : St → Prop} {i : Nat} {r : List Oper} {o : Oper} {ty : TypeId} {pos : String} {af : Array Edge} {H : AHeap} {lo : Nat} {L : List (Option ABlk)} {α : Type} {f : α → List Value}
theorem zi8 [PC P] {lst xs : List α} {m k0 d : Nat} {args : Array Operand} {tys : Array TypeId} {st : TypeId} {tr : List TypeId} {v : Value} {b o' c by' z : Nat} {ag k ro : Bool} {e : TypeId} {zs cs : List Value}
  (hc : Closed H) (hv : Lst H L m f k0 v lst) (h0 : k0 ≤ L.length) (hf : ∀ x, (f x).length = m) (hone : ∀ x, (f x).all oneCell = true)
  (ha : evs l args.toList = some [v, .slice (some ⟨b, o', none⟩) xs.length c]) (hty : tys.toList = st :: st :: tr)
  (hs : selOf P st = some (m, ag)) (he : (tyOf P st).map (·.und) = some (.slice e)) (hz : zerOf P e = some zs) (hby : (tyOf P e).map (·.bytes) = some by')
  (hb : (ext H lo L).get b = some (.cells cs z k ro)) (hn : sliceIn cs o' (xs.length * m) = some (xs.flatMap f)) (hxs : xs ≠ []) (h1 : (2 * (lst.length + xs.length) + 1000) * by' ≤ 2 ^ 48) (h2 : by' ≠ 0) (h3 : m ≠ 0) (hd : Nat.blt d nt = true)
  (hk : ∀ v' L', Lst H L' m f k0 v' (lst ++ xs) → (∀ (j : Nat) y, L[j]? = some (some y) → (lst ≠ [] → y ≠ .cells (lst.flatMap f) m true false) → L'[j]? = some (some y)) → L'.length = L.length + 1 → SeqL P rd nt ops (o :: r) (i + 1) ⟨ofA ((d, v') :: l), ds, ext H lo L'⟩ K) :
  SeqL P rd nt ops (⟨some d, .call ⟨.builtin .append, args, tys⟩, ty, pos, af, none⟩ :: o :: r) i ⟨ofA l, ds, ext H lo L⟩ K := by
 have hx0 : 0 < xs.length := by cases xs with | nil => exact absurd rfl hxs | cons _ _ => simp
 have hall : (xs.flatMap f).all oneCell = true := by
  rw [List.all_eq_true];intro x hx;obtain ⟨y, _, hy⟩ := List.mem_flatMap.1 hx;exact List.all_eq_true.1 (hone y) x hy
 rcases hv.out with ⟨rfl, rfl⟩ | ⟨hne, k1, hk1, rfl, hL⟩
 ·refine zbO (zd9 ha hty hs he hz hby hb hn (by simpa using h1) h2 h3 hx0) hd (hk _ _ ?_ (fun j y hy _ => getApp hy) (by simp));exact ⟨.inr ⟨by simpa using hxs, L.length, h0, by simp, by simp⟩⟩
 ·have hlt : k1 < L.length := (List.getElem?_eq_some_iff.1 hL).1;refine zf4 hc hlt (zc7 ha hty hs he hz hby hb hn (zaa hL) (zbR hf lst) (zat _) hall h1 h2 h3 hx0) hd (hk _ _ ?_ ?_ (by simp))
  ·exact ⟨.inr ⟨by simp [hne], L.length, h0, by simp, by simp⟩⟩
  ·intro j y hy hne2
   have hjk : j ≠ k1 := fun e => by
    subst e;rw [hL] at hy;cases hy;exact hne2 hne rfl
   exact getApp (by rw [List.getElem?_set_ne (fun e => hjk e.symm)]; exact hy)
end
def tx (s : List UInt8) : ByteArray := ⟨s.toArray⟩
theorem tx_size (s : List UInt8) : (tx s).size = s.length := rfl
theorem znK (s : List UInt8) : (tx s).data.toList = s := rfl
theorem tx_inj {s t : List UInt8} (h : tx s = tx t) : s = t := by
 have := congrArg (fun b : ByteArray => b.data.toList) h;exact this
theorem tx_app (s t : List UInt8) : tx s ++ tx t = tx (s ++ t) := by
 have : (tx s ++ tx t).data = (tx (s ++ t)).data := by
  rw [ByteArray.data_append];simp [tx]
 cases h1 : tx s ++ tx t with
 | mk a => cases h2 : tx (s ++ t) with
  | mk b => rw [h1, h2] at this; exact congrArg ByteArray.mk this
theorem tx_sub (s : List UInt8) (i j : Nat) : (tx s).extract i j = tx ((s.take j).drop i) := by
 have : ((tx s).extract i j).data = (tx ((s.take j).drop i)).data := by
  rw [ByteArray.data_extract];simp [tx, List.drop_take]
 cases h1 : (tx s).extract i j with
 | mk a => cases h2 : tx ((s.take j).drop i) with
  | mk b => rw [h1, h2] at this; exact congrArg ByteArray.mk this
section
variable {P : Program} {l : EL} {h : AHeap}
theorem ziK {args : Array Operand} {tys : Array TypeId} {t : TypeId} {r : List TypeId} {s : List UInt8} {vs : List Value} (ha : evs l args.toList = some (.string (tx s) :: vs)) (hty : tys.toList = t :: r) (ht : strOf P t = true) :
  Does P l (.call ⟨.builtin .len, args, tys⟩) h (.int .i64 (s.length : Int)) h := zbA ha hty ht
theorem zdT {t : TypeId} {x i : Operand} {j : Nat} {iv : Value} {s : List UInt8} (hx : ev l x = some (.string (tx s))) (hi : ev l i = some iv) (hs : strOf P t = true) (hj : idx iv s.length = some j) (hl : j < s.length) :
  Does P l (.index t x i) h (.int .u8 (s[j].toNat : Int)) h := zhd hx hi hs hj (List.getElem?_eq_getElem hl)
theorem zhb {t : TypeId} {x : Operand} {lo hi : Option Operand} {p q : Option Value} {s : List UInt8} {i j m : Nat} (hx : ev l x = some (.string (tx s))) (h1 : evO l lo = some p) (h2 : evO l hi = some q) (hs : strOf P t = true) (hb : bounds3 s.length s.length p q none = some (i, j, m)) :
  Does P l (.slice t x lo hi none) h (.string (tx ((s.take j).drop i))) h := by
 refine ziI (r := none) hx h1 h2 rfl ?_;unfold strOf at hs;unfold sliceA;split at hs
 ·rename_i ti hti;split at hs
  ·rename_i hu;simp only [zbJ hti, hu, tx_size, hb, Option.isSome_none, Bool.false_eq_true, if_false, tx_sub]
  ·cases hs
 ·cases hs
theorem zct {t : TypeId} {x lo : Operand} {s : List UInt8} {a : Int} (i : Nat) (hx : ev l x = some (.string (tx s))) (h1 : ev l lo = some (.int .i64 a)) (hs : strOf P t = true) (ha : a = (i : Int)) (hi : i ≤ s.length) :
  Does P l (.slice t x (some lo) none none) h (.string (tx (s.drop i))) h := by
 subst ha;have := zhb (P := P) (h := h) (lo := some lo) (hi := none) hx (by simp only [evO, h1]) rfl hs (b3_from hi (Nat.le_refl _))
 rwa [List.take_length] at this
theorem ziH {t : TypeId} {x hi : Operand} {s : List UInt8} {a : Int} (j : Nat) (hx : ev l x = some (.string (tx s))) (h1 : ev l hi = some (.int .i64 a)) (hs : strOf P t = true) (ha : a = (j : Int)) (hj : j ≤ s.length) :
  Does P l (.slice t x none (some hi) none) h (.string (tx (s.take j))) h := by
 subst ha;exact zhb (P := P) (h := h) (lo := none) (hi := some hi) hx rfl (by simp only [evO, h1]) hs (b3_to hj (Nat.le_refl _))
theorem zeY {t t' : TypeId} {x y : Operand} {a b : List UInt8} (hx : ev l x = some (.string (tx a))) (hy : ev l y = some (.string (tx b))) (hn : a.length + b.length ≤ 1000000000000) : Does P l (.binOp .add t x y t') h (.string (tx (a ++ b))) h := by
 refine zbV hx hy ?_;unfold strBin;rw [← tx_app];exact if_pos (show (tx a).size + (tx b).size ≤ 1000000000000 from hn)
theorem zlD {t t' : TypeId} {x y : Operand} {a b : List UInt8} (hx : ev l x = some (.string (tx a))) (hy : ev l y = some (.string (tx b))) : Does P l (.binOp .eql t x y t') h (.bool (decide (a = b))) h := by
 refine zbV hx hy ?_;simp only [strBin, znK]
 congr 2
 have h2 := zba (a := tx a) (b := tx b);simp only [znK] at h2;rw [h2, Bool.eq_iff_iff, decide_eq_true_iff, decide_eq_true_iff];exact ⟨tx_inj, fun e => by rw [e]⟩
end
theorem zcr {P : Program} [PC P] {h : AHeap} {b t n z off : Nat} {ag s ro : Bool} {cs : List Value} {v : Value} (hb : h.get b = some (.cells cs z s ro)) (ht : szOf P t = some (n, ag)) (hp : pt ag n cs off = some v) : loadA (ctxOf P) h t (.pointer (some ⟨b, off, none⟩)) = some v := by
 obtain ⟨i, h1, h2, h3⟩ := zbr ht;simp only [loadA, hb, h1];have := ziq h2 h3 cs off;unfold partA at this;rw [this, hp]
section
variable {P : Program} [PC P] {l : EL} {H : AHeap} {lo : Nat} {L : List (Option ABlk)} {rs : Array ResultVar} {Q : Value → AHeap → Prop}
theorem zbG {a t b off n z : Nat} {ag s ro : Bool} {cs : List Value} {v : Value} (hr : rs.toList = [.cell a t]) (ha : lk l a = some (.pointer (some ⟨b, off, none⟩))) (hb : (ext H lo L).get b = some (.cells cs z s ro)) (ht : szOf P t = some (n, ag)) (hp : pt ag n cs off = some v) :
  resultsA (ctxOf P) (ofA l) (ext H lo L) rs.toList = some [v] := by
 simp only [hr, resultsA, evalA, zaG, ha, zcr hb ht hp]
theorem zjb {a t b n z a' t' b' n' z' : Nat} {ag s ro ag' s' ro' : Bool} {cs cs' : List Value} {v v' : Value} (hr : rs.toList = [.cell a t, .cell a' t']) (ha : lk l a = some (.pointer (some ⟨b, 0, none⟩))) (hb : (ext H lo L).get b = some (.cells cs z s ro)) (ht : szOf P t = some (n, ag)) (hp : pt ag n cs 0 = some v)
  (ha' : lk l a' = some (.pointer (some ⟨b', 0, none⟩))) (hb' : (ext H lo L).get b' = some (.cells cs' z' s' ro')) (ht' : szOf P t' = some (n', ag')) (hp' : pt ag' n' cs' 0 = some v') :
  resultsA (ctxOf P) (ofA l) (ext H lo L) rs.toList = some [v, v'] := by
 simp only [hr, resultsA, evalA, zaG, ha, ha', zcr hb ht hp, zcr hb' ht' hp']
omit [PC P] in
theorem zdN {vs : List Value} (hc : Closed H) (hr : resultsA (ctxOf P) (ofA l) (ext H lo L) rs.toList = some vs) (hv : renV (renOf H []) 8 (packA vs) = some (packA vs)) (hq : Q (packA vs) H) : Fin P rs H Q ⟨ofA l, [], ext H lo L⟩ :=
 ⟨⟨_, vs, packA vs, H, rfl, hr, zdz (H0 := H) (ys := []) (zeh hc (fun _ _ h => zaj hc h) (l := []) .nil (by simp) rfl (by simp)) hv, hq⟩⟩
omit [PC P] in
theorem zdn {vs : List Value} {v : Value} {k : Nat} {cs : List Value} {z : Nat} {s ro : Bool} (hc : Closed H) (hr : resultsA (ctxOf P) (ofA l) (ext H lo L) rs.toList = some vs)
  (hk : L[k]? = some (some (.cells cs z s ro))) (hf : cs.all (flatD 8) = true) (hv : renV (renOf H [nb H k]) 8 (packA vs) = some v) (hq : Q v (H.add (.cells cs z s ro))) : Fin P rs H Q ⟨ofA l, [], ext H lo L⟩ :=
 ⟨⟨_, vs, v, _, rfl, hr, zf2 hc (fun _ _ h => zaj hc h) ⟨zao.1 (zat k), zbf k⟩ (zaa hk) hf hv, hq⟩⟩
omit [PC P] in
theorem zlx {vs : List Value} {v : Value} {j k : Nat} {cs cs' : List Value} {z z' : Nat} {s ro s' ro' : Bool} (hc : Closed H) (hr : resultsA (ctxOf P) (ofA l) (ext H lo L) rs.toList = some vs)
  (hj : L[j]? = some (some (.cells cs z s ro))) (hk : L[k]? = some (some (.cells cs' z' s' ro'))) (hne : j ≠ k) (hf : cs.all (flatD 8) = true) (hf' : cs'.all (flatD 8) = true) (hv : renV (renOf H [nb H j, nb H k]) 8 (packA vs) = some v) (hq : Q v ((H.add (.cells cs z s ro)).add (.cells cs' z' s' ro'))) :
  Fin P rs H Q ⟨ofA l, [], ext H lo L⟩ := by
 refine ⟨⟨_, vs, v, _, rfl, hr, ?_, hq⟩⟩;refine zdz (H0 := H) (ys := [.cells cs z s ro, .cells cs' z' s' ro']) (zeh hc (fun _ _ h => zaj hc h) (l := [nb H j, nb H k]) ?_ ?_ rfl ?_) hv
 ·simp only [List.nodup_cons, List.mem_singleton, List.not_mem_nil, not_false_eq_true, List.nodup_nil, and_true];intro e; exact hne (zfM.1 e)
 ·intro b hb;simp only [List.mem_cons, List.not_mem_nil, or_false] at hb;rcases hb with rfl | rfl
  ·exact ⟨zao.1 (zat j), zbf j⟩
  ·exact ⟨zao.1 (zat k), zbf k⟩
 ·intro i c y hi hy
  match i with
  | 0 =>
   simp only [List.getElem?_cons_zero, Option.some.injEq] at hi hy;subst hi; subst hy
   exact ⟨_, zaa hj, zc3 hf⟩
  | 1 =>
   simp only [List.getElem?_cons_succ, List.getElem?_cons_zero, Option.some.injEq] at hi hy;subst hi; subst hy
   exact ⟨_, zaa hk, zc3 hf'⟩
  | n + 2 => simp at hi
theorem zfh {H : AHeap} {j k : Nat} (hne : j ≠ k) : renOf H [nb H j, nb H k] (nb H j) = some H.fresh ∧ renOf H [nb H j, nb H k] (nb H k) = some (H.fresh + 2) :=
 zjd ⟨zao.1 (zat j), zbf j⟩ ⟨zao.1 (zat k), zbf k⟩ (fun e => hne (zfM.1 e))
theorem zdE {k : Nat} : renOf H [nb H k] (nb H k) = some H.fresh := zbw ⟨zao.1 (zat k), zbf k⟩
theorem zaY {T : List Int} : (T.map fun x => (Value.int .i64 x)).all (flatD 8) = true := by
 rw [List.all_eq_true];intro x hx;obtain ⟨y, _, rfl⟩ := List.mem_map.1 hx;rfl
end
end Go.Den
noncomputable section
namespace Go.Proofs.YtlejimjgagfalaaGreatDoor
open Go.Lib
theorem zpV {α : Type} {p : List α → Prop} (h0 : p []) (h1 : ∀ s b, p s → p (s ++ [b])) (s : List α) : p s := by
 have key : ∀ t : List α, p t.reverse := by
  intro t
  induction t with
  | nil => exact h0
  | cons a r ih => rw [List.reverse_cons]; exact h1 _ _ ih
 have := key s.reverse
 rwa [List.reverse_reverse] at this
def valB (s : List UInt8) : Int := s.foldl (fun n b => 10 * n + (b.toNat : Int) - 48) 0
theorem zeu (s : List UInt8) (b : UInt8) : valB (s ++ [b]) = 10 * valB s + (b.toNat : Int) - 48 := by
 simp [valB, List.foldl_append]
def isDig (b : UInt8) : Bool := decide (48 ≤ b.toNat) && decide (b.toNat ≤ 57)
theorem zce {b : UInt8} : isDig b = true ↔ 48 ≤ b.toNat ∧ b.toNat ≤ 57 := by simp [isDig]
theorem valB_bd : ∀ (s : List UInt8), s.all isDig = true → 0 ≤ valB s ∧ valB s < (10 : Int) ^ s.length := by
 intro s
 induction s using zpV with
 | h0 => intro _; exact ⟨by simp [valB], by simp [valB]⟩
 | h1 s b ih =>
  intro h;rw [List.all_append, Bool.and_eq_true] at h;have hb := zce.1 (List.all_eq_true.1 h.2 b (by simp));obtain ⟨h1, h2⟩ := ih h.1;rw [zeu, List.length_append, List.length_singleton, Int.pow_succ];omega
theorem zhX (k : Nat) (h : k < 10) : (UInt8.ofNat (48 + k)).toNat = 48 + k := by
 rw [UInt8.toNat_ofNat']; omega
theorem zbX (u : Nat) : valB (decDigits u) = (u : Int) := by
 induction u using Nat.strongRecOn with
 | _ u ih =>
  rw [decDigits];split
  ·rename_i h;have := zhX u h;simp only [valB, List.foldl_cons, List.foldl_nil, this]; omega
  ·rename_i h;rw [zeu, ih (u / 10) (by omega), zhX (u % 10) (by omega)];omega
theorem za9 (u : Nat) : (decDigits u).all isDig = true := by
 induction u using Nat.strongRecOn with
 | _ u ih =>
  rw [decDigits];split
  ·rename_i h;have := zhX u h;simp only [List.all_cons, List.all_nil, Bool.and_true];rw [zce]; omega
  ·rename_i h;rw [List.all_append, ih (u / 10) (by omega)];have := zhX (u % 10) (by omega);simp only [List.all_cons, List.all_nil, Bool.and_true, Bool.true_and];rw [zce]; omega
theorem za8 (u k : Nat) (h : u < 10 ^ k) (hk : 1 ≤ k) : (decDigits u).length ≤ k := by
 rw [decDigits_length]
 induction k generalizing u with
 | zero => omega
 | succ k ih =>
  by_cases h1 : u < 10
  ·rw [nDigits_small h1]; omega
  ·rw [nDigits_big h1];rw [Nat.pow_succ] at h;by_cases hk0 : k = 0
   ·subst hk0; simp at h; omega
   ·have := ih (u / 10) (by omega) (by omega);omega
theorem zbY (u : Nat) : 1 ≤ (decDigits u).length := by rw [decDigits_length]; exact nDigits_pos u
theorem zee {u : Nat} (h : 10 ^ 9 ≤ u) : 9 < (decDigits u).length := by
 have h1 := lt_pow_nDigits u;rw [decDigits_length];rcases Nat.lt_or_ge 9 (nDigits u) with h2 | h2
 ·exact h2
 ·have := Nat.pow_le_pow_right (n := 10) (by omega) h2;omega
def slashI : List UInt8 → Nat
 | [] => 0
 | b :: r => if b.toNat = 47 then 0 else slashI r + 1
theorem zfb : ∀ {s : List UInt8}, s.all isDig = true → slashI s = s.length
 | [], _ => rfl
 | b :: r, h => by
  simp only [List.all_cons, Bool.and_eq_true] at h;have := zce.1 h.1;simp only [slashI];rw [if_neg (by omega), zfb h.2]; simp
theorem zfc : ∀ {s : List UInt8} {t : List UInt8}, s.all isDig = true → slashI (s ++ 47 :: t) = s.length
 | [], t, _ => by simp [slashI]
 | b :: r, t, h => by
  simp only [List.all_cons, Bool.and_eq_true] at h;have := zce.1 h.1;simp only [slashI, List.cons_append];rw [if_neg (by omega), zfc h.2]; simp
def ratA (u d : Nat) : List UInt8 := if d = 1 then decDigits u else decDigits u ++ 47 :: decDigits d
def ratS (n : Int) (d : Nat) : List UInt8 := if n < 0 then 45 :: ratA n.natAbs d else ratA n.natAbs d
theorem zqe (n : Int) : ratS n 1 = itoa n := by
 unfold ratS ratA itoa;split
 ·rfl
 ·rw [show n.toNat = n.natAbs by omega]; rfl
theorem zoe (n : Int) {d : Nat} (h : d ≠ 1) : ratS n d = itoa n ++ 47 :: itoa (d : Int) := by
 unfold ratS ratA itoa;rw [if_neg (show ¬ ((d : Int) < 0) by omega)];simp only [if_neg h, Int.toNat_natCast];split
 ·rfl
 ·rw [show n.toNat = n.natAbs by omega]
end Go.Proofs.YtlejimjgagfalaaGreatDoor
noncomputable section
namespace Go.Den
structure Cg (H H1 : AHeap) (b : Nat) (x : ABlk) : Prop where
 puts : Puts H H1
 at_ : H1.get b = some x
 off : ∀ c, c ≠ b → H1.get c = H.get c
theorem Cg.refl {H : AHeap} {b : Nat} {x : ABlk} (hc : Closed H) (h : H.get b = some x) : Cg H H b x := ⟨Puts.refl hc, h, fun _ _ => rfl⟩
theorem Cg.put {H H1 : AHeap} {b : Nat} {x : ABlk} {cs : List Value} {z : Nat} {s ro : Bool} (h : Cg H H1 b x) (hb : own b = true) (hlt : b < H.fresh) (hf : cs.all (flatD 8) = true) : Cg H (H1.put b (.cells cs z s ro)) b (.cells cs z s ro) :=
 ⟨h.puts.put hb hlt hf, zf9 hb, fun c hc => by rw [zcA hb, if_neg hc]; exact h.off c hc⟩
section
variable {P : Program} {H H1 : AHeap} {b : Nat}
theorem tidy_cg {x : ABlk} {v : Value} {L : List (Option ABlk)} {lo : Nat} (hb : own b = true) (hlt : b < H.fresh) (hx : ∃ cs z s ro, x = .cells cs z s ro ∧ cs.all (flatD 8) = true) (hp : Cg H H1 b x) (hv : flatD 8 v = true) : Tidy H v (ext H1 lo L) v (H.put b x) := by
 have hc1 := hp.puts.closed;refine zdz (H0 := H.put b x) (ys := []) (l := []) (ren := renOf H []) ?_ (zeE 8 hv);refine ⟨fun b h => by simp only [renOf, if_pos h], fun b c h1 h2 => ?_, fun k b h => by simp at h, rfl, fun k b y h => by simp at h, rfl, fun c hc => ?_, fun c h1 h2 => ?_, fun c y h1 h2 h3 => ?_, Nat.min_le_left _ _, fun c h1 h2 => ?_⟩
 ·simp only [renOf, if_neg h1] at h2;simp at h2
 ·rw [zcA hb, if_neg (by intro e; subst e; rw [zao] at hb; omega)]
 ·have hne : c ≠ b := by omega
  rw [zcA hb, if_neg hne, ← hp.off c hne];exact hp.puts.ge c h1 h2
 ·rw [zcA hb] at h3;by_cases e : c = b
  ·rw [if_pos e] at h3;cases h3;obtain ⟨cs, z, s, ro, rfl, hf⟩ := hx;subst e;exact .inr ⟨_, zaj hc1 hp.at_, zc3 hf⟩
  ·rw [if_neg e] at h3;exact .inl ⟨h3, zaj hc1 (by rw [hp.off c e]; exact h3)⟩
 ·have h2' : c < min H.low b := h2;rw [zcA hb, if_neg (by omega)]
theorem zrC {x : ABlk} {Q : Value → AHeap → Prop} {rs : Array ResultVar} {l : EL} {L : List (Option ABlk)} {lo : Nat} {vs : List Value} (hb : own b = true) (hlt : b < H.fresh) (hx : ∃ cs z s ro, x = .cells cs z s ro ∧ cs.all (flatD 8) = true) (hp : Cg H H1 b x)
  (hr : resE l rs.toList = some vs) (hv : flatD 8 (packA vs) = true) (hq : Q (packA vs) (H.put b x)) : Fin P rs H Q ⟨ofA l, [], ext H1 lo L⟩ :=
 ⟨⟨_, vs, packA vs, H.put b x, rfl, zdD hr, tidy_cg hb hlt hx hp hv, hq⟩⟩
end
section
variable {P : Program} {rd : Option Nat} {nt : Nat} {ops : Array Oper} {l : EL} {ds : List Nat} {K : St → Prop} {i : Nat} {r : List Oper} {o : Oper} {ty : TypeId} {pos : String} {af : Array Edge} {H : AHeap} {lo : Nat} {L : List (Option ABlk)}
 {Qn : St → Prop} {Qe : Nat → St → Prop} {Qr : St → Prop} {d : Nat} {c : Call} {f : FuncId} {args : List Value} {v : Value} {x : ABlk} {bk : Code}
theorem zj8 {b : Nat} (hc : Closed H) (hb : own b = true) (hlt : b < H.fresh) (ht : tgtE l c = some (f, args)) (hcall : Ret P f args (ext H lo L) v ((ext H lo L).put b x)) (hd : Nat.blt d nt = true)
  (hk : CT P rd nt bk ⟨ofA ((d, v) :: l), ds, ext (H.put b x) (min lo b) L⟩ Qn Qe Qr) : SeqL P rd nt ops [⟨some d, .call c, ty, pos, af, none⟩] i ⟨ofA l, ds, ext H lo L⟩ (fun s' => CT P rd nt bk s' Qn Qe Qr) :=
 zac ht hcall hd (zaf (zcH zde (zg2 hb hlt hc x) hk))
variable {L0 : List (Option ABlk)} {ow : List Nat} {N : List ABlk}
theorem zdg [PC P] {op : Op} {k : Nat} (hfree : isFree op = false) (hser : seriesS ops i = true) (hc : Closed H) (hlt : k < L0.length) (hop : Does P l op (ext H lo L0) v ((ext H lo L0).put (nb H k) x))
  (hk : ∀ L' : List (Option ABlk), L'.length = L0.length → (∀ j, j ≠ k → L'[j]? = L0[j]?) → L'[k]? = some (some x) → SeqD P rd nt ops r (i + 1) ds l H lo L' [] [] K) : SeqD P rd nt ops (⟨none, op, ty, pos, af, none⟩ :: r) i ds l H lo L0 [] [] K := by
 have e1 : L0 ++ ([] : List ABlk).map some = L0 := by simp
 exact zcV hfree hser hc (by rw [e1]; exact hlt) (by rw [e1]; exact hop) (by rw [e1]; exact hk _ List.length_set (fun _ hj => List.getElem?_set_ne (fun e => hj e.symm)) (List.getElem?_set_self hlt))
theorem zkY [PC P] {op : Op} {k : Nat} (hc : Closed H) (hlt : k < L.length) (hop : Does P l op (ext H lo L) v ((ext H lo L).put (nb H k) x))
  (hk : ∀ L' : List (Option ABlk), L'.length = L.length → (∀ j, j ≠ k → L'[j]? = L[j]?) → L'[k]? = some (some x) → SeqL P rd nt ops (o :: r) (i + 1) ⟨ofA l, ds, ext H lo L'⟩ K) : SeqL P rd nt ops (⟨none, op, ty, pos, af, none⟩ :: o :: r) i ⟨ofA l, ds, ext H lo L⟩ K :=
 zj7 hc hlt hop (hk _ List.length_set (fun _ hj => List.getElem?_set_ne (fun e => hj e.symm)) (List.getElem?_set_self hlt))
theorem za7 [PC P] {op : Op} {k : Nat} (hc : Closed H) (hlt : k < L.length) (hop : Does P l op (ext H lo L) v ((ext H lo L).put (nb H k) x))
  (hk : ∀ L' : List (Option ABlk), L'.length = L.length → (∀ j, j ≠ k → L'[j]? = L[j]?) → L'[k]? = some (some x) → CT P rd nt bk ⟨ofA l, ds, ext H lo L'⟩ Qn Qe Qr) : SeqL P rd nt ops [⟨none, op, ty, pos, af, none⟩] i ⟨ofA l, ds, ext H lo L⟩ (fun s' => CT P rd nt bk s' Qn Qe Qr) :=
 zcJ hc hlt hop (hk _ List.length_set (fun _ hj => List.getElem?_set_ne (fun e => hj e.symm)) (List.getElem?_set_self hlt))
theorem zf5 [PC P] {op : Op} {b : Nat} (hfree : isFree op = false) (hser : seriesS ops i = true) (hc : Closed H) (hb : own b = true) (hlt : b < H.fresh)
  (hop : Does P l op (ext H lo L0) v ((ext H lo L0).put b x)) (hk : SeqD P rd nt ops r (i + 1) ds l (H.put b x) (min lo b) L0 [] [] K) :
  SeqD P rd nt ops (⟨none, op, ty, pos, af, none⟩ :: r) i ds l H lo L0 [] [] K := by
 have e1 : L0 ++ ([] : List ABlk).map some = L0 := by simp
 refine zdw fun ho => zd1 (v := v) (h' := (ext H lo L0).put b x) (H' := H.put b x) (lo' := min lo b) (L' := L0) hfree hser (fun ad ha => ?_) (zg2 hb hlt hc x) rfl (zc9 hc hb hlt) ?_ ?_ hk
 ·rw [e1];refine zbE PC.ok ho (s := ⟨ofA (fl ad l), ds, _⟩) rfl (zha hop ha) fun u H' hm => ?_
  rw [List.mem_singleton] at hm;cases hm;exact ⟨_, rfl, rfl⟩
 ·show min (min lo b) H.fresh ≤ min lo H.fresh;omega
 ·rw [e1, zal, zal]; exact Nat.le_refl _
theorem zn1 [PC P] {op : Op} {k : Nat} (hfree : isFree op = false) (hser : seriesS ops i = true) (hc : Closed H) (hlt : k < L0.length) (hop : Does P l op (ext H lo L0) v ((ext H lo L0).put (nb H k) x))
  (hk : SeqD P rd nt ops r (i + 1) ds l H lo (L0.set k (some x)) [] [] K) : SeqD P rd nt ops (⟨none, op, ty, pos, af, none⟩ :: r) i ds l H lo L0 [] [] K := by
 have e1 : L0 ++ ([] : List ABlk).map some = L0 := by simp
 exact zcV hfree hser hc (by rw [e1]; exact hlt) (by rw [e1]; exact hop) (by rw [e1]; exact hk)
end
section
theorem zrI {P : Program} {l : EL} {h : AHeap} {t : TypeId} {x : Operand} {n : Int} (hx : ev l x = some (.int .i64 n)) (hb : -9223372036854775807 ≤ n ∧ n ≤ 9223372036854775807) : Does P l (.unOp .neg t x) h (.int .i64 (-n)) h := by
 refine zeo hx ?_;have e : (0 : Int) - n = -n := by omega
 simp only [unA, wrapI, e];rw [wrap_i64 (by omega)]
end
end Go.Den
noncomputable section
namespace Go.Proofs.YtlejimjgagfalaaGreatDoor
open Go Go.Den
set_option maxRecDepth 100000
theorem zi6 : ∀ {s : List UInt8} {i : Nat} (h : i < s.length), (∀ j (hj : j < s.length), j < i → s[j].toNat ≠ 47) → s[i].toNat = 47 → slashI s = i
 | [], i, h, _, _ => by simp at h
 | b :: r, 0, h, _, e => by simp only [List.getElem_cons_zero] at e; simp [slashI, e]
 | b :: r, i + 1, h, hJ, e => by
  simp only [List.getElem_cons_succ] at e;have h0 := hJ 0 (by simp) (by omega);simp only [List.getElem_cons_zero] at h0;simp only [slashI, if_neg h0]
  rw [zi6 (by simpa using h) (fun j hj hji => by
   have := hJ (j + 1) (by simpa using hj) (by omega);simpa using this) e]
theorem zgu : ∀ {s : List UInt8}, (∀ j (hj : j < s.length), s[j].toNat ≠ 47) → slashI s = s.length
 | [], _ => rfl
 | b :: r, hJ => by
  have h0 := hJ 0 (by simp);simp only [List.getElem_cons_zero] at h0;simp only [slashI, if_neg h0]
  rw [zgu fun j hj => by
   have := hJ (j + 1) (by simpa using hj);simpa using this]
  simp
theorem zj6 {H : AHeap} {s : List UInt8} (hn : s.length < 1000000000000) : Ret Tryz.prog 253 [.string (tx s)] H (I (slashI s)) H := by
 refine zae Tryz.func253 rfl rfl rfl fun hc => ?_
 refine zst ?_;apply zar;refine zcG (fun i => [(0, .string (tx s)), (3, I i)]) (fun i => ∀ j (hj : j < s.length), j < i → s[j].toNat ≠ 47) s.length (fun i hi hJ ih => ?_) 0 (by omega) (by intros; omega) zsb;refine zst ?_;refine zq9 ?_;refine zq0 ?_;apply zaf;refine zai rfl (fun h1 => ?_) (fun h1 => ?_)
 ·simp only [decide_eq_true_eq, Int.ofNat_lt] at h1;refine zst ?_;apply zad; exact zdT rfl rfl rfl (by exact zb7 (by omega)) (by omega); exact rfl;refine zq0 ?_;apply zaf;refine zai rfl (fun h2 => ?_) (fun h2 => ?_)
  ·have h2 : s[i].toNat = 47 := by simp at h2; omega
   refine zst ?_;refine zab hc rfl rfl ⟨?_, rfl⟩;rw [zi6 h1 hJ h2]; rfl
  ·have h2 : s[i].toNat ≠ 47 := by simp at h2; omega
   refine zst ?_;refine zq4 ?_;refine zst ?_;refine zbn ?_ (ih (i + 1) (by omega) (by omega) fun j hj hji => ?_)
   ·(repeat (first | exact zbi | apply za0 rfl))
   ·rcases Nat.lt_or_ge j i with h | h
    ·exact hJ j hj h
    ·have : j = i := by omega
     subst this; exact h2
 ·simp only [decide_eq_false_iff_not, Int.ofNat_lt] at h1;apply zap;apply zaq; exact rfl;refine zst ?_;refine zq9 ?_;refine zst ?_;refine zab hc rfl rfl ⟨?_, rfl⟩;rw [zgu fun j hj => hJ j hj (by omega)]; rfl
theorem znH {s : List UInt8} {i : Nat} (h : i < s.length) : valB (s.take (i + 1)) = 10 * valB (s.take i) + (s[i].toNat : Int) - 48 := by
 rw [List.take_succ_eq_append_getElem h, zeu]
theorem zrj {s : List UInt8} (hd : s.all isDig = true) (i : Nat) : (s.take i).all isDig = true := by
 rw [List.all_eq_true] at hd ⊢;exact fun x hx => hd x (List.mem_of_mem_take hx)
theorem zmv {s : List UInt8} (hn : s.length ≤ 18) (hd : s.all isDig = true) {i : Nat} (hi : i < s.length) : 0 ≤ valB (s.take i) ∧ valB (s.take i) < 100000000000000000 := by
 obtain ⟨h1, h2⟩ := valB_bd _ (zrj hd i);refine ⟨h1, Int.lt_of_lt_of_le h2 ?_⟩;have : (10 : Int) ^ 17 = 100000000000000000 := by decide
 rw [← this];have := Nat.pow_le_pow_right (n := 10) (by omega) (show (s.take i).length ≤ 17 by rw [List.length_take]; omega)
 exact_mod_cast this
theorem zh9 {H : AHeap} {s : List UInt8} (hn : s.length ≤ 18) (hd : s.all isDig = true) : Ret Tryz.prog 258 [.string (tx s)] H (I (valB s)) H := by
 refine zae Tryz.func258 rfl rfl rfl fun hc => ?_
 refine zst ?_;apply zar;refine zcG (fun i => [(0, .string (tx s)), (3, I (valB (s.take i))), (4, I i)]) (fun _ => True) s.length (fun i hi hJ ih => ?_) 0 (by omega) trivial zsb;refine zst ?_;refine zq9 ?_;refine zq0 ?_;apply zaf;refine zai rfl (fun h1 => ?_) (fun h1 => ?_)
 ·simp only [decide_eq_true_eq, Int.ofNat_lt] at h1;have hb := zce.1 (List.all_eq_true.1 hd s[i] (List.getElem_mem h1));obtain ⟨b1, b2⟩ := zmv hn hd h1;have ih := ih (i + 1) (by omega) (by omega) trivial;rw [znH h1] at ih;obtain ⟨v, hv⟩ : ∃ v, v = valB (s.take i) := ⟨_, rfl⟩
  rw [← hv] at ih b1 b2 ⊢;refine zst ?_;refine zq0 ?_;refine zst ?_;apply zad; exact zdT rfl rfl rfl (by exact zb7 (by omega)) (by omega); exact rfl;apply zad; exact zd8 rfl rfl rfl; exact rfl;(iterate 2 (refine zq0 ?_));refine zst ?_;refine zq4 ?_;iterate 2 (refine zs1 ?_)
  have e : wrapI IntKind.i64 (IntKind.i64.wrap (IntKind.i64.wrap (10 * v) + IntKind.i64.wrap (s[i].toNat : Int)) - 48) = I (10 * v + (s[i].toNat : Int) - 48) := by
   rw [wrap_i64 (n := 10 * v) (by omega), wrap_i64 (n := (s[i].toNat : Int)) (by omega), wrap_i64 (by omega), wrapI, wrap_i64 (by omega)]
  rw [e];exact zbn zsb ih
 ·have h1 : i = s.length := by simp at h1; omega
  subst h1;rw [List.take_length];apply zap;apply zaq; exact rfl;refine zst ?_;exact zab hc rfl rfl ⟨rfl, rfl⟩
section
variable {α : Type}
def insR (lt : α → α → Bool) (x : α) : List α → List α
 | [] => [x]
 | y :: r => if (y :: r).all (lt x) then x :: y :: r else y :: insR lt x r
structure Weak (lt : α → α → Bool) : Prop where
 asymm : ∀ a b, lt a b = true → lt b a = false
 trans : ∀ a b c, lt b a = false → lt c b = false → lt c a = false
def Srt (lt : α → α → Bool) (l : List α) : Prop := l.Pairwise fun a b => lt b a = false
def isort (lt : α → α → Bool) (l : List α) : List α := l.foldl (fun s x => insR lt x s) []
theorem zgX {lt : α → α → Bool} {x : α} : ∀ s : List α, (insR lt x s).Perm (x :: s)
 | [] => .refl _
 | y :: r => by
  simp only [insR];split
  ·exact .refl _
  ·exact ((zgX r).cons y).trans (.swap ..)
theorem zlr {lt : α → α → Bool} (w : Weak lt) {x : α} : ∀ {s : List α}, Srt lt s → Srt lt (insR lt x s)
 | [], _ => by simp [insR, Srt]
 | y :: r, h => by
  have h1 := List.pairwise_cons.1 h;simp only [insR];split
  ·rename_i ha;rw [List.all_eq_true] at ha;exact List.pairwise_cons.2 ⟨fun b hb => w.asymm _ _ (ha b hb), h⟩
  ·rename_i ha;refine List.pairwise_cons.2 ⟨fun b hb => ?_, zlr w h1.2⟩;rcases List.mem_cons.1 ((zgX r).subset hb) with rfl | hb
   ·-- some z of y :: r is not greater than b
    have hz : ∃ z ∈ y :: r, lt b z = false := by
     by_cases hh : ∃ z ∈ y :: r, lt b z = false
     ·exact hh
     ·exfalso; apply ha;rw [List.all_eq_true];intro z hz;cases e : lt b z
      ·exact absurd ⟨z, hz, e⟩ hh
      ·rfl
    obtain ⟨z, hz, e⟩ := hz;rcases List.mem_cons.1 hz with rfl | hz
    ·exact e
    ·exact w.trans _ _ _ (h1.1 z hz) e
   ·exact h1.1 b hb
theorem zjw {lt : α → α → Bool} (w : Weak lt) (l : List α) : Srt lt (isort lt l) := by
 suffices h : ∀ (l s : List α), Srt lt s → Srt lt (l.foldl (fun s x => insR lt x s) s) from h l [] .nil
 intro l
 induction l with
 | nil => intro s h; exact h
 | cons a r ih => intro s h; exact ih _ (zlr w h)
theorem zd6 {lt : α → α → Bool} (l : List α) : (isort lt l).Perm l := by
 suffices h : ∀ (l s : List α), (l.foldl (fun s x => insR lt x s) s).Perm (s ++ l) from by simpa [isort] using h l []
 intro l
 induction l with
 | nil => intro s; simp
 | cons a r ih =>
  intro s;refine (ih _).trans ?_;refine ((zgX s).append_right r).trans ?_;exact (List.perm_middle (a := a) (l₁ := s) (l₂ := r)).symm
end
set_option maxRecDepth 100000
structure Ma where
 home : Int
 away : Int
 fr : Int
 ag : Int
 kind : ByteArray
structure Ru where
 win : Int
 draw : Int
 loss : Int
 frames : Int
structure Rw where
 team : Int
 played : Int
 won : Int
 drawn : Int
 lost : Int
 fr : Int
 ag : Int
 pts : Int
 rank : Int
abbrev Fg := Int × Int × Int
def errG {α : Type} (err : List α → α → Int) (l : List α) (i : Nat) : Int := match l[i]? with
 | some x => err (l.take i) x
 | none => 0
def restG {α : Type} (err : List α → α → Int) (l : List α) : Int := firstL ((List.range l.length).map (errG err l))
section
variable {α : Type} {err : List α → α → Int} {l : List α}
theorem zbU {i : Nat} (h : i < l.length) : errG err l i = err (l.take i) l[i] := by simp [errG, h]
theorem zeC {i : Nat} (hi : i < l.length) (h : ∀ j, j < i → errG err l j = 0) (hne : errG err l i ≠ 0) : restG err l = errG err l i := by
 have := zdM (l := (List.range l.length).map (errG err l)) (i := i) (by simpa using hi) (fun j hj hji => by simpa using h j hji) (by simpa using hne);simpa [restG] using this
theorem zcq (h : ∀ j, j < l.length → errG err l j = 0) : restG err l = 0 :=
 zcD fun j hj => by
  have hj' : j < l.length := by simpa using hj
  simpa using h j hj'
end
section
variable {n : Int} {pre : List Ma} {m : Ma}
end
structure Ra where
 frm : Int
 to : Int
 price : Int
theorem za4 {l : List Int} (h : firstL l = 0) : ∀ x ∈ l, x = 0 := by
 induction l with
 | nil => intro x hx; cases hx
 | cons a r ih =>
  intro x hx;by_cases e : a = 0
  ·have h2 : firstL r = 0 := by simpa [firstL, e] using h
   rcases List.mem_cons.1 hx with rfl | hx
   ·exact e
   ·exact ih h2 x hx
  ·have h2 : firstL (a :: r) = a := by simp [firstL, e]
   rw [h2] at h; exact absurd h e
theorem zdy {b : Bool} {e : Int} (h : whenL b e = 0) (he : e ≠ 0) : b = false := by
 cases b
 ·rfl
 ·simp [whenL] at h; exact absurd h he
theorem zmE {α : Type} {err : List α → α → Int} {l : List α} (h : restG err l = 0) {i : Nat} (hi : i < l.length) : err (l.take i) l[i] = 0 := by
 have := za4 h (errG err l i) (List.mem_map.2 ⟨i, List.mem_range.2 hi, rfl⟩)
 rwa [zbU hi] at this
set_option maxRecDepth 10000
structure LowS (q : Option Addr) (c n : Nat) : Prop where
 cap : n ≤ c
 nil : q = none → n = 0 ∧ c = 0
 spot : ∀ a, q = some a → a.spot = none
set_option maxRecDepth 100000
theorem tyI : ∃ ti, (ctxOf Tryz.prog).ty.get 3 = some ti ∧ ti.und = .int .i64 ∧ ti.size = 1 ∧ isAggD ti.und = false := ⟨_, zbJ rfl, rfl, rfl, rfl⟩
theorem zrG {P : Program} {l : EL} {h : AHeap} {x y : Operand} {t t' : TypeId} {a b : Nat} (hx : ev l x = some (.int .i64 (a : Int))) (hy : ev l y = some (.int .i64 (b : Int))) (ha : a < 9223372036854775808) (hr : b ≠ 0) : Does P l (.binOp .quo t x y t') h (.int .i64 ((a / b : Nat) : Int)) h := by
 refine za5 hx hy ?_ trivial;have := Nat.div_le_self a b;simp only [intBin];rw [if_neg (by omega), ← Int.ofNat_tdiv, wrapI, wrap_i64];generalize a / b = z at this
 omega
theorem zpm {P : Program} {l : EL} {h : AHeap} {x y : Operand} {t t' : TypeId} {a b : Nat} (hx : ev l x = some (.int .i64 (a : Int))) (hy : ev l y = some (.int .i64 (b : Int))) (hr : b ≠ 0) : Does P l (.binOp .rem t x y t') h (.int .i64 ((a % b : Nat) : Int)) h := by
 refine za5 hx hy ?_ trivial;simp only [intBin];rw [if_neg (by omega), ← Int.ofNat_tmod]
theorem day_c {H : AHeap} {n : Int} : Ret Tryz.prog 86 [I n] H (I (whenL (outL n 0 99999) 3)) H := by
 refine zae Tryz.func86 rfl rfl rfl fun hc => ?_
 refine zst ?_;apply zac (ht := rfl); exact within89; exact rfl;refine zst ?_;exact zab hc rfl rfl ⟨rfl, rfl⟩
theorem zlP : blOk [] = true := rfl
theorem gloO {H : AHeap} : Glo (bOf []) H := fun k x h => by cases h
end Go.Proofs.YtlejimjgagfalaaGreatDoor
