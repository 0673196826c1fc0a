import Derived.Shelf.Strings.Builder1
import Derived.Shelf.Strings.Builder2
import Derived.Shelf.Small.Bits
import Derived.Shelf.Strconv.Itoa0
import Derived.Shelf.Strconv.Itoa1
import Derived.Shelf.LaysM
import Derived.Shelf.Strconv.Itoa2
import Derived.Shelf.Strconv.Itoa3
import Derived.Shelf.Sort.Plain
import Derived.Shelf.Bits.Mul64
import Derived.Ground.Names2Prog
import Derived.Shelf.Slices.CompactI
import Derived.Shelf.Slices.CompactS
import Derived.Shelf.Slices.SearchI
import Derived.Shelf.Slices.In.SortNone
import Derived.Test.YtlejimjgagfalaaGreatDoorProg
import Derived.Test.YtlejimjgagfalaaGreatDoorHaC
import Derived.Test.YtlejimjgagfalaaGreatDoorStA
namespace Go.Proofs
open Go.Shelf
def Tryz.laysM171_ren : Go.Shelf.Ren := ⟨fun | 171 => 215 | 243 => 239 | 246 => 265 | 283 => 268 | 284 => 269 | 285 => 270 | 286 => 271 | 129 => 164 | 317 => 279 | 318 => 280 | 319 => 281 | 320 => 282 | 337 => 285 | 338 => 286 | n => n, fun | 3 => 3 | 9 => 9 | 2 => 2 | 4 => 4 | 171 => 331 | 0 => 0 | 53 => 199 | 37 => 293 | 5 => 5 | 173 => 333 | 212 => 343 | 51 => 246 | 20 => 20 | 213 => 344 | 46 => 204 | 232 => 347 | 233 => 348 | n => n, fun | 17 => 2 | 18 => 4 | 19 => 5 | n => n⟩
theorem Tryz.laysM171 : Go.Proofs.LaysM.n171 Tryz.prog Tryz.laysM171_ren := {
 mixed := by kernel_rfl
 f129 := Tryz.func164.trans (congrArg some (by kernel_rfl))
 f171 := Tryz.func215.trans (congrArg some (by kernel_rfl))
 f243 := Tryz.func239.trans (congrArg some (by kernel_rfl))
 f246 := Tryz.func265.trans (congrArg some (by kernel_rfl))
 f283 := Tryz.func268.trans (congrArg some (by kernel_rfl))
 f284 := Tryz.func269.trans (congrArg some (by kernel_rfl))
 f285 := Tryz.func270.trans (congrArg some (by kernel_rfl))
 f286 := Tryz.func271.trans (congrArg some (by kernel_rfl))
 f317 := Tryz.func279.trans (congrArg some (by kernel_rfl))
 f318 := Tryz.func280.trans (congrArg some (by kernel_rfl))
 f319 := Tryz.func281.trans (congrArg some (by kernel_rfl))
 f320 := Tryz.func282.trans (congrArg some (by kernel_rfl))
 f337 := Tryz.func285.trans (congrArg some (by kernel_rfl))
 f338 := Tryz.func286.trans (congrArg some (by kernel_rfl))
 t0 := Tryz.underlying0
 a0 := Tryz.isAgg0
 z0 := Tryz.sizeOf0
 v0 := Tryz.zeroValue0
 t2 := Tryz.underlying2
 a2 := Tryz.isAgg2
 z2 := Tryz.sizeOf2
 v2 := Tryz.zeroValue2
 t3 := Tryz.underlying3
 a3 := Tryz.isAgg3
 z3 := Tryz.sizeOf3
 v3 := Tryz.zeroValue3
 t4 := Tryz.underlying4
 a4 := Tryz.isAgg4
 z4 := Tryz.sizeOf4
 v4 := Tryz.zeroValue4
 t5 := Tryz.underlying5
 a5 := Tryz.isAgg5
 z5 := Tryz.sizeOf5
 v5 := Tryz.zeroValue5
 t9 := Tryz.underlying9
 a9 := Tryz.isAgg9
 z9 := Tryz.sizeOf9
 v9 := Tryz.zeroValue9
 t20 := Tryz.underlying20
 a20 := Tryz.isAgg20
 z20 := Tryz.sizeOf20
 v20 := Tryz.zeroValue20
 t37 := Tryz.underlying293
 a37 := Tryz.isAgg293
 z37 := Tryz.sizeOf293
 v37 := Tryz.zeroValue293
 t46 := Tryz.underlying204
 a46 := Tryz.isAgg204
 z46 := Tryz.sizeOf204
 v46 := Tryz.zeroValue204
 t51 := Tryz.underlying246
 a51 := Tryz.isAgg246
 z51 := Tryz.sizeOf246
 v51 := Tryz.zeroValue246
 t53 := Tryz.underlying199
 a53 := Tryz.isAgg199
 z53 := Tryz.sizeOf199
 v53 := Tryz.zeroValue199
 t171 := Tryz.underlying331
 a171 := Tryz.isAgg331
 z171 := Tryz.sizeOf331
 v171 := Tryz.zeroValue331
 t173 := Tryz.underlying333
 a173 := Tryz.isAgg333
 z173 := Tryz.sizeOf333
 v173 := Tryz.zeroValue333
 t212 := Tryz.underlying343
 a212 := Tryz.isAgg343
 z212 := Tryz.sizeOf343
 v212 := Tryz.zeroValue343
 t213 := Tryz.underlying344
 a213 := Tryz.isAgg344
 z213 := Tryz.sizeOf344
 t232 := Tryz.underlying347
 a232 := Tryz.isAgg347
 z232 := Tryz.sizeOf347
 v232 := Tryz.zeroValue347
 t233 := Tryz.underlying348
 a233 := Tryz.isAgg348
 z233 := Tryz.sizeOf348
 v233 := Tryz.zeroValue348
 g17 := by kernel_rfl
 g18 := by kernel_rfl
 g19 := by kernel_rfl
 i0 := by kernel_rfl
 i2 := by kernel_rfl
 i3 := by kernel_rfl
 i4 := by kernel_rfl
 i5 := by kernel_rfl
 i9 := by kernel_rfl
 i20 := by kernel_rfl
 i37 := by kernel_rfl
 i46 := by kernel_rfl
 i51 := by kernel_rfl
 i53 := by kernel_rfl
 i171 := by kernel_rfl
 i173 := by kernel_rfl
 i212 := by kernel_rfl
 i232 := by kernel_rfl
 i233 := by kernel_rfl
 m17 := by kernel_rfl
 m18 := by kernel_rfl
 m19 := by kernel_rfl }
open Go.RowKit Go.Sort Go.Lib in
theorem Tryz.strconv_Itoa (n : Int) (h0 : -9223372036854775808 ≤ n) (h1 : n ≤ 9223372036854775807) (w : World) (htab : Lib.TabIs Tryz.prog w "internal/strconv.uint64pow10" .u64 Lib.pow10Tab) :
  Calls Tryz.prog 215 #[.int .i64 n] w fun e w' => e = .returned (.string ⟨(Lib.itoa n).toArray⟩) ∧ ∃ k os, w' = grow (w.drewN k) os := Any.strconv_Itoa Tryz.laysM171 n h0 h1 w htab
def Tryz.lays129_ren : Go.Shelf.Ren := ⟨fun | 129 => 164 | n => n, fun | 53 => 199 | 3 => 3 | 4 => 4 | 46 => 204 | 5 => 5 | 9 => 9 | n => n, fun | n => n⟩
theorem Tryz.lays129 : Go.Proofs.Lays.n129 Tryz.prog Tryz.lays129_ren := {
 mixed := by kernel_rfl
 f129 := Tryz.func164.trans (congrArg some (by kernel_rfl))
 t3 := Tryz.underlying3
 a3 := Tryz.isAgg3
 z3 := Tryz.sizeOf3
 v3 := Tryz.zeroValue3
 t4 := Tryz.underlying4
 a4 := Tryz.isAgg4
 z4 := Tryz.sizeOf4
 v4 := Tryz.zeroValue4
 t5 := Tryz.underlying5
 a5 := Tryz.isAgg5
 z5 := Tryz.sizeOf5
 v5 := Tryz.zeroValue5
 t9 := Tryz.underlying9
 a9 := Tryz.isAgg9
 z9 := Tryz.sizeOf9
 v9 := Tryz.zeroValue9
 t46 := Tryz.underlying204
 a46 := Tryz.isAgg204
 z46 := Tryz.sizeOf204
 v46 := Tryz.zeroValue204
 t53 := Tryz.underlying199
 a53 := Tryz.isAgg199
 z53 := Tryz.sizeOf199
 v53 := Tryz.zeroValue199 }
theorem Tryz.bits_Len64 (x : Int) (w : World) (h0 : 0 ≤ x) (h1 : x ≤ 18446744073709551615) :
  Calls Tryz.prog 164 #[.int .u64 x] w fun e w' => e = .returned (.int .i64 (Lib.bitLen x.toNat)) ∧ w' = w := Any.bits_Len64 Tryz.lays129 x w h0 h1
end Go.Proofs
noncomputable section
namespace Go.Den
section
variable {P : Program} {rd : Option Nat} {nt : Nat} {ops : Array Oper} {l : EL} {ds : List Nat} {K : St → Prop} {i : Nat} {r : List Oper} {o : Oper} {ty : TypeId} {pos : String} {af : Array Edge} {H : AHeap} {lo : Nat} {L : List (Option ABlk)} {L0 : List (Option ABlk)} {ow : List Nat} {N : List ABlk}
theorem zp1 [PC P] {d n c k : Nat} {op : Op} {y : ABlk} (hc : Closed H) (hfree : isFree op = false) (hser : seriesS ops i = true) (hlt : k < (L0 ++ N.map some).length)
  (hop : Does P l op (ext H lo (L0 ++ N.map some)) (.slice (some ⟨(ext H lo (L0 ++ N.map some)).fresh, 0, none⟩) n c) (((ext H lo (L0 ++ N.map some)).kill (nb H k)).add y)) (hd : Nat.blt d nt = true)
  (hk : SeqD P rd nt ops r (i + 1) ds ((d, .slice (some ⟨nb H (L0 ++ N.map some).length, 0, none⟩) n c) :: l) H lo ((L0 ++ N.map some).set k none ++ [some y]) [] [] K) : SeqD P rd nt ops (⟨some d, op, ty, pos, af, none⟩ :: r) i ds l H lo L0 ow N K := by
 rw [zal] at hop;exact zdw fun ho => zd1 (o := ⟨some d, op, ty, pos, af, none⟩) (v := .slice (some ⟨nb H (L0 ++ N.map some).length, 0, none⟩) n c) hfree hser (fun ad ha => zgP ho rfl hop hd ha) (zlz hc hlt y) rfl hc (Nat.le_refl _) (by rw [zal, zal]; simp only [nb, List.length_append, List.length_set]; omega) hk
theorem zif [PC P] {α : Type} {f : α → List Value} {lst xs : List α} {m k0 d : Nat} {args : Array Operand} {tys : Array TypeId} {st : TypeId} {tr : List TypeId} {v : Value} {b o' c by' z : Nat} {ag k ro : Bool} {e : TypeId} {zs cs : List Value}
  (hc : Closed H) (hfree : isFree (.call ⟨.builtin .append, args, tys⟩) = false) (hser : seriesS ops i = true) (hv : Lst H (L0 ++ N.map some) m f k0 v lst) (h0 : k0 ≤ (L0 ++ N.map some).length) (hf : ∀ x, (f x).length = m) (hone : ∀ x, (f x).all oneCell = true)
  (ha : evs l args.toList = some [v, .slice (some ⟨b, o', none⟩) xs.length c]) (hty : tys.toList = st :: st :: tr)
  (hs : selOf P st = some (m, ag)) (he : (tyOf P st).map (·.und) = some (.slice e)) (hz : zerOf P e = some zs) (hby : (tyOf P e).map (·.bytes) = some by')
  (hb : (ext H lo (L0 ++ N.map some)).get b = some (.cells cs z k ro)) (hn : sliceIn cs o' (xs.length * m) = some (xs.flatMap f)) (hxs : xs ≠ []) (h1 : (2 * (lst.length + xs.length) + 1000) * by' ≤ 2 ^ 48) (h2 : by' ≠ 0) (h3 : m ≠ 0) (hd : Nat.blt d nt = true)
  (hk : ∀ v' L', Lst H L' m f k0 v' (lst ++ xs) → (∀ (j : Nat) y, (L0 ++ N.map some)[j]? = some (some y) → (lst ≠ [] → y ≠ .cells (lst.flatMap f) m true false) → L'[j]? = some (some y)) → L'.length = (L0 ++ N.map some).length + 1 → SeqD P rd nt ops r (i + 1) ds ((d, v') :: l) H lo L' [] [] K) :
  SeqD P rd nt ops (⟨some d, .call ⟨.builtin .append, args, tys⟩, ty, pos, af, none⟩ :: r) i ds l H lo L0 ow N K := by
 have hx0 : 0 < xs.length := by cases xs with | nil => exact absurd rfl hxs | cons _ _ => simp
 have hall : (xs.flatMap f).all oneCell = true := by
  rw [List.all_eq_true];intro x hx;obtain ⟨y, _, hy⟩ := List.mem_flatMap.1 hx;exact List.all_eq_true.1 (hone y) x hy
 rcases hv.out with ⟨rfl, rfl⟩ | ⟨hne, k1, hk1, rfl, hL⟩
 ·have hop := zd9 (P := P) (h := ext H lo (L0 ++ N.map some)) ha hty hs he hz hby hb hn (by simpa using h1) h2 h3 hx0;rw [zal, za2] at hop;refine zdw fun ho => zd1 (o := ⟨some d, .call ⟨.builtin .append, args, tys⟩, ty, pos, af, none⟩) hfree hser (fun ad ha' => zgP ho rfl hop hd ha') (.refl _) rfl hc (Nat.le_refl _) ?_ (hk _ _ ?_ (fun j y hy _ => getApp hy) List.length_append)
  ·rw [zal, zal]; simp only [nb, List.length_append]; omega
  ·exact ⟨.inr ⟨by simpa using hxs, _, h0, rfl, List.getElem?_concat_length⟩⟩
 ·have hlt : k1 < (L0 ++ N.map some).length := (List.getElem?_eq_some_iff.1 hL).1;have hop := zc7 (P := P) (h := ext H lo (L0 ++ N.map some)) ha hty hs he hz hby hb hn (zaa hL) (zbR hf lst) (zat _) hall h1 h2 h3 hx0;refine zp1 hc hfree hser hlt hop hd (hk _ _ ?_ ?_ (by simp))
  ·refine ⟨.inr ⟨by simp [hne], (L0 ++ N.map some).length, h0, by have e3 : (lst ++ xs).length = lst.length + xs.length := List.length_append; rw [e3], ?_⟩⟩;rw [List.flatMap_append];have e2 : ((L0 ++ N.map some).set k1 none).length = (L0 ++ N.map some).length := List.length_set;rw [← e2];exact List.getElem?_concat_length
  ·intro j y hy hne2
   have hjk : j ≠ k1 := fun e => by
    subst e;rw [hL] at hy;cases hy;exact hne2 hne rfl
   exact getApp (by rw [List.getElem?_set_ne (fun e => hjk e.symm)]; exact hy)
end
def Keeps (L L' : List (Option ABlk)) : Prop := ∀ (k : Nat) y, L[k]? = some (some y) → L'[k]? = some (some y)
theorem Keeps.app {L : List (Option ABlk)} (M : List (Option ABlk)) : Keeps L (L ++ M) := fun _ _ h => getApp h
structure LstI {α : Type} (H : AHeap) (L : List (Option ABlk)) (m : Nat) (f : α → List Value) (K : Nat) (v : Value) (l : List α) : Prop where
 out : (l = [] ∧ v = .slice none 0 0) ∨ (l ≠ [] ∧ v = .slice (some ⟨nb H K, 0, none⟩) l.length l.length ∧ L[K]? = some (some (.cells (l.flatMap f) m true false)))
section
variable {α : Type} {H : AHeap} {lo K k0 m : Nat} {L L' : List (Option ABlk)} {f : α → List Value} {l : List α} {v : Value}
theorem LstI.nil : LstI H L m f K (.slice none 0 0) ([] : List α) := ⟨.inl ⟨rfl, rfl⟩⟩
theorem LstI.lst (h : LstI H L m f K v l) (hk : k0 ≤ K) : Lst H L m f k0 v l := by
 rcases h.out with ⟨e1, e2⟩ | ⟨h1, h2, h3⟩
 ·exact ⟨.inl ⟨e1, e2⟩⟩
 ·exact ⟨.inr ⟨h1, K, hk, h2, h3⟩⟩
theorem LstI.keep (h : LstI H L m f K v l) (hk : l ≠ [] → L'[K]? = L[K]?) : LstI H L' m f K v l := by
 rcases h.out with ⟨e1, e2⟩ | ⟨h1, h2, h3⟩
 ·exact ⟨.inl ⟨e1, e2⟩⟩
 ·exact ⟨.inr ⟨h1, h2, by rw [hk h1]; exact h3⟩⟩
theorem LstI.keeps (h : LstI H L m f K v l) (hk : Keeps L L') : LstI H L' m f K v l := by
 rcases h.out with ⟨e1, e2⟩ | ⟨h1, h2, h3⟩
 ·exact ⟨.inl ⟨e1, e2⟩⟩
 ·exact ⟨.inr ⟨h1, h2, hk _ _ h3⟩⟩
theorem LstI.lt (h : LstI H L m f K v l) (hne : l ≠ []) : K < L.length := by
 rcases h.out with ⟨e1, _⟩ | ⟨_, _, h3⟩
 ·exact absurd e1 hne
 ·exact (List.getElem?_eq_some_iff.1 h3).1
theorem LstI.at_ (h : LstI H L m f K v l) (hne : l ≠ []) : v = .slice (some ⟨nb H K, 0, none⟩) l.length l.length ∧ L[K]? = some (some (.cells (l.flatMap f) m true false)) := by
 rcases h.out with ⟨e1, _⟩ | ⟨_, h2, h3⟩
 ·exact absurd e1 hne
 ·exact ⟨h2, h3⟩
end
section
variable {P : Program} {rd : Option Nat} {nt : Nat} {ops : Array Oper} {l : EL} {ds : List Nat} {K : St → Prop} {i : Nat} {r : List Oper} {o : Oper} {ty : TypeId} {pos : String} {af : Array Edge} {H : AHeap} {lo : Nat} {L : List (Option ABlk)} {α : Type} {f : α → List Value}
theorem zeA [PC P] {lst xs : List α} {m k0 d : Nat} {args : Array Operand} {tys : Array TypeId} {st : TypeId} {tr : List TypeId} {v : Value} {b o' c by' z : Nat} {ag k ro : Bool} {e : TypeId} {zs cs : List Value}
  (hc : Closed H) (hv : LstI H L m f k0 v lst) (hf : ∀ x, (f x).length = m) (hone : ∀ x, (f x).all oneCell = true)
  (ha : evs l args.toList = some [v, .slice (some ⟨b, o', none⟩) xs.length c]) (hty : tys.toList = st :: st :: tr)
  (hs : selOf P st = some (m, ag)) (he : (tyOf P st).map (·.und) = some (.slice e)) (hz : zerOf P e = some zs) (hby : (tyOf P e).map (·.bytes) = some by')
  (hb : (ext H lo L).get b = some (.cells cs z k ro)) (hn : sliceIn cs o' (xs.length * m) = some (xs.flatMap f)) (hxs : xs ≠ []) (h1 : (2 * (lst.length + xs.length) + 1000) * by' ≤ 2 ^ 48) (h2 : by' ≠ 0) (h3 : m ≠ 0) (hd : Nat.blt d nt = true)
  (hk : ∀ v' L', LstI H L' m f L.length v' (lst ++ xs) → (∀ j, j < L.length → (lst ≠ [] → j ≠ k0) → L'[j]? = L[j]?) → L'.length = L.length + 1 → SeqL P rd nt ops (o :: r) (i + 1) ⟨ofA ((d, v') :: l), ds, ext H lo L'⟩ K) :
  SeqL P rd nt ops (⟨some d, .call ⟨.builtin .append, args, tys⟩, ty, pos, af, none⟩ :: o :: r) i ⟨ofA l, ds, ext H lo L⟩ K := by
 have hx0 : 0 < xs.length := by cases xs with | nil => exact absurd rfl hxs | cons _ _ => simp
 have hall : (xs.flatMap f).all oneCell = true := by
  rw [List.all_eq_true];intro x hx;obtain ⟨y, _, hy⟩ := List.mem_flatMap.1 hx;exact List.all_eq_true.1 (hone y) x hy
 rcases hv.out with ⟨rfl, rfl⟩ | ⟨hne, rfl, hL⟩
 ·refine zbO (zd9 ha hty hs he hz hby hb hn (by simpa using h1) h2 h3 hx0) hd (hk _ _ ?_ (fun j hj _ => List.getElem?_append_left hj) (by simp));exact ⟨.inr ⟨by simpa using hxs, by simp, by simp⟩⟩
 ·have hlt : k0 < L.length := (List.getElem?_eq_some_iff.1 hL).1;refine zf4 hc hlt (zc7 ha hty hs he hz hby hb hn (zaa hL) (zbR hf lst) (zat _) hall h1 h2 h3 hx0) hd (hk _ _ ?_ ?_ (by simp))
  ·refine ⟨.inr ⟨by simp [hne], by simp, ?_⟩⟩;have e2 : (L.set k0 none).length = L.length := List.length_set;rw [← e2, List.flatMap_append];exact List.getElem?_concat_length
  ·intro j hj hjk;rw [List.getElem?_append_left (by rw [List.length_set]; exact hj), List.getElem?_set_ne (fun e => hjk hne e.symm)]
end
theorem ct_JE {P : Program} {rd : Option Nat} {nt : Nat} {ds : List Nat} {a b : Code} {s : St} {Qn : St → Prop} {Qe Qe' : Nat → St → Prop} {Qr Qr' : St → Prop} (E : EL) {h : AHeap} (h1 : CT P rd nt a s (JP E ds h) Qe' Qr') (h2 : CT P rd nt b ⟨ofA E, ds, h⟩ Qn Qe Qr) : CT P rd nt a s (fun s' => CT P rd nt b s' Qn Qe Qr) Qe' Qr' :=
 h1.mono (zqD h2) (fun _ _ h => h) (fun _ h => h)
theorem ct_JXE {P : Program} {rd : Option Nat} {nt : Nat} {ds : List Nat} {a b : Code} {s : St} {α : Type} {Qn : St → Prop} {Qe Qe' : Nat → St → Prop} {Qr Qr' : St → Prop} (E : α → EL) (hh : α → AHeap) (J : α → Prop) (h1 : CT P rd nt a s (JX E ds hh J) Qe' Qr') (h2 : ∀ a, J a → CT P rd nt b ⟨ofA (E a), ds, hh a⟩ Qn Qe Qr) : CT P rd nt a s (fun s' => CT P rd nt b s' Qn Qe Qr) Qe' Qr' :=
 h1.mono (jx_ct h2) (fun _ _ h => h) (fun _ h => h)
section
variable {P : Program} {l : EL} {H : AHeap} {lo : Nat} {L : List (Option ABlk)} {α β : Type} {m m' K K' : Nat} {f : α → List Value} {g : β → List Value} {xs : List α} {ys : List β} {v w : Value}
theorem zhp : (lstH H m f ([] : List α)).fresh = H.fresh := rfl
theorem zgT {x : α} {xs : List α} : (lstH H m f (x :: xs)).fresh = H.fresh + 2 := by simp only [lstH, AHeap.add, AHeap.fresh]; omega
theorem zo6 {Q : Value → AHeap → Prop} {rs : Array ResultVar} (hc : Closed H) (hv : LstI H L m f K v xs) (hw : LstI H L m' g K' w ys) (hne : xs ≠ [] → ys ≠ [] → K ≠ K') (hr : resE l rs.toList = some [v, w]) (hf : ∀ x, (f x).all (flatD 8) = true) (hg : ∀ x, (g x).all (flatD 8) = true)
  (hq : Q (.tuple ⟨[lstV H.fresh xs, lstV (lstH H m f xs).fresh ys]⟩) (lstH (lstH H m f xs) m' g ys)) : Fin P rs H Q ⟨ofA l, [], ext H lo L⟩ := by
 cases xs with
 | nil =>
  rcases hv.out with ⟨_, rfl⟩ | ⟨h, _⟩
  ·cases ys with
   | nil =>
    rcases hw.out with ⟨_, rfl⟩ | ⟨h, _⟩
    ·exact zab hc hr rfl hq
    ·exact absurd rfl h
   | cons y ys =>
    obtain ⟨rfl, hL⟩ := hw.at_ (by simp);refine zci (k := K') hc hr hL (zdm hg _) ?_ hq;simp [packA, renV, renL, lstV, lstP, zbw (H := H) ⟨zao.1 (zat K'), zbf K'⟩, zhp]
  ·exact absurd rfl h
 | cons x xs =>
  obtain ⟨rfl, hL1⟩ := hv.at_ (by simp)
  cases ys with
  | nil =>
   rcases hw.out with ⟨_, rfl⟩ | ⟨h, _⟩
   ·refine zci (k := K) hc hr hL1 (zdm hf _) ?_ hq;simp [packA, renV, renL, lstV, lstP, zbw (H := H) ⟨zao.1 (zat K), zbf K⟩]
   ·exact absurd rfl h
  | cons y ys =>
   obtain ⟨rfl, hL2⟩ := hw.at_ (by simp);have hKK := hne (by simp) (by simp);obtain ⟨r1, r2⟩ := zjd (H := H) ⟨zao.1 (zat K), zbf K⟩ ⟨zao.1 (zat K'), zbf K'⟩ (fun e => hKK (zfM.1 e));refine zkt (j := K) (k := K') hc hr hL1 hL2 hKK (zdm hf _) (zdm hg _) ?_ hq;simp [packA, renV, renL, lstV, lstP, r1, r2, zgT]
end
section
variable {P : Program} {l : EL} {H H1 : AHeap} {lo : Nat} {L : List (Option ABlk)}
end
section
variable {P : Program} {rd : Option Nat} {nt : Nat} {ops : Array Oper} {l : EL} {ds : List Nat} {K : St → Prop} {i : Nat} {r : List Oper} {o : Oper} {ty : TypeId} {pos : String} {af : Array Edge} {H : AHeap} {lo : Nat} {L : List (Option ABlk)}
 {Qn : St → Prop} {Qe : Nat → St → Prop} {Qr : St → Prop} {bk : Code}
theorem zn0 {d : Nat} {c : Call} {f : FuncId} {args : List Value} {v : Value} {h h' h2 : AHeap} (ht : tgtE l c = some (f, args)) (hcall : Ret P f args h v h') (q : HQ h' h2) (hd : Nat.blt d nt = true)
  (hk : SeqL P rd nt ops (o :: r) (i + 1) ⟨ofA ((d, v) :: l), ds, h2⟩ K) : SeqL P rd nt ops (⟨some d, .call c, ty, pos, af, none⟩ :: o :: r) i ⟨ofA l, ds, h⟩ K :=
 zac ht hcall hd (zcy zde q (by simp) hk)
variable {L0 : List (Option ABlk)} {ow : List Nat} {N : List ABlk}
end
open Go.Sort
theorem vr_eq {Γ : Ga} {v v' : Value} (h : VR Γ v v') (hf : flatC v = true) : v' = v := by
 cases h <;> first | rfl | (simp [flatC] at hf)
theorem vr_refl {Γ : Ga} {v : Value} (hf : flatC v = true) : VR Γ v v := by
 cases v <;> first | (simp [flatC] at hf; done) | exact .bool _ | exact .int _ _ | exact .string _
theorem zk6 {Γ : Ga} {H : AHeap} {w : World} (hr : Rel Γ H w) (os : Array Obj) : Rel Γ H (grow w os) ∧ Adv Γ H w Γ H (grow w os) := by
 have old : ∀ r, r < w.heap.size → (grow w os).heap[r]? = w.heap[r]? := fun r h => Go.Sort.heap_grow_old _ _ h
 refine ⟨⟨hr.dom, fun b x hb => ?_, hr.ownd, hr.sep⟩, ⟨fun _ _ => rfl, Nat.le_refl _, ?_, fun r h _ => old r h, fun _ hm => .inr hm, rfl, rfl, rfl, .refl _⟩⟩
 ·obtain ⟨i, o, h1, h2, h3⟩ := hr.blk b x hb;exact ⟨i, o, h1, by rw [old _ (Array.getElem?_eq_some_iff.1 h2).1]; exact h2, h3⟩
 ·show w.heap.size ≤ (w.heap ++ os).size;simp
theorem zmx {α : Type} [Inhabited α] {g : α → Value} {w : World} {r n : Nat} {d : Array α} {rc : Array Value} {e : TypeId} {fz : Nat × Nat} (h : w.heap[r]? = some (.cells rc e fz)) :
  Turned w (putRow g (Go.Sort.ahead w n) r 0 d) r (.cells (putCells g 0 d rc) e fz) := by
 refine ⟨by simp [putRow, mapBlock, Go.Sort.ahead], ?_, fun k hk => ?_, rfl, rfl, rfl⟩
 ·simp [putRow, mapBlock, Go.Sort.ahead, Array.getElem?_modify, h, onCells]
 ·have : ¬ r = k := fun e => hk e.symm
  simp [putRow, mapBlock, Go.Sort.ahead, Array.getElem?_modify, this]
theorem row_of {α : Type} [Inhabited α] {g : α → Value} (hf : ∀ x, flatC (g x) = true) {Γ : Ga} {H : AHeap} {w : World} (hr : Rel Γ H w) {b z : Nat} {s : Bool} {T : List α} {i : BI} (hg : H.get b = some (.cells (T.map g) z s false)) (hi : Γ b = some i) :
  ∃ rc e fz, w.heap[i.real]? = some (.cells rc e fz) ∧ i.shift = 0 ∧ T.length ≤ rc.size ∧ Holds g w i.real 0 T.toArray ∧
   ∀ T' : List α, T'.length = T.length → ObjR Γ i (.cells (T'.map g) z s false) (.cells (putCells g 0 T'.toArray rc) e fz) := by
 obtain ⟨i2, o, h1, h2, h3⟩ := hr.blk b _ hg;rw [hi] at h1; cases h1;obtain ⟨rc, e, fz, rfl, q1, q2, q3, q4, q5, q6, q7, q8⟩ := h3;obtain ⟨q9, q10⟩ := q6 rfl;have hsz : T.length ≤ rc.size := by simp at q4; omega
 refine ⟨rc, e, fz, h2, q9, hsz, fun j hj => ?_, fun T' hT => ?_⟩
 ·have hj' : j < T.length := by simpa using hj
  have hz : (T.map g)[j]? = some (g T[j]) := by simp [hj']
  obtain ⟨v', k1, k2⟩ := q8 j (g T[j]) hz;have k2 := vr_eq k2 (hf _);subst k2;rw [q9, Nat.zero_add] at k1;refine ⟨?_, ?_⟩
  ·simp only [World.cell?, h2, Nat.zero_add, Option.isSome_none, Bool.false_eq_true, if_false];rw [k1];simp [hj']
  ·simp only [World.frozen?, h2, Nat.zero_add];exact q10 j
 ·refine ⟨_, _, _, rfl, by simpa [hT] using q1, q2, q3, by simpa [putCells, hT] using q4, by simpa [putCells] using q5, q6, q7, fun k v hk => ?_⟩;obtain ⟨hk1, hk2⟩ := List.getElem?_eq_some_iff.1 hk;have hk1 : k < T'.length := by simpa using hk1
  refine ⟨v, ?_, ?_⟩
  ·rw [q9, Nat.zero_add];have hks : k < rc.size := by omega
   simp only [List.getElem_map] at hk2;simp only [putCells, Array.getElem?_mapIdx, Array.getElem?_eq_getElem hks, Option.map_some];rw [if_pos ⟨Nat.zero_le _, by simpa using hk1⟩];simp [hk1, hk2]
  ·simp only [List.getElem_map] at hk2;rw [← hk2]; exact vr_refl (hf _)
end Go.Den
noncomputable section
namespace Go.Proofs.YtlejimjgagfalaaGreatDoor
open Go Go.Den Go.ChangeShapes Go.WideShapes Go.Deep
set_option maxRecDepth 10000
theorem zqG {α : Type} {f : α → List Value} {w : Nat} (hw : 0 < w) (hf : ∀ x, (f x).length = w) {m : List α} {j : Nat} {u : Value} (h : (m.flatMap f)[j]? = some u) : ∃ x, m[j / w]? = some x ∧ (f x)[j % w]? = some u := by
 have hl : j < m.length * w := by
  have := (List.getElem?_eq_some_iff.1 h).1
  rwa [zbR hf] at this
 have hi : j / w < m.length := Nat.div_lt_of_lt_mul (by rw [Nat.mul_comm]; exact hl);refine ⟨m[j / w], List.getElem?_eq_getElem hi, ?_⟩;have e : j = j / w * w + j % w := by rw [Nat.mul_comm]; exact (Nat.div_add_mod j w).symm
 rw [e, ← List.getElem?_drop, zdS hf, List.drop_eq_getElem_cons hi, List.flatMap_cons, List.getElem?_append_left (by rw [hf]; exact Nat.mod_lt _ hw)] at h;exact h
structure OpS (W : World) {α : Type} (f : α → List Value) (w : Nat) (v : Value) : Prop where
 out : v = .slice none 0 0 ∨ ∃ (b sh ob len cap : Nat) (m : List α) (rc : Array Value) (ty : TypeId) (fz : Nat × Nat), v = .slice (some ⟨b, sh + ob, none⟩) len cap ∧ len ≤ cap ∧ m.length = cap ∧ W.heap[b]? = some (.cells rc ty fz) ∧ sh + cap * w ≤ rc.size ∧ (cap ≠ 0 → ob = 0) ∧
   ∀ (j : Nat) (u : Value), (m.flatMap f)[j]? = some u → rc[sh + j]? = some u
theorem zeN {α : Type} [Inhabited α] {f : α → List Value} {w : Nat} {t e : TypeId} (hw : 0 < w) (hf : ∀ x, (f x).length = w) (hu : Tryz.prog.underlying t = some (.slice e)) (hce : Tryz.prog.cellsOf e = w)
  {b0 : Nat} {H : Type} {enc : TypeId × Value → H} {W : World} {sp hd} (dec : ∀ {fuel : Nat} {cs : List Value} {x : DataW H × List MemPlace}, DataW.trod enc Tryz.prog W 0 sp hd fuel e cs = some x → ∃ y, cs = f y)
  {fuel : Nat} {v : Value} {x : DataW H × List MemPlace} (hsp : ∀ b, sp b = true)
  (h : DataW.trod enc Tryz.prog W 0 sp hd fuel t [v] = some x) (hok : Cell.okWide Tryz.prog W .any b0 t v) : OpS W f w v := by
 obtain ⟨d, ps⟩ := x;refine ⟨?_⟩;rcases open_slice hu h with ⟨hv, _⟩ | ⟨a, len, cap, m, n, D, Pl, hv, _, hle, _, hm, _, hel⟩
 ·left; cases hv; rfl
 ·right;cases hv;rw [hsp] at hm;simp only [if_true] at hm;subst hm;simp only [Cell.okWide, Cell.ok, hu] at hok;obtain ⟨_, _, _, hspot, row, cells, hsh, hlie⟩ := hok;obtain ⟨ab, ao, asp⟩ := a;simp only at hspot;subst hspot;simp only [World.shape?] at hsh;split at hsh
  ·rename_i rc ty fz hheap;rw [hce] at hel
   obtain ⟨F, hF⟩ := choose_lt (α := α) (p := fun i x => ∀ r u, (f x)[r]? = some u → rc[ao + i * w + r]? = some u) (fun i hi => by
    obtain ⟨cs', h1, h2⟩ := hel i hi;obtain ⟨y, rfl⟩ := dec h2;obtain ⟨_, _, h3⟩ := World.cells?_some h1;refine ⟨y, fun r u hr => ?_⟩;have hrw : r < w := by have := (List.getElem?_eq_some_iff.1 hr).1; rwa [hf] at this
    have := h3 r hrw;rw [hr] at this;rw [zlV, zlV] at this;simpa [World.cell?, hheap, Nat.add_assoc] using this)
   by_cases h0 : m = 0
   ·subst h0;exact ⟨ab, 0, ao, len, 0, [], rc, ty, fz, by rw [Nat.zero_add], hle, rfl, hheap, by omega, fun hh => absurd rfl hh, fun j u hu => by simp at hu⟩
   ·refine ⟨ab, ao, 0, len, m, (List.range m).map F, rc, ty, fz, rfl, hle, by simp, hheap, ?_, fun _ => rfl, ?_⟩
    ·have hlast : (f (F (m - 1))).length - 1 < (f (F (m - 1))).length := by rw [hf]; omega
     have := hF (m - 1) (by omega) ((f (F (m - 1))).length - 1) _ (List.getElem?_eq_getElem hlast);have := (Array.getElem?_eq_some_iff.1 this).1;rw [hf] at this
     have e1 : m * w = (m - 1) * w + w := by
      have : m = (m - 1) + 1 := by omega
      rw [this, Nat.add_mul]; simp
     omega
    ·intro j u hu;obtain ⟨x, hx, hr⟩ := zqG hw hf hu;rw [List.getElem?_map] at hx
     cases hj : (List.range m)[j / w]? with
     | none => rw [hj] at hx; cases hx
     | some k =>
      rw [hj] at hx;simp only [Option.map_some, Option.some.injEq] at hx;subst hx;obtain ⟨hk, hk2⟩ := List.getElem?_eq_some_iff.1 hj;simp only [List.getElem_range] at hk2;subst hk2;have := hF (j / w) (by simpa using hk) _ _ hr;rw [← this]
      congr 1
      have e : j / w * w + j % w = j := by rw [Nat.mul_comm]; exact Nat.div_add_mod j w
      omega
  ·cases hsh
def extB (bs : List (Option BB)) : Nat → Option BB := fun k => if k < 1000 then B0 k else (bs[k - 1000]?).join
theorem zqJ {bs : List (Option BB)} {k : Nat} {x : BB} (h : B0 k = some x) : extB bs k = some x := by
 have := b0_high h;simp only [extB];rw [if_pos (by omega)]; exact h
theorem zgg {bs : List (Option BB)} {k : Nat} {o : Option BB} (h : bs[k]? = some o) : extB bs (1000 + k) = o := by
 simp only [extB];rw [if_neg (by omega), Nat.add_sub_cancel_left, h]; rfl
theorem zlt {bs : List (Option BB)} {H : AHeap} (hE : Ext (heapOf (extB bs)) H) : Glo B0 H := glo_ext (fun _ _ hx => zqJ hx) hE
def BBat (B : Nat → Option BB) (W : World) (x : BB) : Prop := ∃ rc e fz, W.heap[x.i.real]? = some (.cells rc e fz) ∧ x.i.size = x.cs.length ∧ x.i.slack = false ∧ x.i.shift + x.cs.length ≤ rc.size ∧ x.i.rsize = rc.size ∧ ∀ (j : Nat) (v : Value), x.cs[j]? = some v → ∃ v', rc[x.i.shift + j]? = some v' ∧ VR (gaOf B) v v'
theorem extB_ok {W : World} (h : BBok B0 W) {bs : List (Option BB)} (hb : ∀ (k : Nat) x, bs[k]? = some (some x) → BBat (extB bs) W x) : BBok (extB bs) W := by
 refine ⟨fun k x hx hk => ?_, fun k x hx => ?_⟩
 ·simp only [extB] at hx;rw [if_pos hk] at hx;exact h.glob k x hx hk
 ·simp only [extB] at hx;split at hx
  ·obtain ⟨rc', e, fz', h1, h2, h3, h4, h5, h6⟩ := h.blk k x hx;refine ⟨rc', e, fz', h1, h2, h3, h4, h5, fun j v hv => ?_⟩;obtain ⟨v', h7, h8⟩ := h6 j v hv;have hf := zkM k x hx;have hfv : flatC v = true := List.all_eq_true.1 hf v (List.mem_of_getElem? hv);have := h8.flatC hfv;subst this;exact ⟨_, h7, flatVR hf hv⟩
  ·cases hk : bs[k - 1000]? with
   | none => rw [hk] at hx; cases hx
   | some o =>
    rw [hk] at hx;simp only [Option.join_some] at hx;subst hx;exact hb _ _ hk
structure OpU (W : World) {α : Type} (f : α → List Value) (w : Nat) (v : Value) (o : Option BB) (p : Nat → Option Addr) (c : Nat) (l : List α) : Prop where
 blk : ∀ x, o = some x → ∀ B, BBat B W x
 vr : ∀ B k, 1000 ≤ k → B k = o → VR (gaOf B) (.slice (p k) l.length c) v
 at_ : ∀ B k, 1000 ≤ k → B k = o → SlAt (heapOf B) w f (p k) l
 cap : l.length ≤ c
 nil : ∀ k, p k = none → l.length = 0 ∧ c = 0
 spot : ∀ k a, p k = some a → a.spot = none
theorem OpS.use {W : World} {α : Type} {f : α → List Value} {w : Nat} {v : Value} (hf : ∀ x, (f x).length = w) (hfl : ∀ x, (f x).all flatC = true) (h : OpS W f w v) : ∃ o p c l, OpU W f w v o p c l := by
 rcases h.out with rfl | ⟨b, sh, ob, len, cap, m, rc, ty, fz, rfl, hle, hm, hh, hsz, hob, hc⟩
 ·exact ⟨none, fun _ => none, 0, [], ⟨fun x hx => (by cases hx), fun _ _ _ _ => VR.sliceN _ _, fun _ _ _ _ => .nil, Nat.le_refl _, fun _ _ => ⟨rfl, rfl⟩, fun _ _ e => (by cases e)⟩⟩
 ·subst hm
  have hfm : (m.flatMap f).all flatC = true := by
   rw [List.all_eq_true];intro x hx;obtain ⟨y, _, hy⟩ := List.mem_flatMap.1 hx;exact List.all_eq_true.1 (hfl y) x hy
  have hl : (m.take len).length = len := by rw [List.length_take]; omega
  refine ⟨some ⟨⟨b, rc.size, sh, m.length * w, w, false⟩, m.flatMap f⟩, fun k => some ⟨2 * k + 1, ob, none⟩, m.length, m.take len, ⟨fun x hx B => ?_, fun B k hk hB => ?_, fun B k hk hB => ?_, by omega, fun _ e => (by cases e), fun _ _ e => (by cases e; rfl)⟩⟩
  ·cases hx;exact ⟨rc, ty, fz, hh, (zbR hf m).symm, rfl, by rw [zbR hf]; exact hsz, rfl, fun j v hv => ⟨v, hc j v hv, flatVR hfm hv⟩⟩
  ·rw [hl];have := zkr (k := k) hB;exact .slice this (.inl rfl)
  ·have hg := zhM (k := k) hB;refine ⟨fun hne => ?_⟩;have h0 : m.length ≠ 0 := fun e => hne (by rw [List.length_eq_zero_iff.1 e]; simp)
   simp only [hob h0];exact ((zbs hf hg).take len).out hne
end Go.Proofs.YtlejimjgagfalaaGreatDoor
