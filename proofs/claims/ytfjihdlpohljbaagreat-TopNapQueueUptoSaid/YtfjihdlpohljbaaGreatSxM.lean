/- Contracts: plans, what is wrong with them. -/
import Derived.Test.YtfjihdlpohljbaaGreatElJ
import Derived.Test.YtfjihdlpohljbaaGreatSxU
import Derived.Test.YtfjihdlpohljbaaGreatSxR
import Derived.Test.YtfjihdlpohljbaaGreatSxK
import Derived.Test.YtfjihdlpohljbaaGreatSxA
import Derived.Test.YtfjihdlpohljbaaGreatFnA
noncomputable section
namespace Go.Proofs.YtfjihdlpohljbaaGreat
open Go Go.Den
set_option maxRecDepth 100000
structure Bz where
  p : Option Addr
  c : Nat
  l : List Int
def bz (x : Bz) : List Value := [.slice x.p x.l.length x.c]
end Go.Proofs.YtfjihdlpohljbaaGreat
/- Plans: the plain law.  A search for days in lexicographic order; of more dates than there are matches the later ones are never needed. -/
noncomputable section
namespace Go.Den.Plan
def ext (D : Nat → List Int) (C : List Int → Int → Bool) : Nat → List Int → Option (List Int)
  | 0, out => some out
  | f + 1, out => (D out.length).findSome? fun d => if C out d = true then none else ext D C f (out ++ [d])
section
variable {D D' : Nat → List Int} {M : Nat → Nat → Bool}
end
end Go.Den.Plan
/- Contracts: the reference's search for days. -/
noncomputable section
namespace Go.Proofs.YtfjihdlpohljbaaGreat
open Go Go.Den
set_option maxRecDepth 100000
theorem flat_i1_map : ∀ l : List Int, l.flatMap i1 = l.map I
  | [] => rfl
  | a :: r => by simp only [List.flatMap_cons, flat_i1_map r, List.map_cons]; rfl
end Go.Proofs.YtfjihdlpohljbaaGreat
/- Contracts: the program's search for days. -/
noncomputable section
namespace Go.Proofs.YtfjihdlpohljbaaGreat
open Go Go.Den
set_option maxRecDepth 100000
theorem _root_.Go.Den.HQ.trans {a b c : AHeap} (h : HQ a b) (k : HQ b c) : HQ a c := ⟨fun x => (h.get x).trans (k.get x), h.next.trans k.next, h.low.trans k.low⟩
end Go.Proofs.YtfjihdlpohljbaaGreat
/- The symbolic layer: slices inside of slices, parts of lists, appends of them. -/
noncomputable section
namespace Go.Den
section
variable {α : Type} {f : α → List Value} {w : Nat} {H H' : AHeap} {p : Option Addr} {c : Nat} {l : List α}
def Wv (H : AHeap) (w : Nat) (f : α → List Value) (v : Value) (l : List α) : Prop := ∃ p c, v = .slice p l.length c ∧ srcCells H w v l.length = some (l.flatMap f)
theorem Wv.blk {v : Value} (hw0 : 0 < w) (hf : ∀ x, (f x).length = w) (h : Wv H w f v l) (hne : l ≠ []) : ∃ b o c cs z k ro, v = .slice (some ⟨b, o, none⟩) l.length c ∧ H.get b = some (.cells cs z k ro) ∧ sliceIn cs o (l.length * w) = some (l.flatMap f) := by
  obtain ⟨p, c, rfl, hs⟩ := h
  have hl : 0 < l.length := List.length_pos_iff.2 hne
  have hfl : l.flatMap f ≠ [] := fun e => by
    have := len_flat hf l
    rw [e] at this
    have h2 : 0 < l.length * w := Nat.mul_pos hl hw0
    simp at this; omega
  unfold srcCells at hs
  split at hs
  · exact absurd (Option.some.inj hs).symm hfl
  · rename_i b o n c' heq
    injection heq with e1 e2 e3
    subst e1; subst e2; subst e3
    split at hs
    · rename_i cs z k ro hg
      exact ⟨b, o, _, cs, z, k, ro, rfl, hg, hs⟩
    · cases hs
  · rename_i heq
    injection heq with e1 e2 e3
    omega
  · rename_i heq; cases heq
  · cases hs
end
section
variable {P : Program} {l : EL} {h : AHeap} {α : Type} {f : α → List Value}
theorem do_appNil {args : Array Operand} {tys : Array TypeId} {st : TypeId} {r : List TypeId} {m by' sl sc : Nat} {ag : Bool} {e : TypeId} {zs : List Value} {base : Option Addr} {x : Value} (ha : evs l args.toList = some [.slice base sl sc, x]) (hty : tys.toList = st :: st :: r)
    (hs : selOf P st = some (m, ag)) (he : (tyOf P st).map (·.und) = some (.slice e)) (hz : zerOf P e = some zs) (hby : (tyOf P e).map (·.bytes) = some by') (hx : Wv h m f x []) (hb : ∀ a, base = some a → a.spot = none)
    (hle : sl ≤ sc) (h1 : (2 * (sl + 0) + 1000) * by' ≤ 2 ^ 48) (h2 : by' ≠ 0) (h3 : m ≠ 0) :
    Does P l (.call ⟨.builtin .append, args, tys⟩) h (.slice base sl sc) h := by
  refine do_builtin ha ?_
  rw [hty]
  obtain ⟨ti, e', ei, g1, g2, g3, g4, g5⟩ := selOf_spec hs
  obtain ⟨ez, k1, k2⟩ := zerOf_spec hz
  have : e' = e := by
    cases hti : tyOf P st with
    | none => rw [hti] at he; cases he
    | some ti' =>
      rw [hti] at he
      have := ctx_ty hti
      rw [g1] at this; cases this
      simp only [Option.map_some, Option.some.injEq] at he
      rw [g2] at he; cases he; rfl
  subst this
  rw [g3] at k1; cases k1
  have hbe : ei.bytes = by' := by
    cases hti : tyOf P e' with
    | none => rw [hti] at hby; cases hby
    | some x =>
      rw [hti] at hby
      have := ctx_ty hti
      rw [g3] at this; cases this
      simpa using hby
  obtain ⟨p, c, rfl, hsrc⟩ := hx
  simp only [List.length_nil, List.flatMap_nil] at hsrc ⊢
  have hnew : newsA (ctxOf P) h ei st (.slice p 0 c) = some (0, []) := by
    simp only [newsA, g1, g2, srcLen, g4, hsrc]
    simp
  simp only [biA, appendA, g1, g2, g3, hnew, hbe, g4, k2]
  rw [if_neg (by simp [h2, h3]; omega)]
  unfold pushA
  rw [if_pos (by omega)]
  cases base with
  | none => simp
  | some a =>
    obtain ⟨b, o, sp⟩ := a
    have := hb _ rfl
    simp only at this
    subst this
    simp
theorem do_predN {t t' : TypeId} {x y : Operand} {a : Nat} (hx : ev l x = some (.int .i64 (a : Int))) (hy : ev l y = some (.int .i64 1)) (hle : 0 < a) (hlt : a < 9223372036854775808) : Does P l (.binOp .sub t x y t') h (.int .i64 ((a - 1 : Nat) : Int)) h := by
  have := do_sub (P := P) (h := h) (t := t) (t' := t') hx hy (by omega)
  rwa [show (a : Int) - 1 = ((a - 1 : Nat) : Int) by omega] at this
end
section
variable {P : Program} {rd : Option Nat} {nt : Nat} {ops : Array Oper} {l : EL} {ds : List Nat} {K : St → Prop} {i : Nat} {r : List Oper} {o : Oper} {ty : TypeId} {pos : String} {af : Array Edge} {H : AHeap} {lo : Nat} {L : List (Option ABlk)} {α : Type} {f : α → List Value}
end
end Go.Den
/- Contracts: the reference's check of matches. -/
noncomputable section
namespace Go.Proofs.YtfjihdlpohljbaaGreat
open Go Go.Den
set_option maxRecDepth 100000
def errG {α : Type} (err : List α → α → Int) (l : List α) (i : Nat) : Int := match l[i]? with
  | some x => err (l.take i) x
  | none => 0
def restG {α : Type} (err : List α → α → Int) (l : List α) : Int := firstL ((List.range l.length).map (errG err l))
section
variable {α : Type} {err : List α → α → Int} {l : List α}
theorem errG_at {i : Nat} (h : i < l.length) : errG err l i = err (l.take i) l[i] := by simp [errG, h]
theorem restG_at {i : Nat} (hi : i < l.length) (h : ∀ j, j < i → errG err l j = 0) (hne : errG err l i ≠ 0) : restG err l = errG err l i := by
  have := firstL_at (l := (List.range l.length).map (errG err l)) (i := i) (by simpa using hi) (fun j hj hji => by simpa using h j hji) (by simpa using hne)
  simpa [restG] using this
theorem restG_none (h : ∀ j, j < l.length → errG err l j = 0) : restG err l = 0 :=
  firstL_none fun j hj => by
    have hj' : j < l.length := by simpa using hj
    simpa using h j hj'
end
section
variable {n : Int} {pre : List Ma} {m : Ma}
end
end Go.Proofs.YtfjihdlpohljbaaGreat
/- Plain law: the hall's rates, prices, shares. -/
noncomputable section
namespace Go.Proofs.YtfjihdlpohljbaaGreat
open Go Go.Den
set_option maxRecDepth 100000
/-! ### rates as they are given -/
structure Ra where
  frm : Int
  to : Int
  price : Int
theorem firstL_allZ {l : List Int} (h : firstL l = 0) : ∀ x ∈ l, x = 0 := by
  induction l with
  | nil => intro x hx; cases hx
  | cons a r ih =>
    intro x hx
    by_cases e : a = 0
    · have h2 : firstL r = 0 := by simpa [firstL, e] using h
      rcases List.mem_cons.1 hx with rfl | hx
      · exact e
      · exact ih h2 x hx
    · have h2 : firstL (a :: r) = a := by simp [firstL, e]
      rw [h2] at h; exact absurd h e
theorem whenL_z {b : Bool} {e : Int} (h : whenL b e = 0) (he : e ≠ 0) : b = false := by
  cases b
  · rfl
  · simp [whenL] at h; exact absurd h he
theorem restG_zero {α : Type} {err : List α → α → Int} {l : List α} (h : restG err l = 0) {i : Nat} (hi : i < l.length) : err (l.take i) l[i] = 0 := by
  have := firstL_allZ h (errG err l i) (List.mem_map.2 ⟨i, List.mem_range.2 hi, rfl⟩)
  rwa [errG_at hi] at this
/-! ### shares of equal weights -/
end Go.Proofs.YtfjihdlpohljbaaGreat
/- Contracts: the hall's prices. -/
noncomputable section
namespace Go.Proofs.YtfjihdlpohljbaaGreat
open Go Go.Den
set_option maxRecDepth 100000
theorem day_c {H : AHeap} {n : Int} : Ret Tryz.prog 69 [I n] H (I (whenL (outL n 0 99999) 3)) H := by
  refine fn_start Tryz.func69 rfl rfl rfl fun hc => ?_
  apply ct_seq
  apply ct_region
  apply seq_plain; exact do_assign rfl; exact rfl
  apply seq_nil
  apply ct_seq
  apply ct_region
  apply seq_plain; exact do_move rfl; exact rfl
  apply seq_call (ht := rfl); exact within89; exact rfl
  apply seq_plain; exact do_assign rfl; exact rfl
  apply seq_nil
  apply ct_ret
  exact fin_flat hc rfl rfl ⟨rfl, rfl⟩
end Go.Proofs.YtfjihdlpohljbaaGreat
/- The symbolic layer: drawn regions in which a block is turned that lay there before. -/
noncomputable section
namespace Go.Den
section
variable {P : Program} {rd : Option Nat} {nt : Nat} {ops : Array Oper} {ds : List Nat} {l : EL} {H : AHeap} {lo : Nat} {L : List (Option ABlk)} {k i : Nat} {tj lc : List Nat} {K : St → Prop} {r : List Oper}
theorem set_get {x : Nat} {y : ABlk} (hc : Closed H) (hk : k < L.length) : (ext H lo (L.set k (some y))).get x = if x = nb H k then some y else (ext H lo L).get x := by
  rw [ext_get hc, ext_get hc]
  by_cases h : x % 2 = 0 ∧ H.fresh ≤ x
  · rw [if_pos h, if_pos h]
    have hx2 : x = nb H (x / 2 - H.next) := by
      have := h.2
      simp only [AHeap.fresh] at this
      simp only [nb]; omega
    by_cases e : x = nb H k
    · have e2 : x / 2 - H.next = k := by rw [e]; simp only [nb]; omega
      rw [if_pos e, e2, List.getElem?_set_self hk]
    · rw [if_neg e, List.getElem?_set_ne (fun h2 => e (by rw [hx2, ← h2]))]
  · rw [if_neg h, if_neg h, if_neg]
    intro e
    exact h ⟨by rw [e]; exact own_iff.1 (nb_own _), by rw [e]; exact nb_ge _⟩
theorem put0 [PC P] {op : Op} {v : Value} {o : Oper} {ty : TypeId} {pos : String} {af : Array Edge} {h h' : AHeap} {ad : List Nat} (ho : ops[i]? = some o) (e : o = ⟨none, op, ty, pos, af, none⟩) (hop : Does P l op h v h') (ha : ∀ x ∈ ad, x ∉ reads ops o) : OpT P rd nt ops i ⟨ofA (fl ad l), ds, h⟩ (fun s => s = ⟨ofA (upd o.dst v (fl ad l)), ds, h'⟩) := by
  subst e
  refine opT_plain PC.ok ho (s := ⟨ofA (fl ad l), ds, h⟩) rfl (does_fl hop ha) fun u H' hm => ?_
  rw [List.mem_singleton] at hm
  cases hm
  exact ⟨_, rfl, rfl⟩
variable {ty : TypeId} {pos : String} {af : Array Edge}
end
end Go.Den
/- The symbolic layer: ranges over maps that stay as they are. -/
noncomputable section
namespace Go.Den
section
variable {P : Program} {rd : Option Nat} {nt : Nat} {ops : Array Oper} {l : EL} {ds : List Nat} {h : AHeap} {K : St → Prop} {i : Nat} {r : List Oper} {ty : TypeId} {pos : String} {af : Array Edge}
def pairEs {α β : Type} (f : α → Value) (g : β → Value) : List (α × β) → Nat → List MapEntry
  | [], _ => []
  | a :: r, i => { key := f a.1, val := g a.2, born := i } :: pairEs f g r (i + 1)
def pairM {α β : Type} (f : α → Value) (g : β → Value) (ks : List (α × β)) : ABlk := .map (pairEs f g ks 0) ks.length false
section
variable {α β : Type} {f : α → Value} {g : β → Value}
end
end
/-! ### maps from keys to values -/
section
variable {P : Program} {α β : Type} [DecidableEq α] {f : α → Value} {g : β → Value} {kt : TypeId} {l : EL} {h : AHeap}
def getK (ks : List (α × β)) (a : α) : Option β := (ks.find? fun p => decide (p.1 = a)).map (·.2)
def putK : List (α × β) → α → β → List (α × β)
  | [], a, v => [(a, v)]
  | p :: r, a, v => if p.1 = a then (a, v) :: r else p :: putK r a v
theorem getK_put {a b : α} {v : β} : ∀ {ks : List (α × β)}, getK (putK ks a v) b = if a = b then some v else getK ks b
  | [] => by simp [putK, getK]
  | p :: r => by
    have ih := getK_put (a := a) (b := b) (v := v) (ks := r)
    simp only [putK]
    by_cases h : p.1 = a
    · rw [if_pos h]
      by_cases h2 : a = b
      · subst h2; simp [getK]
      · have h3 : ¬ p.1 = b := fun e => h2 (h.symm.trans e)
        simp [getK, h2, h3]
    · rw [if_neg h]
      by_cases h3 : p.1 = b
      · have h2 : ¬ a = b := fun e => h (h3.trans e.symm)
        simp [getK, h2, h3]
      · simp only [getK, List.find?_cons, h3, decide_false] at ih ⊢
        exact ih
theorem findA_get (hk : KeyOk P kt f) (a : α) : ∀ (ks : List (α × β)) (i j : Nat), (getK ks a = none → findA P (ctxOf P) kt (f a) (pairEs f g ks i) j = some none) ∧ ∀ v, getK ks a = some v → ∃ n b, findA P (ctxOf P) kt (f a) (pairEs f g ks i) j = some (some (j + n, { key := f a, val := g v, born := b })) ∧ ∀ u, modE (pairEs f g ks i) n (fun e => { e with key := f a, val := g u }) = pairEs f g (putK ks a u) i
  | [], i, j => ⟨fun _ => rfl, fun v h => by simp [getK] at h⟩
  | p :: r, i, j => by
    have hfl : (!(f p.1).cells.toList.all flatC) = false := by rw [hk.flat]; rfl
    obtain ⟨i1, i2⟩ := findA_get hk a r (i + 1) (j + 1)
    simp only [pairEs, findA, hfl, Bool.false_eq_true, if_false, hk.eq]
    by_cases e : p.1 = a
    · have e1 : getK (p :: r) a = some p.2 := by simp [getK, e]
      rw [e1]
      refine ⟨fun h => (by cases h), fun v h => ?_⟩
      cases h
      refine ⟨0, i, by simp [e], fun u => ?_⟩
      simp [modE, putK, e, pairEs]
    · have e1 : getK (p :: r) a = getK r a := by simp [getK, e]
      rw [e1, decide_eq_false (fun q => e q.symm)]
      refine ⟨fun h => i1 h, fun v h => ?_⟩
      obtain ⟨n, b, h1, h2⟩ := i2 v h
      refine ⟨n + 1, b, by simp only; rw [h1]; congr 3; omega, fun u => ?_⟩
      simp only [modE, putK, e, if_false, pairEs, h2]
omit [DecidableEq α] in
theorem pairEs_snoc : ∀ {ks : List (α × β)} {i : Nat} {a : α × β}, pairEs f g (ks ++ [a]) i = pairEs f g ks i ++ [{ key := f a.1, val := g a.2, born := i + ks.length }]
  | [], i, a => by simp [pairEs]
  | b :: r, i, a => by
    simp only [List.cons_append, pairEs, pairEs_snoc (ks := r)]
    simp; omega
theorem putK_new {a : α} {v : β} : ∀ {ks : List (α × β)}, getK ks a = none → putK ks a v = ks ++ [(a, v)]
  | [], _ => rfl
  | p :: r, h => by
    by_cases e : p.1 = a
    · simp [getK, e] at h
    · have e1 : getK (p :: r) a = getK r a := by simp [getK, e]
      rw [e1] at h
      simp only [putK, e, if_false, putK_new h, List.cons_append]
theorem putK_len {a : α} {v u : β} : ∀ {ks : List (α × β)}, getK ks a = some u → (putK ks a v).length = ks.length
  | [], h => by simp [getK] at h
  | p :: r, h => by
    by_cases e : p.1 = a
    · simp [putK, e]
    · have e1 : getK (p :: r) a = getK r a := by simp [getK, e]
      rw [e1] at h
      simp [putK, e, putK_len h]
theorem do_pairGet {t et : TypeId} {m k : Operand} {r : Nat} {ks : List (α × β)} {a : α} {z v : Value} (hm : ev l m = some (.map (some r))) (hkv : ev l k = some (f a)) (hh : h.get r = some (pairM f g ks)) (ht : mapKE P t = some (kt, et)) (hz : zeroOf P et = some z) (hk : KeyOk P kt f) (hv : v = ((getK ks a).elim z g)) :
    Does P l (.lookup t m k false) h v h := by
  subst hv
  refine ⟨?_⟩
  obtain ⟨i1, i2⟩ := findA_get (g := g) hk a ks 0 0
  have key : lookupA P (ctxOf P) h t (.map (some r)) (f a) false = some ((getK ks a).elim z g) := by
    cases e : getK ks a with
    | none =>
      simp only [lookupA, mapTypes_of ht, entriesOf, hh, pairM, hk.key, if_true, i1 e, zeroV_of hz]; rfl
    | some b =>
      obtain ⟨n, c, h1, _⟩ := i2 b e
      simp only [lookupA, mapTypes_of ht, entriesOf, hh, pairM, hk.key, if_true, h1]; rfl
  simp only [opA, evalA_ofA, hm, hkv, key]; rfl
theorem do_pairPut {t et : TypeId} {m k x : Operand} {r : Nat} {ks : List (α × β)} {a : α} {b : β} (hm : ev l m = some (.map (some r))) (hkv : ev l k = some (f a)) (hx : ev l x = some (g b)) (hh : h.get r = some (pairM f g ks)) (ht : mapKE P t = some (kt, et)) (hk : KeyOk P kt f) (hor : own r = true) :
    Does P l (.mapUpdate t m k x) h undefV (h.put r (pairM f g (putK ks a b))) := by
  obtain ⟨i1, i2⟩ := findA_get (g := g) hk a ks 0 0
  refine ⟨?_⟩
  have key : mapUpdateA P (ctxOf P) h t (.map (some r)) (f a) (g b) = some (h.put r (pairM f g (putK ks a b))) := by
    cases e : getK ks a with
    | none =>
      simp only [mapUpdateA, mapTypes_of ht, hh, pairM, hk.key, hor, Bool.and_self, if_true, i1 e]
      rw [putK_new e, pairEs_snoc]
      simp
    | some v =>
      obtain ⟨n, c, h1, h2⟩ := i2 v e
      simp only [mapUpdateA, mapTypes_of ht, hh, pairM, hk.key, hor, Bool.and_self, if_true, h1, hk.same, Nat.zero_add]
      rw [h2, putK_len e]
  simp only [opA, evalA_ofA, hm, hkv, hx, key]; rfl
end
/-! ### stores, the list behind them told -/
section
variable {P : Program} {rd : Option Nat} {nt : Nat} {ops : Array Oper} {l : EL} {ds : List Nat} {K : St → Prop} {i : Nat} {r : List Oper} {o : Oper} {ty : TypeId} {pos : String} {af : Array Edge} {H : AHeap} {lo : Nat} {L L' : List (Option ABlk)} {Qn : St → Prop} {Qe : Nat → St → Prop} {Qr : St → Prop}
theorem set_mid {α : Type} {p r : List α} {a b : α} {n : Nat} (h : n = p.length) : (p ++ a :: r).set n b = p ++ b :: r := by
  subst h; simp
end
section
variable {P : Program} {rd : Option Nat} {nt : Nat} {ops : Array Oper} {ds : List Nat} {l : EL} {H : AHeap} {lo : Nat} {L : List (Option ABlk)} {k i : Nat} {tj lc : List Nat} {K : St → Prop} {r : List Oper} {ty : TypeId} {pos : String} {af : Array Edge}
end
end Go.Den
