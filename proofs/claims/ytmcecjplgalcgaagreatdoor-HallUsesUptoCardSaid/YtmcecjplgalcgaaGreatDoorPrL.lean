/- The symbolic layer: ranges over maps that stay as they are. -/
import Derived.Test.YtmcecjplgalcgaaGreatDoorStC
import Derived.Test.YtmcecjplgalcgaaGreatDoorHaB
import Derived.Test.YtmcecjplgalcgaaGreatDoorSrL
noncomputable section
namespace Go.Den
section
variable {P : Program} {rd : Option Nat} {nt : Nat} {ops : Array Oper} {l : EL} {ds : List Nat} {h : AHeap} {K : St → Prop} {i : Nat} {r : List Oper} {ty : TypeId} {pos : String} {af : Array Edge}
section
variable {α β : Type} {f : α → Value} {g : β → Value}
end
end
/-! ### maps from keys to values -/
section
variable {P : Program} {α β : Type} [DecidableEq α] {f : α → Value} {g : β → Value} {kt : TypeId} {l : EL} {h : AHeap}
end
/-! ### stores, the list behind them told -/
section
variable {P : Program} {rd : Option Nat} {nt : Nat} {ops : Array Oper} {l : EL} {ds : List Nat} {K : St → Prop} {i : Nat} {r : List Oper} {o : Oper} {ty : TypeId} {pos : String} {af : Array Edge} {H : AHeap} {lo : Nat} {L L' : List (Option ABlk)} {Qn : St → Prop} {Qe : Nat → St → Prop} {Qr : St → Prop}
theorem set_mid {α : Type} {p r : List α} {a b : α} {n : Nat} (h : n = p.length) : (p ++ a :: r).set n b = p ++ b :: r := by
 subst h; simp
end
section
variable {P : Program} {rd : Option Nat} {nt : Nat} {ops : Array Oper} {ds : List Nat} {l : EL} {H : AHeap} {lo : Nat} {L : List (Option ABlk)} {k i : Nat} {tj lc : List Nat} {K : St → Prop} {r : List Oper} {ty : TypeId} {pos : String} {af : Array Edge}
theorem sf_ser0 [PC P] {k' : Nat} {op : Op} {v : Value} {y : ABlk} (hc : Closed H) (hfree : isFree op = false) (hser : seriesS ops i = true) (hlt : k' < L.length) (hop : Does P l op (ext H lo L) v ((ext H lo L).put (nb H k') y))
  (hk : SeqD P rd nt ops r (i + 1) ds l H lo (L.set k' (some y)) [] [] K) : SeqF P rd nt ops (⟨none, op, ty, pos, af, none⟩ :: r) i ds l H lo L k tj lc K :=
 sf_ho fun ho => sf_series (o := ⟨none, op, ty, pos, af, none⟩) (v := v) hfree hser (fun _ ha => put0 ho rfl hop ha) (ext_put hc hlt y) (by rw [ext_fresh, ext_fresh, List.length_set]; exact Nat.le_refl _) hk
end
end Go.Den
/- Contracts: lists of ones, run by the evaluator. -/
noncomputable section
namespace Go.Proofs.YtmcecjplgalcgaaGreatDoor
open Go Go.Den
set_option maxRecDepth 100000
theorem blO_ok : blOk [] = true := rfl
theorem gloO {H : AHeap} : Glo (bOf []) H := fun k x h => by cases h
end Go.Proofs.YtmcecjplgalcgaaGreatDoor
/- The symbolic layer: a range over a function. -/
noncomputable section
namespace Go.Den
/-! ### heaps that say the same but for the least block that was changed -/
theorem Adv.toR {Γ Γ' : Ga} {H H' H2 : AHeap} {w w' : World} (q : HQ H' H2) (a : Adv Γ H w Γ' H' w') : Adv Γ H w Γ' H2 w' :=
 ⟨a.ext, by rw [← q.fresh]; exact a.fresh, a.size, a.keep, fun r hm => a.mine r (q.symm.mine hm), a.os, a.tape, a.output, ⟨by rw [← q.low]; exact a.kept.low, fun b hb => by rw [← q.get]; exact a.kept.get b (by rw [q.low]; exact hb)⟩⟩
theorem Tidy.to {H : AHeap} {v v2 : Value} {H1 H1' H2 : AHeap} (q : HQ H1 H1') (h : Tidy H v H1' v2 H2) : Tidy H v H1 v2 H2 := by
 intro Γ Γ1 w w' v' hr h1 ha hv
 exact h Γ Γ1 w w' v' hr (q.rel h1) (ha.toR q) hv
/-! ### ends of functions that ranged over functions -/
section
variable {P : Program} {H : AHeap} {lo : Nat} {l : EL}
end
/-! ### the range itself -/
section
variable {P : Program} {nt : Nat} {l : EL} {ds : List Nat} {H : AHeap} {lo : Nat} {L : List (Option ABlk)} {Qn : St → Prop} {Qe : Nat → St → Prop} {Qr : St → Prop}
end
/-! ### loops whose list of deferred calls grows; several blocks together -/
section
variable {P : Program} {rd : Option Nat} {nt : Nat} {l : EL} {ds : List Nat} {h : AHeap} {Qe : Nat → St → Prop} {Qr : St → Prop}
end
theorem fin_two {P : Program} {H : AHeap} {Q : Value → AHeap → Prop} {rs : Array ResultVar} {l : EL} {L : List (Option ABlk)} {lo : Nat} {vs : List Value} {v : Value} {j k : Nat} {cs cs' : List Value} {z z' : Nat} {s ro s' ro' : Bool} (hc : Closed H) (hr : resE l rs.toList = some vs)
  (hj : L[j]? = some (some (.cells cs z s ro))) (hk : L[k]? = some (some (.cells cs' z' s' ro'))) (hne : j ≠ k) (hf : cs.all (flatD 8) = true) (hf' : cs'.all (flatD 8) = true) (hv : renV (renOf H [nb H j, nb H k]) 8 (packA vs) = some v) (hq : Q v ((H.add (.cells cs z s ro)).add (.cells cs' z' s' ro'))) :
  Fin P rs H Q ⟨ofA l, [], ext H lo L⟩ := by
 refine ⟨⟨_, vs, v, _, rfl, resE_A hr, ?_, hq⟩⟩
 refine tidy_of (H0 := H) (ys := [.cells cs z s ro, .cells cs' z' s' ro']) (ren_ext hc (fun _ _ h => ext_get_old hc h) (l := [nb H j, nb H k]) ?_ ?_ rfl ?_) hv
 ·simp only [List.nodup_cons, List.mem_singleton, List.not_mem_nil, not_false_eq_true, List.nodup_nil, and_true]
  intro e; exact hne (nb_inj.1 e)
 ·intro b hb
  simp only [List.mem_cons, List.not_mem_nil, or_false] at hb
  rcases hb with rfl | rfl
  ·exact ⟨own_iff.1 (nb_own _), nb_ge _⟩
  ·exact ⟨own_iff.1 (nb_own _), nb_ge _⟩
 ·intro i b y hb hy
  match i, hb, hy with
  | 0, hb, hy =>
   simp only [List.getElem?_cons_zero, Option.some.injEq] at hb hy
   subst hb; subst hy
   exact ⟨_, ext_get_new hj, renB_flat hf⟩
  | 1, hb, hy =>
   simp only [List.getElem?_cons_succ, List.getElem?_cons_zero, Option.some.injEq] at hb hy
   subst hb; subst hy
   exact ⟨_, ext_get_new hk, renB_flat hf'⟩
  | i + 2, hb, hy => simp at hb
theorem renOf_two {H : AHeap} {a b : Nat} (ha : a % 2 = 0 ∧ H.fresh ≤ a) (hb : b % 2 = 0 ∧ H.fresh ≤ b) (hne : a ≠ b) : renOf H [a, b] a = some H.fresh ∧ renOf H [a, b] b = some (H.fresh + 2) := by
 unfold renOf
 rw [if_neg (by omega), if_neg (by omega)]
 simp [List.findIdx?, List.findIdx?.go, hne]
section
variable {P : Program} {rd : Option Nat} {nt : Nat} {ops : Array Oper} {l : EL} {ds : List Nat} {i : Nat} {ty : TypeId} {pos : String} {af : Array Edge} {H : AHeap} {lo : Nat} {L L' : List (Option ABlk)}
end
section
variable {P : Program} {nt : Nat} {l : EL} {ds : List Nat} {H : AHeap} {lo : Nat} {L : List (Option ABlk)} {Qn : St → Prop} {Qe : Nat → St → Prop} {Qr : St → Prop}
end
end Go.Den
/- The symbolic layer: calls that turn one block; stores of whole elements. -/
noncomputable section
namespace Go.Den
structure Cg (H H1 : AHeap) (b : Nat) (x : ABlk) : Prop where
 puts : Puts H H1
 at_ : H1.get b = some x
 off : ∀ c, c ≠ b → H1.get c = H.get c
theorem Cg.refl {H : AHeap} {b : Nat} {x : ABlk} (hc : Closed H) (h : H.get b = some x) : Cg H H b x := ⟨Puts.refl hc, h, fun _ _ => rfl⟩
theorem Cg.put {H H1 : AHeap} {b : Nat} {x : ABlk} {cs : List Value} {z : Nat} {s ro : Bool} (h : Cg H H1 b x) (hb : own b = true) (hlt : b < H.fresh) (hf : cs.all (flatD 8) = true) : Cg H (H1.put b (.cells cs z s ro)) b (.cells cs z s ro) :=
 ⟨h.puts.put hb hlt hf, put_same hb, fun c hc => by rw [put_get hb, if_neg hc]; exact h.off c hc⟩
section
variable {P : Program} {H H1 : AHeap} {b : Nat}
theorem tidy_cg {x : ABlk} {v : Value} {L : List (Option ABlk)} {lo : Nat} (hb : own b = true) (hlt : b < H.fresh) (hx : ∃ cs z s ro, x = .cells cs z s ro ∧ cs.all (flatD 8) = true) (hp : Cg H H1 b x) (hv : flatD 8 v = true) : Tidy H v (ext H1 lo L) v (H.put b x) := by
 have hc1 := hp.puts.closed
 refine tidy_of (H0 := H.put b x) (ys := []) (l := []) (ren := renOf H []) ?_ (renV_flat 8 hv)
 refine ⟨fun b h => by simp only [renOf, if_pos h], fun b c h1 h2 => ?_, fun k b h => by simp at h, rfl, fun k b y h => by simp at h, rfl, fun c hc => ?_, fun c h1 h2 => ?_, fun c y h1 h2 h3 => ?_, Nat.min_le_left _ _, fun c h1 h2 => ?_⟩
 ·simp only [renOf, if_neg h1] at h2
  simp at h2
 ·rw [put_get hb, if_neg (by intro e; subst e; rw [own_iff] at hb; omega)]
 ·have hne : c ≠ b := by omega
  rw [put_get hb, if_neg hne, ← hp.off c hne]
  exact hp.puts.ge c h1 h2
 ·rw [put_get hb] at h3
  by_cases e : c = b
  ·rw [if_pos e] at h3
   cases h3
   obtain ⟨cs, z, s, ro, rfl, hf⟩ := hx
   subst e
   exact .inr ⟨_, ext_get_old hc1 hp.at_, renB_flat hf⟩
  ·rw [if_neg e] at h3
   exact .inl ⟨h3, ext_get_old hc1 (by rw [hp.off c e]; exact h3)⟩
 ·have h2' : c < min H.low b := h2
  rw [put_get hb, if_neg (by omega)]
theorem fin_cg {x : ABlk} {Q : Value → AHeap → Prop} {rs : Array ResultVar} {l : EL} {L : List (Option ABlk)} {lo : Nat} {vs : List Value} (hb : own b = true) (hlt : b < H.fresh) (hx : ∃ cs z s ro, x = .cells cs z s ro ∧ cs.all (flatD 8) = true) (hp : Cg H H1 b x)
  (hr : resE l rs.toList = some vs) (hv : flatD 8 (packA vs) = true) (hq : Q (packA vs) (H.put b x)) : Fin P rs H Q ⟨ofA l, [], ext H1 lo L⟩ :=
 ⟨⟨_, vs, packA vs, H.put b x, rfl, resE_A hr, tidy_cg hb hlt hx hp hv, hq⟩⟩
theorem fin_cgP {x : ABlk} {Q : Value → AHeap → Prop} {rs : Array ResultVar} {l : EL} {L : List (Option ABlk)} {lo : Nat} {vs : List Value} (hc : Closed H) (hb : own b = true) (hlt : b < H.fresh) (hx : ∃ cs z s ro, x = .cells cs z s ro ∧ cs.all (flatD 8) = true) (hg : ∃ y, H.get b = some y)
  (hr : resE l rs.toList = some vs) (hv : flatD 8 (packA vs) = true) (hq : Q (packA vs) (H.put b x)) : Fin P rs H Q ⟨ofA l, [], (ext H lo L).put b x⟩ := by
 obtain ⟨y, hy⟩ := hg
 obtain ⟨cs, z, s, ro, rfl, hf⟩ := hx
 exact ⟨⟨_, vs, packA vs, _, rfl, resE_A hr, (tidy_cg (lo := min lo b) (L := L) hb hlt ⟨_, _, _, _, rfl, hf⟩ ((Cg.refl hc hy).put hb hlt hf) hv).to (ext_put_old hb hlt hc _), hq⟩⟩
end
section
variable {P : Program} {rd : Option Nat} {nt : Nat} {ops : Array Oper} {l : EL} {ds : List Nat} {K : St → Prop} {i : Nat} {r : List Oper} {o : Oper} {ty : TypeId} {pos : String} {af : Array Edge} {H : AHeap} {lo : Nat} {L : List (Option ABlk)}
 {Qn : St → Prop} {Qe : Nat → St → Prop} {Qr : St → Prop} {d : Nat} {c : Call} {f : FuncId} {args : List Value} {v : Value} {x : ABlk} {bk : Code}
theorem seq_callPOC {b : Nat} (hc : Closed H) (hb : own b = true) (hlt : b < H.fresh) (ht : tgtE l c = some (f, args)) (hcall : Ret P f args (ext H lo L) v ((ext H lo L).put b x)) (hd : Nat.blt d nt = true)
  (hk : CT P rd nt bk ⟨ofA ((d, v) :: l), ds, ext (H.put b x) (min lo b) L⟩ Qn Qe Qr) : SeqL P rd nt ops [⟨some d, .call c, ty, pos, af, none⟩] i ⟨ofA l, ds, ext H lo L⟩ (fun s' => CT P rd nt bk s' Qn Qe Qr) :=
 seq_call ht hcall hd (seq_nil (ct_to sub_refl (ext_put_old hb hlt hc x) hk))
variable {L0 : List (Option ABlk)} {ow : List Nat} {N : List ABlk}
theorem sd_putQ [PC P] {op : Op} {k : Nat} (hfree : isFree op = false) (hser : seriesS ops i = true) (hc : Closed H) (hlt : k < L0.length) (hop : Does P l op (ext H lo L0) v ((ext H lo L0).put (nb H k) x))
  (hk : ∀ L' : List (Option ABlk), L'.length = L0.length → (∀ j, j ≠ k → L'[j]? = L0[j]?) → L'[k]? = some (some x) → SeqD P rd nt ops r (i + 1) ds l H lo L' [] [] K) : SeqD P rd nt ops (⟨none, op, ty, pos, af, none⟩ :: r) i ds l H lo L0 [] [] K := by
 have e1 : L0 ++ ([] : List ABlk).map some = L0 := by simp
 exact sd_put hfree hser hc (by rw [e1]; exact hlt) (by rw [e1]; exact hop) (by rw [e1]; exact hk _ List.length_set (fun _ hj => List.getElem?_set_ne (fun e => hj e.symm)) (List.getElem?_set_self hlt))
theorem seq_putQ [PC P] {op : Op} {k : Nat} (hc : Closed H) (hlt : k < L.length) (hop : Does P l op (ext H lo L) v ((ext H lo L).put (nb H k) x))
  (hk : ∀ L' : List (Option ABlk), L'.length = L.length → (∀ j, j ≠ k → L'[j]? = L[j]?) → L'[k]? = some (some x) → SeqL P rd nt ops (o :: r) (i + 1) ⟨ofA l, ds, ext H lo L'⟩ K) : SeqL P rd nt ops (⟨none, op, ty, pos, af, none⟩ :: o :: r) i ⟨ofA l, ds, ext H lo L⟩ K :=
 seq_put hc hlt hop (hk _ List.length_set (fun _ hj => List.getElem?_set_ne (fun e => hj e.symm)) (List.getElem?_set_self hlt))
theorem seq_putQC [PC P] {op : Op} {k : Nat} (hc : Closed H) (hlt : k < L.length) (hop : Does P l op (ext H lo L) v ((ext H lo L).put (nb H k) x))
  (hk : ∀ L' : List (Option ABlk), L'.length = L.length → (∀ j, j ≠ k → L'[j]? = L[j]?) → L'[k]? = some (some x) → CT P rd nt bk ⟨ofA l, ds, ext H lo L'⟩ Qn Qe Qr) : SeqL P rd nt ops [⟨none, op, ty, pos, af, none⟩] i ⟨ofA l, ds, ext H lo L⟩ (fun s' => CT P rd nt bk s' Qn Qe Qr) :=
 seq_putC hc hlt hop (hk _ List.length_set (fun _ hj => List.getElem?_set_ne (fun e => hj e.symm)) (List.getElem?_set_self hlt))
theorem sd_putO0 [PC P] {op : Op} {b : Nat} (hfree : isFree op = false) (hser : seriesS ops i = true) (hc : Closed H) (hb : own b = true) (hlt : b < H.fresh)
  (hop : Does P l op (ext H lo L0) v ((ext H lo L0).put b x)) (hk : SeqD P rd nt ops r (i + 1) ds l (H.put b x) (min lo b) L0 [] [] K) :
  SeqD P rd nt ops (⟨none, op, ty, pos, af, none⟩ :: r) i ds l H lo L0 [] [] K := by
 have e1 : L0 ++ ([] : List ABlk).map some = L0 := by simp
 refine sd_ho fun ho => sd_seriesC (v := v) (h' := (ext H lo L0).put b x) (H' := H.put b x) (lo' := min lo b) (L' := L0) hfree hser (fun ad ha => ?_) (ext_put_old hb hlt hc x) rfl (closed_put hc hb hlt) ?_ ?_ hk
 ·rw [e1]
  refine opT_plain PC.ok ho (s := ⟨ofA (fl ad l), ds, _⟩) rfl (does_fl hop ha) fun u H' hm => ?_
  rw [List.mem_singleton] at hm
  cases hm
  exact ⟨_, rfl, rfl⟩
 ·show min (min lo b) H.fresh ≤ min lo H.fresh
  omega
 ·rw [e1, ext_fresh, ext_fresh]; exact Nat.le_refl _
theorem sd_put0 [PC P] {op : Op} {k : Nat} (hfree : isFree op = false) (hser : seriesS ops i = true) (hc : Closed H) (hlt : k < L0.length) (hop : Does P l op (ext H lo L0) v ((ext H lo L0).put (nb H k) x))
  (hk : SeqD P rd nt ops r (i + 1) ds l H lo (L0.set k (some x)) [] [] K) : SeqD P rd nt ops (⟨none, op, ty, pos, af, none⟩ :: r) i ds l H lo L0 [] [] K := by
 have e1 : L0 ++ ([] : List ABlk).map some = L0 := by simp
 exact sd_put hfree hser hc (by rw [e1]; exact hlt) (by rw [e1]; exact hop) (by rw [e1]; exact hk)
end
section
theorem do_neg {P : Program} {l : EL} {h : AHeap} {t : TypeId} {x : Operand} {n : Int} (hx : ev l x = some (.int .i64 n)) (hb : -9223372036854775807 ≤ n ∧ n ≤ 9223372036854775807) : Does P l (.unOp .neg t x) h (.int .i64 (-n)) h := by
 refine do_unOp hx ?_
 have e : (0 : Int) - n = -n := by omega
 simp only [unA, wrapI, e]
 rw [wrap_i64 (by omega)]
end
theorem writeAt_app {a b c : List Value} : ∀ {p : List Value}, b.length = a.length → writeAt (p ++ a ++ c) p.length b = some (p ++ b ++ c)
 | [], h => by
  simp only [List.nil_append, List.length_nil]
  have key : ∀ (a b : List Value), b.length = a.length → writeAt (a ++ c) 0 b = some (b ++ c) := by
   intro a
   induction a with
   | nil => intro b hb; obtain rfl : b = [] := List.length_eq_zero_iff.1 hb; simp [writeAt]
   | cons x a ih =>
    intro b hb
    cases b with
    | nil => simp at hb
    | cons y b => simp [writeAt, ih b (by simpa using hb)]
  exact key a b h
 | x :: p, h => by
  have := writeAt_app (c := c) (p := p) h
  simp only [List.cons_append, List.length_cons]
  cases b with
  | nil =>
   obtain rfl : a = [] := List.length_eq_zero_iff.1 (by simpa using h.symm)
   simp [writeAt]
  | cons y b => simp only [writeAt, this, Option.map_some]
theorem stl_elem {α : Type} {f : α → List Value} {w : Nat} (hf : ∀ x, (f x).length = w) (hone : ∀ x, (f x).all oneCell = true) {l : List α} {i : Nat} {x : α} (h : i < l.length) :
  stl w (l.flatMap f) (0 + i * w) (.agg ⟨f x⟩) = some ((l.set i x).flatMap f) := by
 have e0 : l = l.take i ++ l[i] :: l.drop (i + 1) := by rw [← List.drop_eq_getElem_cons h, List.take_append_drop]
 have e1 : l.flatMap f = (l.take i).flatMap f ++ f l[i] ++ (l.drop (i + 1)).flatMap f := by
  have := congrArg (List.flatMap f) e0
  rw [List.flatMap_append, List.flatMap_cons, ← List.append_assoc] at this
  exact this
 have e2 : (l.set i x).flatMap f = (l.take i).flatMap f ++ f x ++ (l.drop (i + 1)).flatMap f := by
  rw [List.set_eq_take_append_cons_drop, if_pos h]
  simp
 have e3 : ((l.take i).flatMap f).length = i * w := by rw [len_flat hf, List.length_take]; congr 1; omega
 have hw : Nat.beq (f x).length w = true := by rw [hf]; exact Nat.beq_refl w
 simp only [stl, Value.cells, hw, hone, Nat.zero_add]
 rw [e1, e2, ← e3]
 exact writeAt_app (by rw [hf, hf])
end Go.Den
/- LeaguePromotions: the plain functions. -/
noncomputable section
namespace Go.Proofs.YtmcecjplgalcgaaGreatDoor
open Go Go.Den
set_option maxRecDepth 100000
def alphaI (c : Int) : Bool := (decide (c ≥ 97) && decide (c ≤ 122)) || (decide (c ≥ 65) && decide (c ≤ 90))
def nameC (i : Nat) (c : Int) : Bool := alphaI c || (decide (i ≠ 0) && ((decide (c ≥ 48) && decide (c ≤ 57)) || c == 95))
def nameB (s : ByteArray) : Bool := (decide (1 ≤ s.size) && decide (s.size ≤ 24)) && (List.range s.size).all fun i => nameC i (byteI s i)
theorem nameB_bad {s : ByteArray} {i : Nat} (hi : i < s.size) (h : nameC i (byteI s i) = false) : nameB s = false := by
 unfold nameB
 have : ((List.range s.size).all fun i => nameC i (byteI s i)) = false := by
  rw [List.all_eq_false]
  exact ⟨i, List.mem_range.2 hi, by rw [h]; simp⟩
 rw [this, Bool.and_false]
theorem nameB_all {s : ByteArray} (h : ∀ i, i < s.size → nameC i (byteI s i) = true) : nameB s = (decide (1 ≤ s.size) && decide (s.size ≤ 24)) := by
 unfold nameB
 have : ((List.range s.size).all fun i => nameC i (byteI s i)) = true := by
  rw [List.all_eq_true]
  exact fun i hi => h i (List.mem_range.1 hi)
 rw [this, Bool.and_true]
theorem nameC_high {i : Nat} {c : Int} (h : 128 ≤ c) : nameC i c = false := by
 have h1 : decide (c ≤ 122) = false := by simp; omega
 have h2 : decide (c ≤ 90) = false := by simp; omega
 have h3 : decide (c ≤ 57) = false := by simp; omega
 have h4 : (c == 95) = false := by simp; omega
 simp [nameC, alphaI, h1, h2, h3, h4]
end Go.Proofs.YtmcecjplgalcgaaGreatDoor
