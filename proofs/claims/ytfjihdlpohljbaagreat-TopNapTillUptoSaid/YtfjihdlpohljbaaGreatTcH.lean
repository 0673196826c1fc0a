/- The symbolic layer: calls that turn one block; stores of whole elements. -/
import Derived.Test.YtfjihdlpohljbaaGreatSxP
import Derived.Test.YtfjihdlpohljbaaGreatSxY
import Derived.Test.YtfjihdlpohljbaaGreatTcB
import Derived.Test.YtfjihdlpohljbaaGreatFnL
import Derived.Test.YtfjihdlpohljbaaGreatSxM
noncomputable section
namespace Go.Den

/-- one old block was written, nothing else -/
structure Cg (H H1 : AHeap) (b : Nat) (x : ABlk) : Prop where
  puts : Puts H H1
  at_ : H1.get b = some x
  off : ∀ c, c ≠ b → H1.get c = H.get c
theorem Cg.refl {H : AHeap} {b : Nat} {x : ABlk} (hc : Closed H) (h : H.get b = some x) : Cg H H b x := ⟨Puts.refl hc, h, fun _ _ => rfl⟩
theorem Cg.put {H H1 : AHeap} {b : Nat} {x : ABlk} {cs : List Value} {z : Nat} {s ro : Bool} (h : Cg H H1 b x) (hb : own b = true) (hlt : b < H.fresh) (hf : cs.all (flatD 8) = true) : Cg H (H1.put b (.cells cs z s ro)) b (.cells cs z s ro) :=
  ⟨h.puts.put hb hlt hf, put_same hb, fun c hc => by rw [put_get hb, if_neg hc]; exact h.off c hc⟩
theorem Cg.trans {H H1 H2 : AHeap} {b : Nat} {x y : ABlk} (h : Cg H H1 b x) (k : Cg H1 H2 b y) (hy : ∃ cs z s ro, y = .cells cs z s ro ∧ cs.all (flatD 8) = true) : Cg H H2 b y := by
  refine ⟨⟨by rw [k.puts.next, h.puts.next], fun c hc => by rw [k.puts.odd c hc, h.puts.odd c hc], fun c h1 h2 => k.puts.ge c h1 (by rw [h.puts.fresh]; exact h2), fun c v h1 h2 hv => ?_, Nat.le_trans k.puts.low h.puts.low, fun c h1 h2 => ?_⟩, k.at_, fun c hc => by rw [k.off c hc, h.off c hc]⟩
  · by_cases e : c = b
    · subst e
      rw [k.at_] at hv
      cases hv
      exact .inr hy
    · rw [k.off c e] at hv
      exact h.puts.chg c v h1 h2 hv
  · rw [k.puts.lows c (by rw [h.puts.fresh]; exact h1) h2, h.puts.lows c h1 (Nat.lt_of_lt_of_le h2 k.puts.low)]

section
variable {P : Program} {H H1 : AHeap} {b : Nat}
end
section
variable {P : Program} {rd : Option Nat} {nt : Nat} {ops : Array Oper} {l : EL} {ds : List Nat} {K : St → Prop} {i : Nat} {r : List Oper} {o : Oper} {ty : TypeId} {pos : String} {af : Array Edge} {H : AHeap} {lo : Nat} {L : List (Option ABlk)}
  {Qn : St → Prop} {Qe : Nat → St → Prop} {Qr : St → Prop} {d : Nat} {c : Call} {f : FuncId} {args : List Value} {v : Value} {x : ABlk} {bk : Code}
theorem seq_callPC {k : Nat} (hc : Closed H) (hlt : k < L.length) (ht : tgtE l c = some (f, args)) (hcall : Ret P f args (ext H lo L) v ((ext H lo L).put (nb H k) x)) (hd : Nat.blt d nt = true)
    (hk : CT P rd nt bk ⟨ofA ((d, v) :: l), ds, ext H lo (L.set k (some x))⟩ Qn Qe Qr) : SeqL P rd nt ops [⟨some d, .call c, ty, pos, af, none⟩] i ⟨ofA l, ds, ext H lo L⟩ (fun s' => CT P rd nt bk s' Qn Qe Qr) :=
  seq_call ht hcall hd (seq_nil (ct_to sub_refl (ext_put hc hlt x) hk))
variable {L0 : List (Option ABlk)} {ow : List Nat} {N : List ABlk}
theorem sd_putQ [PC P] {op : Op} {k : Nat} (hfree : isFree op = false) (hser : seriesS ops i = true) (hc : Closed H) (hlt : k < L0.length) (hop : Does P l op (ext H lo L0) v ((ext H lo L0).put (nb H k) x))
    (hk : ∀ L' : List (Option ABlk), L'.length = L0.length → (∀ j, j ≠ k → L'[j]? = L0[j]?) → L'[k]? = some (some x) → SeqD P rd nt ops r (i + 1) ds l H lo L' [] [] K) : SeqD P rd nt ops (⟨none, op, ty, pos, af, none⟩ :: r) i ds l H lo L0 [] [] K := by
  have e1 : L0 ++ ([] : List ABlk).map some = L0 := by simp
  exact sd_put hfree hser hc (by rw [e1]; exact hlt) (by rw [e1]; exact hop) (by rw [e1]; exact hk _ List.length_set (fun _ hj => List.getElem?_set_ne (fun e => hj e.symm)) (List.getElem?_set_self hlt))
theorem seq_putQC [PC P] {op : Op} {k : Nat} (hc : Closed H) (hlt : k < L.length) (hop : Does P l op (ext H lo L) v ((ext H lo L).put (nb H k) x))
    (hk : ∀ L' : List (Option ABlk), L'.length = L.length → (∀ j, j ≠ k → L'[j]? = L[j]?) → L'[k]? = some (some x) → CT P rd nt bk ⟨ofA l, ds, ext H lo L'⟩ Qn Qe Qr) : SeqL P rd nt ops [⟨none, op, ty, pos, af, none⟩] i ⟨ofA l, ds, ext H lo L⟩ (fun s' => CT P rd nt bk s' Qn Qe Qr) :=
  seq_putC hc hlt hop (hk _ List.length_set (fun _ hj => List.getElem?_set_ne (fun e => hj e.symm)) (List.getElem?_set_self hlt))
end
section
theorem do_neg {P : Program} {l : EL} {h : AHeap} {t : TypeId} {x : Operand} {n : Int} (hx : ev l x = some (.int .i64 n)) (hb : -9223372036854775807 ≤ n ∧ n ≤ 9223372036854775807) : Does P l (.unOp .neg t x) h (.int .i64 (-n)) h := by
  refine do_unOp hx ?_
  have e : (0 : Int) - n = -n := by omega
  simp only [unA, wrapI, e]
  rw [wrap_i64 (by omega)]
end
end Go.Den
/- Plain law: teams with the same figures. -/
noncomputable section
namespace Go.Proofs.YtfjihdlpohljbaaGreat
open Go Go.Den
set_option maxRecDepth 100000

/-- the rows before i with the figures a, by their numbers -/
def idxs (t : List Rw) (a : Fg) (i : Nat) : List Int := ((List.range i).filter fun j => decide (t[j]?.map figL = some a)).map fun (j : Nat) => (j : Int)
section
variable {t : List Rw} {a b : Fg} {i : Nat}
theorem idxs_succ (h : i < t.length) : idxs t a (i + 1) = if figL t[i] = a then idxs t a i ++ [(i : Int)] else idxs t a i := by
  unfold idxs
  rw [List.range_succ, List.filter_append, List.map_append]
  have e : t[i]?.map figL = some (figL t[i]) := by rw [List.getElem?_eq_getElem h]; rfl
  by_cases p : figL t[i] = a
  · have hp : decide (t[i]?.map figL = some a) = true := decide_eq_true (by rw [e, p])
    rw [if_pos p, List.filter_cons, if_pos hp]; rfl
  · have hp : ¬ decide (t[i]?.map figL = some a) = true := by
      rw [decide_eq_true_iff, e]; exact fun h => p (Option.some.inj h)
    rw [if_neg p, List.filter_cons, if_neg hp]; simp
theorem mem_idxs {k : Int} : k ∈ idxs t a i ↔ ∃ j, j < i ∧ k = (j : Int) ∧ t[j]?.map figL = some a := by
  unfold idxs
  rw [List.mem_map]
  constructor
  · rintro ⟨j, hj, rfl⟩
    rw [List.mem_filter, List.mem_range, decide_eq_true_iff] at hj
    exact ⟨j, hj.1, rfl, hj.2⟩
  · rintro ⟨j, h1, rfl, h2⟩
    exact ⟨j, by rw [List.mem_filter, List.mem_range, decide_eq_true_iff]; exact ⟨h1, h2⟩, rfl⟩
theorem idxs_ne {j : Nat} (hab : a ≠ b) (hne : idxs t a i ≠ []) : idxs t a i ≠ idxs t b j := fun e => by
  obtain ⟨k, r, hk⟩ := List.exists_cons_of_ne_nil hne
  have h1 : k ∈ idxs t a i := by rw [hk]; exact List.mem_cons_self ..
  have h2 : k ∈ idxs t b j := by rw [← e]; exact h1
  obtain ⟨u, _, rfl, hu⟩ := mem_idxs.1 h1
  obtain ⟨v, _, e2, hv⟩ := mem_idxs.1 h2
  have : u = v := by omega
  subst this
  rw [hu] at hv
  exact hab (Option.some.inj hv)
end
end Go.Proofs.YtfjihdlpohljbaaGreat
/- Contracts: rows are sorted by insertion. -/
noncomputable section
namespace Go.Proofs.YtfjihdlpohljbaaGreat
open Go Go.Den
set_option maxRecDepth 100000

theorem do_pred {P : Program} {l : EL} {h : AHeap} {x : Operand} {t t' : TypeId} {i : Nat} (hx : ev l x = some (.int .i64 ((i + 1 : Nat) : Int))) (hr : i < 9223372036854775807) : Does P l (.binOp .sub t x (.const (.int .i64 1)) t') h (.int .i64 (i : Int)) h := by
  have := do_sub (P := P) (l := l) (h := h) (t := t) (t' := t') (y := .const (.int .i64 1)) hx rfl (by omega)
  have e : ((i + 1 : Nat) : Int) - 1 = (i : Int) := by omega
  rw [e] at this
  exact this
end Go.Proofs.YtfjihdlpohljbaaGreat
