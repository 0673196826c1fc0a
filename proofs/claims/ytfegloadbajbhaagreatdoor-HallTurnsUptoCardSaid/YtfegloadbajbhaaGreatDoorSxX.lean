/- The symbolic layer: calls that turn one block; stores of whole elements. -/
import Derived.Test.YtfegloadbajbhaaGreatDoorSxP
import Derived.Test.YtfegloadbajbhaaGreatDoorSxY
import Derived.Test.YtfegloadbajbhaaGreatDoorElI
import Derived.Test.YtfegloadbajbhaaGreatDoorAwake
import Derived.Test.YtfegloadbajbhaaGreatDoorStC
import Derived.Test.YtfegloadbajbhaaGreatDoorSxM
import Derived.Test.YtfegloadbajbhaaGreatDoorFnL
import Derived.Test.YtfegloadbajbhaaGreatDoorSxU
noncomputable section
namespace Go.Den

/-- one old block was written, nothing else -/
structure Cg (H H1 : AHeap) (b : Nat) (x : ABlk) : Prop where
  puts : Puts H H1
  at_ : H1.get b = some x
  off : ∀ c, c ≠ b → H1.get c = H.get c
theorem Cg.refl {H : AHeap} {b : Nat} {x : ABlk} (hc : Closed H) (h : H.get b = some x) : Cg H H b x := ⟨Puts.refl hc, h, fun _ _ => rfl⟩
theorem Cg.put {H H1 : AHeap} {b : Nat} {x : ABlk} {cs : List Value} {z : Nat} {s ro : Bool} (h : Cg H H1 b x) (hb : own b = true) (hlt : b < H.fresh) (hf : cs.all (flatD 8) = true) : Cg H (H1.put b (.cells cs z s ro)) b (.cells cs z s ro) :=
  ⟨h.puts.put hb hlt hf, put_same hb, fun c hc => by rw [put_get hb, if_neg hc]; exact h.off c hc⟩
theorem Cg.trans {H H1 H2 : AHeap} {b : Nat} {x y : ABlk} (h : Cg H H1 b x) (k : Cg H1 H2 b y) (hy : ∃ cs z s ro, y = .cells cs z s ro ∧ cs.all (flatD 8) = true) : Cg H H2 b y := by
  refine ⟨⟨by rw [k.puts.next, h.puts.next], fun c hc => by rw [k.puts.odd c hc, h.puts.odd c hc], fun c h1 h2 => k.puts.ge c h1 (by rw [h.puts.fresh]; exact h2), fun c v h1 h2 hv => ?_, Nat.le_trans k.puts.low h.puts.low, fun c h1 h2 => ?_⟩, k.at_, fun c hc => by rw [k.off c hc, h.off c hc]⟩
  · by_cases e : c = b
    · subst e
      rw [k.at_] at hv
      cases hv
      exact .inr hy
    · rw [k.off c e] at hv
      exact h.puts.chg c v h1 h2 hv
  · rw [k.puts.lows c (by rw [h.puts.fresh]; exact h1) h2, h.puts.lows c h1 (Nat.lt_of_lt_of_le h2 k.puts.low)]

section
variable {P : Program} {H H1 : AHeap} {b : Nat}
end
section
variable {P : Program} {rd : Option Nat} {nt : Nat} {ops : Array Oper} {l : EL} {ds : List Nat} {K : St → Prop} {i : Nat} {r : List Oper} {o : Oper} {ty : TypeId} {pos : String} {af : Array Edge} {H : AHeap} {lo : Nat} {L : List (Option ABlk)}
  {Qn : St → Prop} {Qe : Nat → St → Prop} {Qr : St → Prop} {d : Nat} {c : Call} {f : FuncId} {args : List Value} {v : Value} {x : ABlk} {bk : Code}
/-- a call that turns a new block -/
theorem seq_callP {k : Nat} (hc : Closed H) (hlt : k < L.length) (ht : tgtE l c = some (f, args)) (hcall : Ret P f args (ext H lo L) v ((ext H lo L).put (nb H k) x)) (hd : Nat.blt d nt = true)
    (hk : SeqL P rd nt ops (o :: r) (i + 1) ⟨ofA ((d, v) :: l), ds, ext H lo (L.set k (some x))⟩ K) : SeqL P rd nt ops (⟨some d, .call c, ty, pos, af, none⟩ :: o :: r) i ⟨ofA l, ds, ext H lo L⟩ K :=
  seq_call ht hcall hd (seqL_to sub_refl (ext_put hc hlt x) (by simp) hk)
theorem seq_callPC {k : Nat} (hc : Closed H) (hlt : k < L.length) (ht : tgtE l c = some (f, args)) (hcall : Ret P f args (ext H lo L) v ((ext H lo L).put (nb H k) x)) (hd : Nat.blt d nt = true)
    (hk : CT P rd nt bk ⟨ofA ((d, v) :: l), ds, ext H lo (L.set k (some x))⟩ Qn Qe Qr) : SeqL P rd nt ops [⟨some d, .call c, ty, pos, af, none⟩] i ⟨ofA l, ds, ext H lo L⟩ (fun s' => CT P rd nt bk s' Qn Qe Qr) :=
  seq_call ht hcall hd (seq_nil (ct_to sub_refl (ext_put hc hlt x) hk))
variable {L0 : List (Option ABlk)} {ow : List Nat} {N : List ABlk}
theorem seq_putQ [PC P] {op : Op} {k : Nat} (hc : Closed H) (hlt : k < L.length) (hop : Does P l op (ext H lo L) v ((ext H lo L).put (nb H k) x))
    (hk : ∀ L' : List (Option ABlk), L'.length = L.length → (∀ j, j ≠ k → L'[j]? = L[j]?) → L'[k]? = some (some x) → SeqL P rd nt ops (o :: r) (i + 1) ⟨ofA l, ds, ext H lo L'⟩ K) : SeqL P rd nt ops (⟨none, op, ty, pos, af, none⟩ :: o :: r) i ⟨ofA l, ds, ext H lo L⟩ K :=
  seq_put hc hlt hop (hk _ List.length_set (fun _ hj => List.getElem?_set_ne (fun e => hj e.symm)) (List.getElem?_set_self hlt))
theorem seq_putQC [PC P] {op : Op} {k : Nat} (hc : Closed H) (hlt : k < L.length) (hop : Does P l op (ext H lo L) v ((ext H lo L).put (nb H k) x))
    (hk : ∀ L' : List (Option ABlk), L'.length = L.length → (∀ j, j ≠ k → L'[j]? = L[j]?) → L'[k]? = some (some x) → CT P rd nt bk ⟨ofA l, ds, ext H lo L'⟩ Qn Qe Qr) : SeqL P rd nt ops [⟨none, op, ty, pos, af, none⟩] i ⟨ofA l, ds, ext H lo L⟩ (fun s' => CT P rd nt bk s' Qn Qe Qr) :=
  seq_putC hc hlt hop (hk _ List.length_set (fun _ hj => List.getElem?_set_ne (fun e => hj e.symm)) (List.getElem?_set_self hlt))
end
section
end
end Go.Den
/- Plain law: teams with the same figures. -/
noncomputable section
namespace Go.Proofs.YtfegloadbajbhaaGreatDoor
open Go Go.Den
set_option maxRecDepth 100000

/-- the rows before i with the figures a, by their numbers -/
def idxs (t : List Rw) (a : Fg) (i : Nat) : List Int := ((List.range i).filter fun j => decide (t[j]?.map figL = some a)).map fun (j : Nat) => (j : Int)
section
variable {t : List Rw} {a b : Fg} {i : Nat}
theorem idxs_succ (h : i < t.length) : idxs t a (i + 1) = if figL t[i] = a then idxs t a i ++ [(i : Int)] else idxs t a i := by
  unfold idxs
  rw [List.range_succ, List.filter_append, List.map_append]
  have e : t[i]?.map figL = some (figL t[i]) := by rw [List.getElem?_eq_getElem h]; rfl
  by_cases p : figL t[i] = a
  · have hp : decide (t[i]?.map figL = some a) = true := decide_eq_true (by rw [e, p])
    rw [if_pos p, List.filter_cons, if_pos hp]; rfl
  · have hp : ¬ decide (t[i]?.map figL = some a) = true := by
      rw [decide_eq_true_iff, e]; exact fun h => p (Option.some.inj h)
    rw [if_neg p, List.filter_cons, if_neg hp]; simp
theorem mem_idxs {k : Int} : k ∈ idxs t a i ↔ ∃ j, j < i ∧ k = (j : Int) ∧ t[j]?.map figL = some a := by
  unfold idxs
  rw [List.mem_map]
  constructor
  · rintro ⟨j, hj, rfl⟩
    rw [List.mem_filter, List.mem_range, decide_eq_true_iff] at hj
    exact ⟨j, hj.1, rfl, hj.2⟩
  · rintro ⟨j, h1, rfl, h2⟩
    exact ⟨j, by rw [List.mem_filter, List.mem_range, decide_eq_true_iff]; exact ⟨h1, h2⟩, rfl⟩
theorem idxs_ne {j : Nat} (hab : a ≠ b) (hne : idxs t a i ≠ []) : idxs t a i ≠ idxs t b j := fun e => by
  obtain ⟨k, r, hk⟩ := List.exists_cons_of_ne_nil hne
  have h1 : k ∈ idxs t a i := by rw [hk]; exact List.mem_cons_self ..
  have h2 : k ∈ idxs t b j := by rw [← e]; exact h1
  obtain ⟨u, _, rfl, hu⟩ := mem_idxs.1 h1
  obtain ⟨v, _, e2, hv⟩ := mem_idxs.1 h2
  have : u = v := by omega
  subst this
  rw [hu] at hv
  exact hab (Option.some.inj hv)
end
end Go.Proofs.YtfegloadbajbhaaGreatDoor
/- HallSums: the contract over every input. -/
noncomputable section
namespace Go.Proofs.YtfegloadbajbhaaGreatDoor
open Go Go.Den Go.ChangeShapes Go.WideShapes Go.ChangeAt Go.RowKit Go.Deep
set_option maxRecDepth 10000

noncomputable instance : Inhabited Ra := ⟨⟨0, 0, 0⟩⟩
section
variable {H : Type} {enc : TypeId × Value → H} {W : World} {sp : Nat → Bool} {hd : Bool} {fuel : Nat}
end
theorem OpU.low {W : World} {α : Type} {f : α → List Value} {w : Nat} {v : Value} {o : Option BB} {p : Nat → Option Addr} {c : Nat} {l : List α} (h : OpU W f w v o p c l) (k : Nat) : LowS (p k) c l.length := ⟨h.cap, h.nil k, h.spot k⟩
end Go.Proofs.YtfegloadbajbhaaGreatDoor
/- The symbolic layer: lists in maps that grow; ranges over maps whose iterator lies anywhere. -/
noncomputable section
namespace Go.Den
section
variable {P : Program} {rd : Option Nat} {nt : Nat} {ops : Array Oper} {l : EL} {ds : List Nat} {K : St → Prop} {i : Nat} {r : List Oper} {o : Oper} {ty : TypeId} {pos : String} {af : Array Edge} {H : AHeap} {lo : Nat} {L : List (Option ABlk)} {L0 : List (Option ABlk)} {ow : List Nat} {N : List ABlk}
theorem sd_pushK [PC P] {d n c k : Nat} {op : Op} {y : ABlk} (hc : Closed H) (hfree : isFree op = false) (hser : seriesS ops i = true) (hlt : k < (L0 ++ N.map some).length)
    (hop : Does P l op (ext H lo (L0 ++ N.map some)) (.slice (some ⟨(ext H lo (L0 ++ N.map some)).fresh, 0, none⟩) n c) (((ext H lo (L0 ++ N.map some)).kill (nb H k)).add y)) (hd : Nat.blt d nt = true)
    (hk : SeqD P rd nt ops r (i + 1) ds ((d, .slice (some ⟨nb H (L0 ++ N.map some).length, 0, none⟩) n c) :: l) H lo ((L0 ++ N.map some).set k none ++ [some y]) [] [] K) : SeqD P rd nt ops (⟨some d, op, ty, pos, af, none⟩ :: r) i ds l H lo L0 ow N K := by
  rw [ext_fresh] at hop
  exact sd_ho fun ho => sd_seriesC (o := ⟨some d, op, ty, pos, af, none⟩) (v := .slice (some ⟨nb H (L0 ++ N.map some).length, 0, none⟩) n c) hfree hser (fun ad ha => opT_of ho rfl hop hd ha) (ext_push hc hlt y) rfl hc (Nat.le_refl _) (by rw [ext_fresh, ext_fresh]; simp only [nb, List.length_append, List.length_set]; omega) hk
theorem Lst.move {α : Type} {m k0 : Nat} {f : α → List Value} {lst : List α} {v : Value} {L' : List (Option ABlk)} (h : Lst H L m f k0 v lst) (hs : lst ≠ [] → ∀ j : Nat, L[j]? = some (some (ABlk.cells (lst.flatMap f) m true false)) → L'[j]? = some (some (ABlk.cells (lst.flatMap f) m true false))) : Lst H L' m f k0 v lst := by
  rcases h.out with ⟨e1, e2⟩ | ⟨hne, k, h1, e, h2⟩
  · exact ⟨.inl ⟨e1, e2⟩⟩
  · exact ⟨.inr ⟨hne, k, h1, e, hs hne k h2⟩⟩
end
end Go.Den
