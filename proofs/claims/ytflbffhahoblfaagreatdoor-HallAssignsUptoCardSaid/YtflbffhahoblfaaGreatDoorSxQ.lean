/- The symbolic layer: calls that turn one block; stores of whole elements. -/
import Derived.Test.YtflbffhahoblfaaGreatDoorSxP
import Derived.Test.YtflbffhahoblfaaGreatDoorSxY
noncomputable section
namespace Go.Den
structure Cg (H H1 : AHeap) (b : Nat) (x : ABlk) : Prop where
  puts : Puts H H1
  at_ : H1.get b = some x
  off : ∀ c, c ≠ b → H1.get c = H.get c
theorem Cg.refl {H : AHeap} {b : Nat} {x : ABlk} (hc : Closed H) (h : H.get b = some x) : Cg H H b x := ⟨Puts.refl hc, h, fun _ _ => rfl⟩
theorem Cg.put {H H1 : AHeap} {b : Nat} {x : ABlk} {cs : List Value} {z : Nat} {s ro : Bool} (h : Cg H H1 b x) (hb : own b = true) (hlt : b < H.fresh) (hf : cs.all (flatD 8) = true) : Cg H (H1.put b (.cells cs z s ro)) b (.cells cs z s ro) :=
  ⟨h.puts.put hb hlt hf, put_same hb, fun c hc => by rw [put_get hb, if_neg hc]; exact h.off c hc⟩
theorem Cg.trans {H H1 H2 : AHeap} {b : Nat} {x y : ABlk} (h : Cg H H1 b x) (k : Cg H1 H2 b y) (hy : ∃ cs z s ro, y = .cells cs z s ro ∧ cs.all (flatD 8) = true) : Cg H H2 b y := by
  refine ⟨⟨by rw [k.puts.next, h.puts.next], fun c hc => by rw [k.puts.odd c hc, h.puts.odd c hc], fun c h1 h2 => k.puts.ge c h1 (by rw [h.puts.fresh]; exact h2), fun c v h1 h2 hv => ?_, Nat.le_trans k.puts.low h.puts.low, fun c h1 h2 => ?_⟩, k.at_, fun c hc => by rw [k.off c hc, h.off c hc]⟩
  · by_cases e : c = b
    · subst e
      rw [k.at_] at hv
      cases hv
      exact .inr hy
    · rw [k.off c e] at hv
      exact h.puts.chg c v h1 h2 hv
  · rw [k.puts.lows c (by rw [h.puts.fresh]; exact h1) h2, h.puts.lows c h1 (Nat.lt_of_lt_of_le h2 k.puts.low)]
section
variable {P : Program} {H H1 : AHeap} {b : Nat}
theorem tidy_cg {x : ABlk} {v : Value} {L : List (Option ABlk)} {lo : Nat} (hb : own b = true) (hlt : b < H.fresh) (hx : ∃ cs z s ro, x = .cells cs z s ro ∧ cs.all (flatD 8) = true) (hp : Cg H H1 b x) (hv : flatD 8 v = true) : Tidy H v (ext H1 lo L) v (H.put b x) := by
  have hc1 := hp.puts.closed
  refine tidy_of (H0 := H.put b x) (ys := []) (l := []) (ren := renOf H []) ?_ (renV_flat 8 hv)
  refine ⟨fun b h => by simp only [renOf, if_pos h], fun b c h1 h2 => ?_, fun k b h => by simp at h, rfl, fun k b y h => by simp at h, rfl, fun c hc => ?_, fun c h1 h2 => ?_, fun c y h1 h2 h3 => ?_, Nat.min_le_left _ _, fun c h1 h2 => ?_⟩
  · simp only [renOf, if_neg h1] at h2
    simp at h2
  · rw [put_get hb, if_neg (by intro e; subst e; rw [own_iff] at hb; omega)]
  · have hne : c ≠ b := by omega
    rw [put_get hb, if_neg hne, ← hp.off c hne]
    exact hp.puts.ge c h1 h2
  · rw [put_get hb] at h3
    by_cases e : c = b
    · rw [if_pos e] at h3
      cases h3
      obtain ⟨cs, z, s, ro, rfl, hf⟩ := hx
      subst e
      exact .inr ⟨_, ext_get_old hc1 hp.at_, renB_flat hf⟩
    · rw [if_neg e] at h3
      exact .inl ⟨h3, ext_get_old hc1 (by rw [hp.off c e]; exact h3)⟩
  · have h2' : c < min H.low b := h2
    rw [put_get hb, if_neg (by omega)]
theorem fin_cg {x : ABlk} {Q : Value → AHeap → Prop} {rs : Array ResultVar} {l : EL} {L : List (Option ABlk)} {lo : Nat} {vs : List Value} (hb : own b = true) (hlt : b < H.fresh) (hx : ∃ cs z s ro, x = .cells cs z s ro ∧ cs.all (flatD 8) = true) (hp : Cg H H1 b x)
    (hr : resE l rs.toList = some vs) (hv : flatD 8 (packA vs) = true) (hq : Q (packA vs) (H.put b x)) : Fin P rs H Q ⟨ofA l, [], ext H1 lo L⟩ :=
  ⟨⟨_, vs, packA vs, H.put b x, rfl, resE_A hr, tidy_cg hb hlt hx hp hv, hq⟩⟩
theorem fin_cgP {x : ABlk} {Q : Value → AHeap → Prop} {rs : Array ResultVar} {l : EL} {L : List (Option ABlk)} {lo : Nat} {vs : List Value} (hc : Closed H) (hb : own b = true) (hlt : b < H.fresh) (hx : ∃ cs z s ro, x = .cells cs z s ro ∧ cs.all (flatD 8) = true) (hg : ∃ y, H.get b = some y)
    (hr : resE l rs.toList = some vs) (hv : flatD 8 (packA vs) = true) (hq : Q (packA vs) (H.put b x)) : Fin P rs H Q ⟨ofA l, [], (ext H lo L).put b x⟩ := by
  obtain ⟨y, hy⟩ := hg
  obtain ⟨cs, z, s, ro, rfl, hf⟩ := hx
  exact ⟨⟨_, vs, packA vs, _, rfl, resE_A hr, (tidy_cg (lo := min lo b) (L := L) hb hlt ⟨_, _, _, _, rfl, hf⟩ ((Cg.refl hc hy).put hb hlt hf) hv).to (ext_put_old hb hlt hc _), hq⟩⟩
end
section
variable {P : Program} {rd : Option Nat} {nt : Nat} {ops : Array Oper} {l : EL} {ds : List Nat} {K : St → Prop} {i : Nat} {r : List Oper} {o : Oper} {ty : TypeId} {pos : String} {af : Array Edge} {H : AHeap} {lo : Nat} {L : List (Option ABlk)}
  {Qn : St → Prop} {Qe : Nat → St → Prop} {Qr : St → Prop} {d : Nat} {c : Call} {f : FuncId} {args : List Value} {v : Value} {x : ABlk} {bk : Code}
theorem seq_callP {k : Nat} (hc : Closed H) (hlt : k < L.length) (ht : tgtE l c = some (f, args)) (hcall : Ret P f args (ext H lo L) v ((ext H lo L).put (nb H k) x)) (hd : Nat.blt d nt = true)
    (hk : SeqL P rd nt ops (o :: r) (i + 1) ⟨ofA ((d, v) :: l), ds, ext H lo (L.set k (some x))⟩ K) : SeqL P rd nt ops (⟨some d, .call c, ty, pos, af, none⟩ :: o :: r) i ⟨ofA l, ds, ext H lo L⟩ K :=
  seq_call ht hcall hd (seqL_to sub_refl (ext_put hc hlt x) (by simp) hk)
theorem seq_callPC {k : Nat} (hc : Closed H) (hlt : k < L.length) (ht : tgtE l c = some (f, args)) (hcall : Ret P f args (ext H lo L) v ((ext H lo L).put (nb H k) x)) (hd : Nat.blt d nt = true)
    (hk : CT P rd nt bk ⟨ofA ((d, v) :: l), ds, ext H lo (L.set k (some x))⟩ Qn Qe Qr) : SeqL P rd nt ops [⟨some d, .call c, ty, pos, af, none⟩] i ⟨ofA l, ds, ext H lo L⟩ (fun s' => CT P rd nt bk s' Qn Qe Qr) :=
  seq_call ht hcall hd (seq_nil (ct_to sub_refl (ext_put hc hlt x) hk))
theorem seq_callPOC {b : Nat} (hc : Closed H) (hb : own b = true) (hlt : b < H.fresh) (ht : tgtE l c = some (f, args)) (hcall : Ret P f args (ext H lo L) v ((ext H lo L).put b x)) (hd : Nat.blt d nt = true)
    (hk : CT P rd nt bk ⟨ofA ((d, v) :: l), ds, ext (H.put b x) (min lo b) L⟩ Qn Qe Qr) : SeqL P rd nt ops [⟨some d, .call c, ty, pos, af, none⟩] i ⟨ofA l, ds, ext H lo L⟩ (fun s' => CT P rd nt bk s' Qn Qe Qr) :=
  seq_call ht hcall hd (seq_nil (ct_to sub_refl (ext_put_old hb hlt hc x) hk))
variable {L0 : List (Option ABlk)} {ow : List Nat} {N : List ABlk}
theorem sd_putQ [PC P] {op : Op} {k : Nat} (hfree : isFree op = false) (hser : seriesS ops i = true) (hc : Closed H) (hlt : k < L0.length) (hop : Does P l op (ext H lo L0) v ((ext H lo L0).put (nb H k) x))
    (hk : ∀ L' : List (Option ABlk), L'.length = L0.length → (∀ j, j ≠ k → L'[j]? = L0[j]?) → L'[k]? = some (some x) → SeqD P rd nt ops r (i + 1) ds l H lo L' [] [] K) : SeqD P rd nt ops (⟨none, op, ty, pos, af, none⟩ :: r) i ds l H lo L0 [] [] K := by
  have e1 : L0 ++ ([] : List ABlk).map some = L0 := by simp
  exact sd_put hfree hser hc (by rw [e1]; exact hlt) (by rw [e1]; exact hop) (by rw [e1]; exact hk _ List.length_set (fun _ hj => List.getElem?_set_ne (fun e => hj e.symm)) (List.getElem?_set_self hlt))
theorem seq_putQ [PC P] {op : Op} {k : Nat} (hc : Closed H) (hlt : k < L.length) (hop : Does P l op (ext H lo L) v ((ext H lo L).put (nb H k) x))
    (hk : ∀ L' : List (Option ABlk), L'.length = L.length → (∀ j, j ≠ k → L'[j]? = L[j]?) → L'[k]? = some (some x) → SeqL P rd nt ops (o :: r) (i + 1) ⟨ofA l, ds, ext H lo L'⟩ K) : SeqL P rd nt ops (⟨none, op, ty, pos, af, none⟩ :: o :: r) i ⟨ofA l, ds, ext H lo L⟩ K :=
  seq_put hc hlt hop (hk _ List.length_set (fun _ hj => List.getElem?_set_ne (fun e => hj e.symm)) (List.getElem?_set_self hlt))
theorem seq_putQC [PC P] {op : Op} {k : Nat} (hc : Closed H) (hlt : k < L.length) (hop : Does P l op (ext H lo L) v ((ext H lo L).put (nb H k) x))
    (hk : ∀ L' : List (Option ABlk), L'.length = L.length → (∀ j, j ≠ k → L'[j]? = L[j]?) → L'[k]? = some (some x) → CT P rd nt bk ⟨ofA l, ds, ext H lo L'⟩ Qn Qe Qr) : SeqL P rd nt ops [⟨none, op, ty, pos, af, none⟩] i ⟨ofA l, ds, ext H lo L⟩ (fun s' => CT P rd nt bk s' Qn Qe Qr) :=
  seq_putC hc hlt hop (hk _ List.length_set (fun _ hj => List.getElem?_set_ne (fun e => hj e.symm)) (List.getElem?_set_self hlt))
theorem sd_putO0 [PC P] {op : Op} {b : Nat} (hfree : isFree op = false) (hser : seriesS ops i = true) (hc : Closed H) (hb : own b = true) (hlt : b < H.fresh)
    (hop : Does P l op (ext H lo L0) v ((ext H lo L0).put b x)) (hk : SeqD P rd nt ops r (i + 1) ds l (H.put b x) (min lo b) L0 [] [] K) :
    SeqD P rd nt ops (⟨none, op, ty, pos, af, none⟩ :: r) i ds l H lo L0 [] [] K := by
  have e1 : L0 ++ ([] : List ABlk).map some = L0 := by simp
  refine sd_ho fun ho => sd_seriesC (v := v) (h' := (ext H lo L0).put b x) (H' := H.put b x) (lo' := min lo b) (L' := L0) hfree hser (fun ad ha => ?_) (ext_put_old hb hlt hc x) rfl (closed_put hc hb hlt) ?_ ?_ hk
  · rw [e1]
    refine opT_plain PC.ok ho (s := ⟨ofA (fl ad l), ds, _⟩) rfl (does_fl hop ha) fun u H' hm => ?_
    rw [List.mem_singleton] at hm
    cases hm
    exact ⟨_, rfl, rfl⟩
  · show min (min lo b) H.fresh ≤ min lo H.fresh
    omega
  · rw [e1, ext_fresh, ext_fresh]; exact Nat.le_refl _
end
section
end
end Go.Den
