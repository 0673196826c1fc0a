/- The symbolic layer: two lists, a list beside numbers are the result. -/
import Derived.Test.YtfegloadbajbhaaGreatDoorSxZ
import Derived.Test.YtfegloadbajbhaaGreatDoorSxY
import Derived.Test.YtfegloadbajbhaaGreatDoorPnH
import Derived.Test.YtfegloadbajbhaaGreatDoorTbN
noncomputable section
namespace Go.Den

section
variable {P : Program} {l : EL} {H : AHeap} {lo : Nat} {L : List (Option ABlk)} {α β : Type} {m m' K K' : Nat} {f : α → List Value} {g : β → List Value} {xs : List α} {ys : List β} {v w : Value}
end
/-! ### old blocks that are dropped -/
theorem Puts.kill {H H1 : AHeap} (h : Puts H H1) {b : Nat} (hb : own b = true) (hlt : b < H.fresh) : Puts H (H1.kill b) := by
  refine ⟨h.next, fun c hc => ?_, fun c h1 h2 => ?_, fun c y h1 h2 hy => ?_, Nat.le_trans (Nat.min_le_left _ _) h.low, fun c h1 h2 => ?_⟩
  · rw [kill_get hb, if_neg (by intro e; subst e; rw [own_iff] at hb; omega)]; exact h.odd c hc
  · rw [kill_get hb, if_neg (by omega)]; exact h.ge c h1 h2
  · rw [kill_get hb] at hy
    split at hy
    · cases hy
    · exact h.chg c y h1 h2 hy
  · have h2' : c < min H1.low b := h2
    rw [kill_get hb, if_neg (by omega)]
    exact h.lows c h1 (by omega)
section
variable {P : Program} {l : EL} {H H1 : AHeap} {lo : Nat} {L : List (Option ABlk)}
/-- the end of a function that has turned or dropped blocks of its caller, and leaves a new block -/
theorem fin_putsL {Q : Value → AHeap → Prop} {rs : Array ResultVar} {vs : List Value} {v : Value} {k : Nat} {cs : List Value} {z : Nat} {s ro : Bool} (hp : Puts H H1) (hr : resE l rs.toList = some vs) (hk : L[k]? = some (some (.cells cs z s ro))) (hf : cs.all (flatD 8) = true)
    (hv : renV (renOf H [nb H k]) 8 (packA vs) = some v) (hq : Q v (H1.add (.cells cs z s ro))) : Fin P rs H Q ⟨ofA l, [], ext H1 lo L⟩ := by
  have hc1 := hp.closed
  have hnb : nb H1 k = nb H k := by simp only [nb, hp.next]
  refine ⟨⟨_, vs, v, _, rfl, resE_A hr, ?_, hq⟩⟩
  have r := ren_ext (H1 := ext H1 lo L) hc1 (fun _ _ h => ext_get_old hc1 h) (l := [nb H1 k]) (ys := [.cells cs z s ro]) (by simp) (by simpa using ⟨own_iff.1 (nb_own k), nb_ge k⟩) rfl (fun i b y hb hy => by
    cases i with
    | zero =>
      simp only [List.getElem?_cons_zero, Option.some.injEq] at hb hy
      subst hb; subst hy
      exact ⟨_, ext_get_new hk, renB_flat hf⟩
    | succ i => simp at hb)
  have e : renOf H1 [nb H1 k] = renOf H [nb H k] := by
    funext b
    simp only [renOf, hp.fresh, hnb]
  have hfr := hp.fresh
  refine tidy_of (H0 := H1) (ys := [.cells cs z s ro]) (l := [nb H k]) (ren := renOf H [nb H k]) ?_ hv
  rw [e, hnb] at r
  refine ⟨fun b h => r.old b (by rw [hfr]; exact h), fun b c h1 h2 => by rw [← hfr]; exact r.nw b c (by rw [hfr]; exact h1) h2, fun i b h => by rw [← hfr]; exact r.mem i b h, rfl, r.blk, hp.next, hp.odd, hp.ge, fun b y h1 h2 h3 => ?_, hp.low, hp.lows⟩
  have hg := ext_get_old (lo := lo) (L := L) hc1 h3
  rcases hp.chg b y h1 h2 h3 with h | ⟨cs', z', s', ro', rfl, hf'⟩
  · exact .inl ⟨h, hg⟩
  · exact .inr ⟨_, hg, renB_flat hf'⟩
end
section
variable {P : Program} {rd : Option Nat} {nt : Nat} {ops : Array Oper} {l : EL} {ds : List Nat} {K : St → Prop} {i : Nat} {r : List Oper} {o : Oper} {ty : TypeId} {pos : String} {af : Array Edge} {H : AHeap} {lo : Nat} {L : List (Option ABlk)}
  {Qn : St → Prop} {Qe : Nat → St → Prop} {Qr : St → Prop} {bk : Code}
/-- a call whose heap is told another way -/
theorem seq_callH {d : Nat} {c : Call} {f : FuncId} {args : List Value} {v : Value} {h h' h2 : AHeap} (ht : tgtE l c = some (f, args)) (hcall : Ret P f args h v h') (q : HQ h' h2) (hd : Nat.blt d nt = true)
    (hk : SeqL P rd nt ops (o :: r) (i + 1) ⟨ofA ((d, v) :: l), ds, h2⟩ K) : SeqL P rd nt ops (⟨some d, .call c, ty, pos, af, none⟩ :: o :: r) i ⟨ofA l, ds, h⟩ K :=
  seq_call ht hcall hd (seqL_to sub_refl q (by simp) hk)
variable {L0 : List (Option ABlk)} {ow : List Nat} {N : List ABlk}
/-- the same in a drawn region, in series -/
theorem sd_callH {d : Nat} {c : Call} {f : FuncId} {args : List Value} {v : Value} {h' : AHeap} {L' : List (Option ABlk)} (hser : seriesS ops i = true) (hc : Closed H) (ht : tgtE l c = some (f, args)) (hcall : Ret P f args (ext H lo (L0 ++ N.map some)) v h') (q : HQ h' (ext H lo L')) (hle : (L0 ++ N.map some).length ≤ L'.length) (hd : Nat.blt d nt = true)
    (hk : SeqD P rd nt ops r (i + 1) ds ((d, v) :: l) H lo L' [] [] K) : SeqD P rd nt ops (⟨some d, .call c, ty, pos, af, none⟩ :: r) i ds l H lo L0 ow N K :=
  sd_ho fun ho => sd_seriesC (o := ⟨some d, .call c, ty, pos, af, none⟩) (v := v) rfl hser (fun _ ha => opT_ofC ho rfl ht hcall hd ha) q rfl hc (Nat.le_refl _) (by rw [ext_fresh, ext_fresh]; simp only [nb]; omega) hk
/-- in a drawn region, in series: a new block takes the place of an old one -/
theorem sd_pushO [PC P] {d n c : Nat} {op : Op} {b : Nat} {x : ABlk} (hfree : isFree op = false) (hser : seriesS ops i = true) (hc : Closed H) (hb : own b = true) (hlt : b < H.fresh)
    (hop : Does P l op (ext H lo (L0 ++ N.map some)) (.slice (some ⟨(ext H lo (L0 ++ N.map some)).fresh, 0, none⟩) n c) (((ext H lo (L0 ++ N.map some)).kill b).add x)) (hd : Nat.blt d nt = true)
    (hk : SeqD P rd nt ops r (i + 1) ds ((d, .slice (some ⟨nb H (L0 ++ N.map some).length, 0, none⟩) n c) :: l) (H.kill b) (min lo b) (L0 ++ N.map some ++ [some x]) [] [] K) : SeqD P rd nt ops (⟨some d, op, ty, pos, af, none⟩ :: r) i ds l H lo L0 ow N K := by
  rw [ext_fresh] at hop
  refine sd_ho fun ho => sd_seriesC (o := ⟨some d, op, ty, pos, af, none⟩) (v := .slice (some ⟨nb H (L0 ++ N.map some).length, 0, none⟩) n c) hfree hser (fun ad ha => opT_of ho rfl hop hd ha) (ext_push_old hb hlt hc x) rfl (closed_kill hc hb) ?_ ?_ hk
  · show min (min lo b) H.fresh ≤ min lo H.fresh
    omega
  · rw [ext_fresh, ext_fresh]
    have : nb (H.kill b) (L0 ++ N.map some ++ [some x]).length = nb H (L0 ++ N.map some ++ [some x]).length := rfl
    rw [this]
    simp only [nb, List.length_append]; omega
/-- in a drawn region, in series: a new list -/
theorem sd_newSS [PC P] {d n c : Nat} {op : Op} {x : ABlk} (hfree : isFree op = false) (hser : seriesS ops i = true) (hc : Closed H)
    (hop : Does P l op (ext H lo (L0 ++ N.map some)) (.slice (some ⟨(ext H lo (L0 ++ N.map some)).fresh, 0, none⟩) n c) ((ext H lo (L0 ++ N.map some)).add x)) (hd : Nat.blt d nt = true)
    (hk : SeqD P rd nt ops r (i + 1) ds ((d, .slice (some ⟨nb H (L0 ++ N.map some).length, 0, none⟩) n c) :: l) H lo (L0 ++ N.map some ++ [some x]) [] [] K) : SeqD P rd nt ops (⟨some d, op, ty, pos, af, none⟩ :: r) i ds l H lo L0 ow N K := by
  rw [ext_fresh, ext_add] at hop
  exact sd_ho fun ho => sd_seriesC (o := ⟨some d, op, ty, pos, af, none⟩) (v := .slice (some ⟨nb H (L0 ++ N.map some).length, 0, none⟩) n c) hfree hser (fun ad ha => opT_of ho rfl hop hd ha) (.refl _) rfl hc (Nat.le_refl _) (by rw [ext_fresh, ext_fresh]; simp only [nb, List.length_append]; omega) hk
end
end Go.Den
