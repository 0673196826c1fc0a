/- The symbolic layer: two lists, a list beside numbers are the result. -/
import Derived.Test.YtfjihdlpohljbaaGreatSxZ
import Derived.Test.YtfjihdlpohljbaaGreatSxY
import Derived.Test.YtfjihdlpohljbaaGreatPnH
import Derived.Test.YtfjihdlpohljbaaGreatTcH
noncomputable section
namespace Go.Den

section
variable {P : Program} {l : EL} {H : AHeap} {lo : Nat} {L : List (Option ABlk)} {α β : Type} {m m' K K' : Nat} {f : α → List Value} {g : β → List Value} {xs : List α} {ys : List β} {v w : Value}
theorem lstH_fresh_nil : (lstH H m f ([] : List α)).fresh = H.fresh := rfl
theorem lstH_fresh_cons {x : α} {xs : List α} : (lstH H m f (x :: xs)).fresh = H.fresh + 2 := by simp only [lstH, AHeap.add, AHeap.fresh]; omega
/-- two lists are the result -/
theorem fin_lists {Q : Value → AHeap → Prop} {rs : Array ResultVar} (hc : Closed H) (hv : LstI H L m f K v xs) (hw : LstI H L m' g K' w ys) (hne : xs ≠ [] → ys ≠ [] → K ≠ K') (hr : resE l rs.toList = some [v, w]) (hf : ∀ x, (f x).all (flatD 8) = true) (hg : ∀ x, (g x).all (flatD 8) = true)
    (hq : Q (.tuple ⟨[lstV H.fresh xs, lstV (lstH H m f xs).fresh ys]⟩) (lstH (lstH H m f xs) m' g ys)) : Fin P rs H Q ⟨ofA l, [], ext H lo L⟩ := by
  cases xs with
  | nil =>
    rcases hv.out with ⟨_, rfl⟩ | ⟨h, _⟩
    · cases ys with
      | nil =>
        rcases hw.out with ⟨_, rfl⟩ | ⟨h, _⟩
        · exact fin_flat hc hr rfl hq
        · exact absurd rfl h
      | cons y ys =>
        obtain ⟨rfl, hL⟩ := hw.at_ (by simp)
        refine fin_one (k := K') hc hr hL (flat_all hg _) ?_ hq
        simp [packA, renV, renL, lstV, lstP, renOf_one (H := H) ⟨own_iff.1 (nb_own K'), nb_ge K'⟩, lstH_fresh_nil]
    · exact absurd rfl h
  | cons x xs =>
    obtain ⟨rfl, hL1⟩ := hv.at_ (by simp)
    cases ys with
    | nil =>
      rcases hw.out with ⟨_, rfl⟩ | ⟨h, _⟩
      · refine fin_one (k := K) hc hr hL1 (flat_all hf _) ?_ hq
        simp [packA, renV, renL, lstV, lstP, renOf_one (H := H) ⟨own_iff.1 (nb_own K), nb_ge K⟩]
      · exact absurd rfl h
    | cons y ys =>
      obtain ⟨rfl, hL2⟩ := hw.at_ (by simp)
      have hKK := hne (by simp) (by simp)
      obtain ⟨r1, r2⟩ := renOf_two (H := H) ⟨own_iff.1 (nb_own K), nb_ge K⟩ ⟨own_iff.1 (nb_own K'), nb_ge K'⟩ (fun e => hKK (nb_inj.1 e))
      refine fin_two (j := K) (k := K') hc hr hL1 hL2 hKK (flat_all hf _) (flat_all hg _) ?_ hq
      simp [packA, renV, renL, lstV, lstP, r1, r2, lstH_fresh_cons]
end
/-! ### old blocks that are dropped -/
theorem Puts.kill {H H1 : AHeap} (h : Puts H H1) {b : Nat} (hb : own b = true) (hlt : b < H.fresh) : Puts H (H1.kill b) := by
  refine ⟨h.next, fun c hc => ?_, fun c h1 h2 => ?_, fun c y h1 h2 hy => ?_, Nat.le_trans (Nat.min_le_left _ _) h.low, fun c h1 h2 => ?_⟩
  · rw [kill_get hb, if_neg (by intro e; subst e; rw [own_iff] at hb; omega)]; exact h.odd c hc
  · rw [kill_get hb, if_neg (by omega)]; exact h.ge c h1 h2
  · rw [kill_get hb] at hy
    split at hy
    · cases hy
    · exact h.chg c y h1 h2 hy
  · have h2' : c < min H1.low b := h2
    rw [kill_get hb, if_neg (by omega)]
    exact h.lows c h1 (by omega)
section
variable {P : Program} {l : EL} {H H1 : AHeap} {lo : Nat} {L : List (Option ABlk)}
/-- the end of a function that has turned or dropped blocks of its caller, and leaves a new block -/
theorem fin_putsL {Q : Value → AHeap → Prop} {rs : Array ResultVar} {vs : List Value} {v : Value} {k : Nat} {cs : List Value} {z : Nat} {s ro : Bool} (hp : Puts H H1) (hr : resE l rs.toList = some vs) (hk : L[k]? = some (some (.cells cs z s ro))) (hf : cs.all (flatD 8) = true)
    (hv : renV (renOf H [nb H k]) 8 (packA vs) = some v) (hq : Q v (H1.add (.cells cs z s ro))) : Fin P rs H Q ⟨ofA l, [], ext H1 lo L⟩ := by
  have hc1 := hp.closed
  have hnb : nb H1 k = nb H k := by simp only [nb, hp.next]
  refine ⟨⟨_, vs, v, _, rfl, resE_A hr, ?_, hq⟩⟩
  have r := ren_ext (H1 := ext H1 lo L) hc1 (fun _ _ h => ext_get_old hc1 h) (l := [nb H1 k]) (ys := [.cells cs z s ro]) (by simp) (by simpa using ⟨own_iff.1 (nb_own k), nb_ge k⟩) rfl (fun i b y hb hy => by
    cases i with
    | zero =>
      simp only [List.getElem?_cons_zero, Option.some.injEq] at hb hy
      subst hb; subst hy
      exact ⟨_, ext_get_new hk, renB_flat hf⟩
    | succ i => simp at hb)
  have e : renOf H1 [nb H1 k] = renOf H [nb H k] := by
    funext b
    simp only [renOf, hp.fresh, hnb]
  have hfr := hp.fresh
  refine tidy_of (H0 := H1) (ys := [.cells cs z s ro]) (l := [nb H k]) (ren := renOf H [nb H k]) ?_ hv
  rw [e, hnb] at r
  refine ⟨fun b h => r.old b (by rw [hfr]; exact h), fun b c h1 h2 => by rw [← hfr]; exact r.nw b c (by rw [hfr]; exact h1) h2, fun i b h => by rw [← hfr]; exact r.mem i b h, rfl, r.blk, hp.next, hp.odd, hp.ge, fun b y h1 h2 h3 => ?_, hp.low, hp.lows⟩
  have hg := ext_get_old (lo := lo) (L := L) hc1 h3
  rcases hp.chg b y h1 h2 h3 with h | ⟨cs', z', s', ro', rfl, hf'⟩
  · exact .inl ⟨h, hg⟩
  · exact .inr ⟨_, hg, renB_flat hf'⟩
end
section
variable {P : Program} {rd : Option Nat} {nt : Nat} {ops : Array Oper} {l : EL} {ds : List Nat} {K : St → Prop} {i : Nat} {r : List Oper} {o : Oper} {ty : TypeId} {pos : String} {af : Array Edge} {H : AHeap} {lo : Nat} {L : List (Option ABlk)}
  {Qn : St → Prop} {Qe : Nat → St → Prop} {Qr : St → Prop} {bk : Code}
/-- a call whose heap is told another way -/
theorem seq_callH {d : Nat} {c : Call} {f : FuncId} {args : List Value} {v : Value} {h h' h2 : AHeap} (ht : tgtE l c = some (f, args)) (hcall : Ret P f args h v h') (q : HQ h' h2) (hd : Nat.blt d nt = true)
    (hk : SeqL P rd nt ops (o :: r) (i + 1) ⟨ofA ((d, v) :: l), ds, h2⟩ K) : SeqL P rd nt ops (⟨some d, .call c, ty, pos, af, none⟩ :: o :: r) i ⟨ofA l, ds, h⟩ K :=
  seq_call ht hcall hd (seqL_to sub_refl q (by simp) hk)
variable {L0 : List (Option ABlk)} {ow : List Nat} {N : List ABlk}
/-- in a drawn region, in series: a new block takes the place of an old one -/
theorem sd_pushO [PC P] {d n c : Nat} {op : Op} {b : Nat} {x : ABlk} (hfree : isFree op = false) (hser : seriesS ops i = true) (hc : Closed H) (hb : own b = true) (hlt : b < H.fresh)
    (hop : Does P l op (ext H lo (L0 ++ N.map some)) (.slice (some ⟨(ext H lo (L0 ++ N.map some)).fresh, 0, none⟩) n c) (((ext H lo (L0 ++ N.map some)).kill b).add x)) (hd : Nat.blt d nt = true)
    (hk : SeqD P rd nt ops r (i + 1) ds ((d, .slice (some ⟨nb H (L0 ++ N.map some).length, 0, none⟩) n c) :: l) (H.kill b) (min lo b) (L0 ++ N.map some ++ [some x]) [] [] K) : SeqD P rd nt ops (⟨some d, op, ty, pos, af, none⟩ :: r) i ds l H lo L0 ow N K := by
  rw [ext_fresh] at hop
  refine sd_ho fun ho => sd_seriesC (o := ⟨some d, op, ty, pos, af, none⟩) (v := .slice (some ⟨nb H (L0 ++ N.map some).length, 0, none⟩) n c) hfree hser (fun ad ha => opT_of ho rfl hop hd ha) (ext_push_old hb hlt hc x) rfl (closed_kill hc hb) ?_ ?_ hk
  · show min (min lo b) H.fresh ≤ min lo H.fresh
    omega
  · rw [ext_fresh, ext_fresh]
    have : nb (H.kill b) (L0 ++ N.map some ++ [some x]).length = nb H (L0 ++ N.map some ++ [some x]).length := rfl
    rw [this]
    simp only [nb, List.length_append]; omega
/-- in a drawn region, in series: a new list -/
theorem sd_newSS [PC P] {d n c : Nat} {op : Op} {x : ABlk} (hfree : isFree op = false) (hser : seriesS ops i = true) (hc : Closed H)
    (hop : Does P l op (ext H lo (L0 ++ N.map some)) (.slice (some ⟨(ext H lo (L0 ++ N.map some)).fresh, 0, none⟩) n c) ((ext H lo (L0 ++ N.map some)).add x)) (hd : Nat.blt d nt = true)
    (hk : SeqD P rd nt ops r (i + 1) ds ((d, .slice (some ⟨nb H (L0 ++ N.map some).length, 0, none⟩) n c) :: l) H lo (L0 ++ N.map some ++ [some x]) [] [] K) : SeqD P rd nt ops (⟨some d, op, ty, pos, af, none⟩ :: r) i ds l H lo L0 ow N K := by
  rw [ext_fresh, ext_add] at hop
  exact sd_ho fun ho => sd_seriesC (o := ⟨some d, op, ty, pos, af, none⟩) (v := .slice (some ⟨nb H (L0 ++ N.map some).length, 0, none⟩) n c) hfree hser (fun ad ha => opT_of ho rfl hop hd ha) (.refl _) rfl hc (Nat.le_refl _) (by rw [ext_fresh, ext_fresh]; simp only [nb, List.length_append]; omega) hk
end
end Go.Den
