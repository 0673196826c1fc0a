/- The symbolic layer: two lists, a list beside numbers are the result. -/
import Derived.Test.YtfjihdlpohljbaaGreatPrL
import Derived.Test.YtfjihdlpohljbaaGreatSxY
import Derived.Test.YtfjihdlpohljbaaGreatSxU
import Derived.Test.YtfjihdlpohljbaaGreatSxR
import Derived.Test.YtfjihdlpohljbaaGreatSxQ
noncomputable section
namespace Go.Den
section
variable {P : Program} {l : EL} {H : AHeap} {lo : Nat} {L : List (Option ABlk)} {α β : Type} {m m' K K' : Nat} {f : α → List Value} {g : β → List Value} {xs : List α} {ys : List β} {v w : Value}
theorem lstH_fresh_nil : (lstH H m f ([] : List α)).fresh = H.fresh := rfl
theorem lstH_fresh_cons {x : α} {xs : List α} : (lstH H m f (x :: xs)).fresh = H.fresh + 2 := by simp only [lstH, AHeap.add, AHeap.fresh]; omega
theorem fin_lists {Q : Value → AHeap → Prop} {rs : Array ResultVar} (hc : Closed H) (hv : LstI H L m f K v xs) (hw : LstI H L m' g K' w ys) (hne : xs ≠ [] → ys ≠ [] → K ≠ K') (hr : resE l rs.toList = some [v, w]) (hf : ∀ x, (f x).all (flatD 8) = true) (hg : ∀ x, (g x).all (flatD 8) = true)
    (hq : Q (.tuple ⟨[lstV H.fresh xs, lstV (lstH H m f xs).fresh ys]⟩) (lstH (lstH H m f xs) m' g ys)) : Fin P rs H Q ⟨ofA l, [], ext H lo L⟩ := by
  cases xs with
  | nil =>
    rcases hv.out with ⟨_, rfl⟩ | ⟨h, _⟩
    · cases ys with
      | nil =>
        rcases hw.out with ⟨_, rfl⟩ | ⟨h, _⟩
        · exact fin_flat hc hr rfl hq
        · exact absurd rfl h
      | cons y ys =>
        obtain ⟨rfl, hL⟩ := hw.at_ (by simp)
        refine fin_one (k := K') hc hr hL (flat_all hg _) ?_ hq
        simp [packA, renV, renL, lstV, lstP, renOf_one (H := H) ⟨own_iff.1 (nb_own K'), nb_ge K'⟩, lstH_fresh_nil]
    · exact absurd rfl h
  | cons x xs =>
    obtain ⟨rfl, hL1⟩ := hv.at_ (by simp)
    cases ys with
    | nil =>
      rcases hw.out with ⟨_, rfl⟩ | ⟨h, _⟩
      · refine fin_one (k := K) hc hr hL1 (flat_all hf _) ?_ hq
        simp [packA, renV, renL, lstV, lstP, renOf_one (H := H) ⟨own_iff.1 (nb_own K), nb_ge K⟩]
      · exact absurd rfl h
    | cons y ys =>
      obtain ⟨rfl, hL2⟩ := hw.at_ (by simp)
      have hKK := hne (by simp) (by simp)
      obtain ⟨r1, r2⟩ := renOf_two (H := H) ⟨own_iff.1 (nb_own K), nb_ge K⟩ ⟨own_iff.1 (nb_own K'), nb_ge K'⟩ (fun e => hKK (nb_inj.1 e))
      refine fin_two (j := K) (k := K') hc hr hL1 hL2 hKK (flat_all hf _) (flat_all hg _) ?_ hq
      simp [packA, renV, renL, lstV, lstP, r1, r2, lstH_fresh_cons]
end
/-! ### old blocks that are dropped -/
section
variable {P : Program} {l : EL} {H H1 : AHeap} {lo : Nat} {L : List (Option ABlk)}
end
section
variable {P : Program} {rd : Option Nat} {nt : Nat} {ops : Array Oper} {l : EL} {ds : List Nat} {K : St → Prop} {i : Nat} {r : List Oper} {o : Oper} {ty : TypeId} {pos : String} {af : Array Edge} {H : AHeap} {lo : Nat} {L : List (Option ABlk)}
  {Qn : St → Prop} {Qe : Nat → St → Prop} {Qr : St → Prop} {bk : Code}
variable {L0 : List (Option ABlk)} {ow : List Nat} {N : List ABlk}
theorem sd_newSS [PC P] {d n c : Nat} {op : Op} {x : ABlk} (hfree : isFree op = false) (hser : seriesS ops i = true) (hc : Closed H)
    (hop : Does P l op (ext H lo (L0 ++ N.map some)) (.slice (some ⟨(ext H lo (L0 ++ N.map some)).fresh, 0, none⟩) n c) ((ext H lo (L0 ++ N.map some)).add x)) (hd : Nat.blt d nt = true)
    (hk : SeqD P rd nt ops r (i + 1) ds ((d, .slice (some ⟨nb H (L0 ++ N.map some).length, 0, none⟩) n c) :: l) H lo (L0 ++ N.map some ++ [some x]) [] [] K) : SeqD P rd nt ops (⟨some d, op, ty, pos, af, none⟩ :: r) i ds l H lo L0 ow N K := by
  rw [ext_fresh, ext_add] at hop
  exact sd_ho fun ho => sd_seriesC (o := ⟨some d, op, ty, pos, af, none⟩) (v := .slice (some ⟨nb H (L0 ++ N.map some).length, 0, none⟩) n c) hfree hser (fun ad ha => opT_of ho rfl hop hd ha) (.refl _) rfl hc (Nat.le_refl _) (by rw [ext_fresh, ext_fresh]; simp only [nb, List.length_append]; omega) hk
end
end Go.Den
