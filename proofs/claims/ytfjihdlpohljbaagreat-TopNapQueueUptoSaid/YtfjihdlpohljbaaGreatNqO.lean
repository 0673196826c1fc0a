/- HallDepths: the law's own walk. -/
import Derived.Test.YtfjihdlpohljbaaGreatDeM
import Derived.Test.YtfjihdlpohljbaaGreatBgH
import Derived.Test.YtfjihdlpohljbaaGreatHkA
import Derived.Test.YtfjihdlpohljbaaGreatSxW
import Derived.Test.YtfjihdlpohljbaaGreatHpB
import Derived.Test.YtfjihdlpohljbaaGreatSxM
import Derived.Test.YtfjihdlpohljbaaGreatPrL
import Derived.Test.YtfjihdlpohljbaaGreatSxQ
import Derived.Test.YtfjihdlpohljbaaGreatSxU
import Derived.Test.YtfjihdlpohljbaaGreatElJ
import Derived.Test.YtfjihdlpohljbaaGreatOpnD
import Derived.Test.YtfjihdlpohljbaaGreatHkO
noncomputable section
namespace Go.Proofs.YtfjihdlpohljbaaGreat
open Go Go.Den
set_option maxRecDepth 100000
theorem ovb_ref {t : List Tb} {l : List Bk} (h : bothE t l = 0) : OvbV t l = ((roA t l l.length).1, (roA t l l.length).2.1, whenL (!(roA t l l.length).2.2) 7) := by
  unfold OvbV
  rw [if_neg (by rw [h]; simp), (both_ok h).ov.1, (both_ok h).ov.2]
theorem ext_more {H : AHeap} (hc : Closed H) {lo lo' : Nat} {L M : List (Option ABlk)} : Ext (ext H lo L) (ext H lo' (L ++ M)) := fun b y hb => by
  rw [ext_get hc] at hb ⊢
  by_cases h : b % 2 = 0 ∧ H.fresh ≤ b
  · rw [if_pos h] at hb ⊢
    cases e : L[b / 2 - H.next]? with
    | none => rw [e] at hb; cases hb
    | some x => rw [getApp e]; rw [e] at hb; exact hb
  · rw [if_neg h] at hb ⊢; exact hb
end Go.Proofs.YtfjihdlpohljbaaGreat
/- HallFits: the law's own walk. -/
noncomputable section
namespace Go.Proofs.YtfjihdlpohljbaaGreat
open Go Go.Den
set_option maxRecDepth 100000
theorem seq_anyLo {P : Program} {rd : Option Nat} {nt : Nat} {ops : Array Oper} {r : List Oper} {i : Nat} {ds : List Nat} {e : Env} {H : AHeap} {lo : Nat} {L : List (Option ABlk)} {K : St → Prop} (hk : ∀ lo' : Nat, SeqL P rd nt ops r i ⟨e, ds, ext H lo' L⟩ K) : SeqL P rd nt ops r i ⟨e, ds, ext H lo L⟩ K := hk lo
end Go.Proofs.YtfjihdlpohljbaaGreat
/- An argument's slice, its block is there (as FitB has it, for a seat without HallFits). -/
noncomputable section
namespace Go.Proofs.YtfjihdlpohljbaaGreat
open Go Go.Den Go.ChangeShapes Go.WideShapes Go.ChangeAt Go.RowKit Go.Deep
set_option maxRecDepth 10000
theorem OpS.useB {W : World} {α : Type} {f : α → List Value} {w : Nat} {v : Value} (hf : ∀ x, (f x).length = w) (hfl : ∀ x, (f x).all flatC = true) (h : OpS W f w v) : ∃ o p c l, OpU W f w v o p c l ∧ ∀ B k, 1000 ≤ k → B k = o → BlkS (heapOf B) (p k) := by
  rcases h.out with rfl | ⟨b, sh, ob, len, cap, m, rc, ty, fz, rfl, hle, hm, hh, hsz, hob, hc⟩
  · exact ⟨none, fun _ => none, 0, [], ⟨fun x hx => (by cases hx), fun _ _ _ _ => VR.sliceN _ _, fun _ _ _ _ => .nil, Nat.le_refl _, fun _ _ => ⟨rfl, rfl⟩, fun _ _ e => (by cases e)⟩, fun _ _ _ _ => .nil⟩
  · subst hm
    have hfm : (m.flatMap f).all flatC = true := by
      rw [List.all_eq_true]
      intro x hx
      obtain ⟨y, _, hy⟩ := List.mem_flatMap.1 hx
      exact List.all_eq_true.1 (hfl y) x hy
    have hl : (m.take len).length = len := by rw [List.length_take]; omega
    refine ⟨some ⟨⟨b, rc.size, sh, m.length * w, w, false⟩, m.flatMap f⟩, fun k => some ⟨2 * k + 1, ob, none⟩, m.length, m.take len, ⟨fun x hx B => ?_, fun B k hk hB => ?_, fun B k hk hB => ?_, by omega, fun _ e => (by cases e), fun _ _ e => (by cases e; rfl)⟩, fun B k hk hB => .at_ (heapOf_get (k := k) hB)⟩
    · cases hx
      exact ⟨rc, ty, fz, hh, (len_flat hf m).symm, rfl, by rw [len_flat hf]; exact hsz, rfl, fun j v hv => ⟨v, hc j v hv, flatVR hfm hv⟩⟩
    · rw [hl]
      have := gaOf_at (k := k) hB
      exact .slice this (.inl rfl)
    · have hg := heapOf_get (k := k) hB
      refine ⟨fun hne => ?_⟩
      have h0 : m.length ≠ 0 := fun e => hne (by rw [List.length_eq_zero_iff.1 e]; simp)
      simp only [hob h0]
      exact ((slAt_flat hf hg).take len).out hne
end Go.Proofs.YtfjihdlpohljbaaGreat
