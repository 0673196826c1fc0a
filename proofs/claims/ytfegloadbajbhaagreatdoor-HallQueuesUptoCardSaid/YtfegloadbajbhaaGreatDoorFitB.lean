/- Contracts: whether a booking fits, as the program has it. -/
import Derived.Test.YtfegloadbajbhaaGreatDoorOpnD
import Derived.Test.YtfegloadbajbhaaGreatDoorOpnL
import Derived.Test.YtfegloadbajbhaaGreatDoorHkO
import Derived.Test.YtfegloadbajbhaaGreatDoorPrL
import Derived.Test.YtfegloadbajbhaaGreatDoorSxX
import Derived.ChangeMaps5
noncomputable section
namespace Go.Proofs.YtfegloadbajbhaaGreatDoor
open Go Go.Den
set_option maxRecDepth 100000
/-- the error of Fits -/
def fitsE (t : List Tb) (l : List Bk) (b : Bk) : Int := firstL [bothE t l, bookE b, whenL ((cntK t b.kind : Int) == 0) 10]
def fitsV (t : List Tb) (l : List Bk) (b : Bk) : Bool := if fitsE t l b ≠ 0 then false else fitB t (l ++ [b])
end Go.Proofs.YtfegloadbajbhaaGreatDoor
/- HallFits: the law's own walk. -/
noncomputable section
namespace Go.Proofs.YtfegloadbajbhaaGreatDoor
open Go Go.Den
set_option maxRecDepth 100000
theorem blk_lst {α : Type} {H : AHeap} {lo m : Nat} {L : List (Option ABlk)} {f : α → List Value} {l : List α} : BlkS (ext H lo (L ++ lstL m f l)) (lstP (nb H L.length) l) := by
  cases l with
  | nil => exact .nil
  | cons a l => exact .at_ (ext_get_new List.getElem?_concat_length)
theorem books_one {b : Bk} : booksE [b] = bookE b := by
  unfold booksE
  rw [if_neg (by simp)]
  by_cases h : bookE b = 0
  · simp [restG, errG, firstL, h]
  · simp [restG, errG, firstL, h]
theorem seq_anyLo {P : Program} {rd : Option Nat} {nt : Nat} {ops : Array Oper} {r : List Oper} {i : Nat} {ds : List Nat} {e : Env} {H : AHeap} {lo : Nat} {L : List (Option ABlk)} {K : St → Prop} (hk : ∀ lo' : Nat, SeqL P rd nt ops r i ⟨e, ds, ext H lo' L⟩ K) : SeqL P rd nt ops r i ⟨e, ds, ext H lo L⟩ K := hk lo
end Go.Proofs.YtfegloadbajbhaaGreatDoor
/- HallFits: the contract over every input of bulk at most 1048576. -/
noncomputable section
namespace Go.Proofs.YtfegloadbajbhaaGreatDoor
open Go Go.Den Go.ChangeShapes Go.WideShapes Go.ChangeAt Go.RowKit Go.Deep
set_option maxRecDepth 10000
/-- a slice argument told by a block of its own, which is there -/
theorem OpS.useB {W : World} {α : Type} {f : α → List Value} {w : Nat} {v : Value} (hf : ∀ x, (f x).length = w) (hfl : ∀ x, (f x).all flatC = true) (h : OpS W f w v) : ∃ o p c l, OpU W f w v o p c l ∧ ∀ B k, 1000 ≤ k → B k = o → BlkS (heapOf B) (p k) := by
  rcases h.out with rfl | ⟨b, sh, ob, len, cap, m, rc, ty, fz, rfl, hle, hm, hh, hsz, hob, hc⟩
  · exact ⟨none, fun _ => none, 0, [], ⟨fun x hx => (by cases hx), fun _ _ _ _ => VR.sliceN _ _, fun _ _ _ _ => .nil, Nat.le_refl _, fun _ _ => ⟨rfl, rfl⟩, fun _ _ e => (by cases e)⟩, fun _ _ _ _ => .nil⟩
  · subst hm
    have hfm : (m.flatMap f).all flatC = true := by
      rw [List.all_eq_true]
      intro x hx
      obtain ⟨y, _, hy⟩ := List.mem_flatMap.1 hx
      exact List.all_eq_true.1 (hfl y) x hy
    have hl : (m.take len).length = len := by rw [List.length_take]; omega
    refine ⟨some ⟨⟨b, rc.size, sh, m.length * w, w, false⟩, m.flatMap f⟩, fun k => some ⟨2 * k + 1, ob, none⟩, m.length, m.take len, ⟨fun x hx B => ?_, fun B k hk hB => ?_, fun B k hk hB => ?_, by omega, fun _ e => (by cases e), fun _ _ e => (by cases e; rfl)⟩, fun B k hk hB => .at_ (heapOf_get (k := k) hB)⟩
    · cases hx
      exact ⟨rc, ty, fz, hh, (len_flat hf m).symm, rfl, by rw [len_flat hf]; exact hsz, rfl, fun j v hv => ⟨v, hc j v hv, flatVR hfm hv⟩⟩
    · rw [hl]
      have := gaOf_at (k := k) hB
      exact .slice this (.inl rfl)
    · have hg := heapOf_get (k := k) hB
      refine ⟨fun hne => ?_⟩
      have h0 : m.length ≠ 0 := fun e => hne (by rw [List.length_eq_zero_iff.1 e]; simp)
      simp only [hob h0]
      exact ((slAt_flat hf hg).take len).out hne
end Go.Proofs.YtfegloadbajbhaaGreatDoor
