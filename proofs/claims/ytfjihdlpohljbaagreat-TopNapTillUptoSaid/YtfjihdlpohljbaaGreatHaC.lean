/- Contracts: lists of ones, run by the evaluator. -/
import Derived.Test.YtfjihdlpohljbaaGreatHaB
import Derived.Test.YtfjihdlpohljbaaGreatSxM
noncomputable section
namespace Go.Proofs.YtfjihdlpohljbaaGreat
open Go Go.Den
set_option maxRecDepth 100000

abbrev onesB (p : Nat) : ABlk := .cells (List.replicate p (I 1)) 1 false false
def mR (p : Nat) : Memo := ⟨38, [.slice (some ⟨0, 0, none⟩) 1 1, I p], [.cells [I 1] 1 false false], .slice (some ⟨2, 0, none⟩) p p, [onesB p]⟩
def mW (p : Nat) : Memo := ⟨41, [.slice (some ⟨0, 0, none⟩) p p], [onesB p], I 0, []⟩
def runR (p : Nat) : Bool := memoIs Tryz.prog (ctxOf Tryz.prog) [] [] 100000 (mR p) && memoIs Tryz.prog (ctxOf Tryz.prog) [] [] 100000 (mW p)
theorem runR_1 : runR 1 = true := by kernel_rfl
theorem runR_2 : runR 2 = true := by kernel_rfl
theorem runR_3 : runR 3 = true := by kernel_rfl
theorem runR_4 : runR 4 = true := by kernel_rfl
theorem runR_5 : runR 5 = true := by kernel_rfl
theorem runR_6 : runR 6 = true := by kernel_rfl
theorem runR_7 : runR 7 = true := by kernel_rfl
theorem runR_8 : runR 8 = true := by kernel_rfl
theorem runR_9 : runR 9 = true := by kernel_rfl
theorem runR_10 : runR 10 = true := by kernel_rfl
theorem runR_11 : runR 11 = true := by kernel_rfl
theorem runR_12 : runR 12 = true := by kernel_rfl
theorem runR_13 : runR 13 = true := by kernel_rfl
theorem runR_14 : runR 14 = true := by kernel_rfl
theorem runR_15 : runR 15 = true := by kernel_rfl
theorem runR_16 : runR 16 = true := by kernel_rfl
theorem runR_all {p : Nat} (h1 : 1 ≤ p) (h16 : p ≤ 16) : runR p = true := by
  match p, h1, h16 with
  | 1, _, _ => exact runR_1
  | 2, _, _ => exact runR_2
  | 3, _, _ => exact runR_3
  | 4, _, _ => exact runR_4
  | 5, _, _ => exact runR_5
  | 6, _, _ => exact runR_6
  | 7, _, _ => exact runR_7
  | 8, _, _ => exact runR_8
  | 9, _, _ => exact runR_9
  | 10, _, _ => exact runR_10
  | 11, _, _ => exact runR_11
  | 12, _, _ => exact runR_12
  | 13, _, _ => exact runR_13
  | 14, _, _ => exact runR_14
  | 15, _, _ => exact runR_15
  | 16, _, _ => exact runR_16
  | n + 17, _, h => exact absurd h (by omega)
  | 0, h, _ => exact absurd h (by omega)
theorem blO_ok : blOk [] = true := rfl
theorem gloO {H : AHeap} : Glo (bOf []) H := fun k x h => by cases h
theorem lies_one {H : AHeap} {b : Nat} {x : ABlk} {cs : List Value} {z : Nat} {s : Bool} (hb : own b = true) (hx : x = .cells cs z s false) (hg : H.get b = some x) (hf : cs.all (flatD 8) = true) : Lies H [b] [x] := by
  subst hx
  refine ⟨rfl, fun i hi => ?_, by simp, fun k y hy => ?_⟩
  · rw [List.mem_singleton] at hi
    subst hi
    exact own_iff.1 hb
  · match k, hy with
    | 0, hy =>
      simp only [List.getElem?_cons_zero, Option.some.injEq] at hy
      subst hy
      exact ⟨b, cs, cs, z, s, rfl, rfl, hg, renL_flat (fun v hv => renV_flat 8 hv) hf⟩
theorem tau_one {H : AHeap} {b : Nat} {x : ABlk} : (∀ c, tauS [b] 0 = some c → c = b) ∧ tauN (tauS [b]) (smallH (bOf []) [x]) H 2 = some H.fresh := by
  refine ⟨fun c hc => ?_, ?_⟩
  · simp [tauS] at hc; exact hc.symm
  · unfold tauN
    rw [if_neg (by omega), if_pos (by show 2 * 1 ≤ 2; omega)]
    show some (2 - 2 * 1 + H.fresh) = _
    rw [Nat.sub_self, Nat.zero_add]
theorem tau_keep {H : AHeap} {b : Nat} {x : ABlk} : ∀ c d, tauS [b] c = some d → tauN (tauS [b]) (smallH (bOf []) [x]) H c = some d := fun c d hd => by
  unfold tauN
  split
  · exact hd
  · rename_i h1
    split
    · rename_i h2
      have h2 : 2 * 1 ≤ c := h2
      unfold tauS at hd
      rw [if_neg h1, List.getElem?_eq_none (by simp; omega)] at hd
      cases hd
    · exact hd
theorem ones_flat (p : Nat) : (List.replicate p (I 1)).all (flatD 8) = true := by
  rw [List.all_eq_true]
  intro x hx
  rw [(List.mem_replicate.1 hx).2]; rfl
theorem repeat_c {H : AHeap} {p b : Nat} (h1 : 1 ≤ p) (h16 : p ≤ 16) (hb : own b = true) (hg : H.get b = some (.cells [I 1] 1 false false)) :
    Ret Tryz.prog 38 [.slice (some ⟨b, 0, none⟩) 1 1, I p] H (.slice (some ⟨H.fresh, 0, none⟩) p p) (H.add (onesB p)) := by
  have h := runR_all h1 h16
  unfold runR at h
  rw [Bool.and_eq_true] at h
  have hr := memo_one (P := Tryz.prog) blO_ok memo_nil h.1
  refine ret_emb (τ := tauS [b]) (v0 := (mR p).v) (zs := [onesB p]) hr (emb_small (bOf_ok blO_ok) gloO (lies_one hb rfl hg rfl)) ?_ ?_ ?_ tau_keep
  · simp [mR, renL, renV, tauS]
  · simp [mR, renV, tau_one.2]
  · show renBs _ [onesB p] = _
    simp only [renBs, renB_flat (ones_flat p)]
theorem weights_c {H : AHeap} {p b : Nat} (h1 : 1 ≤ p) (h16 : p ≤ 16) (hb : own b = true) (hg : H.get b = some (onesB p)) :
    Ret Tryz.prog 41 [.slice (some ⟨b, 0, none⟩) p p] H (I 0) H := by
  have h := runR_all h1 h16
  unfold runR at h
  rw [Bool.and_eq_true] at h
  have hr := memo_one (P := Tryz.prog) blO_ok memo_nil h.2
  refine ret_emb (τ := tauS [b]) (v0 := (mW p).v) (zs := []) hr (emb_small (bOf_ok blO_ok) gloO (lies_one hb rfl hg (ones_flat p))) ?_ rfl rfl tau_keep
  simp [mW, renL, renV, tauS]
end Go.Proofs.YtfjihdlpohljbaaGreat
