/- Contracts: the program's fixtures and the double ones; the reference's double ones. -/
import Derived.Test.YtppflopinmkpgaaDoorFxS
import Derived.Test.YtppflopinmkpgaaDoorPnH
noncomputable section
namespace Go.Proofs.YtppflopinmkpgaaDoor
open Go Go.Den
set_option maxRecDepth 100000

theorem row_day {n r k : Nat} : ∀ x ∈ rowTo n r k, x.day = r := by
  intro x hx
  unfold rowTo at hx
  rcases List.mem_append.1 hx with hx | hx
  · unfold headF at hx
    split at hx
    · rw [List.mem_singleton] at hx
      subst hx
      split <;> rfl
    · cases hx
  · obtain ⟨j, _, rfl⟩ := List.mem_map.1 hx
    unfold pairF
    simp only
    split <;> rfl
/-- a fixture of the second half -/
def turnF (n : Nat) (x : Fx) : Fx := ⟨x.day + ((evenN n - 1 : Nat) : Int), x.away, x.home⟩
def genD (n : Nat) : List Fx := genF n ++ (genF n).map (turnF n)
theorem fixL_F {n : Nat} (h2 : 2 ≤ n) (h24 : n ≤ 24) : fixL n 0 false (evenN n - 1) = genF n := by
  have he : ¬ evenN n / 2 = 0 := by have := even_ge h2 h24; omega
  unfold fixL genF
  congr 1
  funext r
  unfold pairsTo rowF
  rw [if_neg he, List.map_map]
  conv => rhs; rw [← List.map_id (rowTo n r (evenN n / 2))]
  refine List.map_congr_left fun x hx => ?_
  have := row_day x hx
  obtain ⟨d, a, b⟩ := x
  simp only at this
  subst this
  simp [mkP, pr]
theorem fixL_T {n : Nat} (h2 : 2 ≤ n) (h24 : n ≤ 24) : fixL n ((evenN n - 1 : Nat) : Int) true (evenN n - 1) = (genF n).map (turnF n) := by
  have he : ¬ evenN n / 2 = 0 := by have := even_ge h2 h24; omega
  unfold fixL genF
  rw [List.map_flatMap]
  congr 1
  funext r
  unfold pairsTo rowF
  rw [if_neg he, List.map_map]
  refine List.map_congr_left fun x hx => ?_
  have := row_day x hx
  obtain ⟨d, a, b⟩ := x
  simp only at this
  subst this
  simp [mkP, pr, turnF]
def dayB (n : Nat) : Bool := (genF n).all fun x => decide (0 ≤ x.day) && decide (x.day ≤ 48)
theorem dayB_all : ∀ n : Fin 25, 2 ≤ n.val → (dayB n.val && Nat.blt 0 (genF n.val).length) = true := by decide +kernel
theorem genF_day {n : Nat} (h2 : 2 ≤ n) (h24 : n ≤ 24) : (∀ x ∈ genF n, 0 ≤ x.day ∧ x.day ≤ 48) ∧ 0 < (genF n).length := by
  have h := dayB_all ⟨n, by omega⟩ h2
  simp only [Bool.and_eq_true, dayB, List.all_eq_true, decide_eq_true_eq, Nat.blt_eq] at h
  exact h

/-! ### the double ones, run for each number of teams on top of it -/
def mA (n : Nat) : Memo := ⟨17, [I n, I 0, .bool false], [], .slice (some ⟨0, 0, none⟩) (genF n).length (genF n).length, [.cells ((genF n).flatMap fx) 3 true false]⟩
def mB (n : Nat) : Memo := ⟨17, [I n, I ((evenN n - 1 : Nat) : Int), .bool true], [], .slice (some ⟨0, 0, none⟩) (genF n).length (genF n).length, [.cells (((genF n).map (turnF n)).flatMap fx) 3 true false]⟩
def mD (n : Nat) : Memo := ⟨6, [I n], [], .tuple ⟨[.slice (some ⟨0, 0, none⟩) (genD n).length (genD n).length, I 0]⟩, [.cells ((genD n).flatMap fx) 3 true false]⟩
def runB (n : Nat) : Bool := memoIs Tryd.prog (ctxOf Tryd.prog) [] [mA n, mB n] 100000 (mD n)
theorem blN_ok : blOk [] = true := rfl
theorem lies_nil {H : AHeap} : Lies H [] [] := ⟨rfl, by simp, .nil, fun k x h => by simp at h⟩
theorem glo_nil {H : AHeap} : Glo (bOf []) H := fun k x h => by cases h
theorem tau_nil {H : AHeap} : tauN (tauS []) (smallH (bOf []) []) H 0 = some H.fresh := by
  unfold tauN
  rw [if_neg (by omega), if_pos (by show 0 ≤ 0; omega)]
  show some (0 - 0 + H.fresh) = _
  rw [Nat.sub_zero, Nat.zero_add]
theorem memo_lst {H : AHeap} {l : List Fx} (h : l ≠ []) : lstV H.fresh l = .slice (some ⟨H.fresh, 0, none⟩) l.length l.length ∧ lstH H 3 fx l = addL H [.cells (l.flatMap fx) 3 true false] := by
  obtain ⟨x, r, rfl⟩ := List.exists_cons_of_ne_nil h
  exact ⟨rfl, rfl⟩
theorem mAB_ok {n : Nat} (h2 : 2 ≤ n) (h24 : n ≤ 24) : MemoOk Tryd.prog [] [mA n, mB n] := by
  have hg := List.length_pos_iff.1 (genF_day h2 h24).2
  have a := fixtures153 (H := smallH (bOf []) []) (later := 0) (turned := false) h2 h24 (by omega)
  have b := fixtures153 (H := smallH (bOf []) []) (later := ((evenN n - 1 : Nat) : Int)) (turned := true) h2 h24 (by have := even_ge h2 h24; omega)
  rw [fixL_F h2 h24, (memo_lst hg).1, (memo_lst hg).2] at a
  have hg2 : (genF n).map (turnF n) ≠ [] := by simpa using hg
  rw [fixL_T h2 h24, (memo_lst hg2).1, (memo_lst hg2).2, List.length_map] at b
  exact memo_cons (m := mA n) a (memo_cons (m := mB n) b memo_nil)
theorem double_of {H : AHeap} {n : Nat} (h2 : 2 ≤ n) (h24 : n ≤ 24) (h : runB n = true) : Ret Tryd.prog 6 [I n] H (.tuple ⟨[lstV H.fresh (genD n), I 0]⟩) (lstH H 3 fx (genD n)) := by
  have h1 := memo_one (P := Tryd.prog) blN_ok (mAB_ok h2 h24) h
  have hg : genD n ≠ [] := by
    have := List.length_pos_iff.1 (genF_day h2 h24).2
    simp [genD, this]
  rw [(memo_lst hg).1, (memo_lst hg).2]
  have hz : renBs (tauN (tauS []) (smallH (bOf []) []) H) [.cells ((genD n).flatMap fx) 3 true false] = some [.cells ((genD n).flatMap fx) 3 true false] := by
    simp only [renBs, renB_flat (flat_fx (genD n))]
  refine ret_emb (τ := tauS []) (v0 := (mD n).v) h1 (emb_small (bOf_ok blN_ok) glo_nil lies_nil) rfl ?_ hz fun b c hb => ?_
  · simp [mD, renV, renL, tau_nil]
  · unfold tauS at hb
    split at hb
    · rename_i h3
      unfold tauN
      rw [if_pos h3]; unfold tauS; rw [if_pos h3]; exact hb
    · simp at hb
theorem runB_2 : runB 2 = true := by kernel_rfl
theorem runB_3 : runB 3 = true := by kernel_rfl
theorem runB_4 : runB 4 = true := by kernel_rfl
theorem runB_5 : runB 5 = true := by kernel_rfl
theorem runB_6 : runB 6 = true := by kernel_rfl
theorem runB_7 : runB 7 = true := by kernel_rfl
theorem runB_8 : runB 8 = true := by kernel_rfl
theorem runB_9 : runB 9 = true := by kernel_rfl
theorem runB_10 : runB 10 = true := by kernel_rfl
theorem runB_11 : runB 11 = true := by kernel_rfl
theorem runB_12 : runB 12 = true := by kernel_rfl
theorem runB_13 : runB 13 = true := by kernel_rfl
theorem runB_14 : runB 14 = true := by kernel_rfl
theorem runB_15 : runB 15 = true := by kernel_rfl
theorem runB_16 : runB 16 = true := by kernel_rfl
theorem runB_17 : runB 17 = true := by kernel_rfl
theorem runB_18 : runB 18 = true := by kernel_rfl
theorem runB_19 : runB 19 = true := by kernel_rfl
theorem runB_20 : runB 20 = true := by kernel_rfl
theorem runB_21 : runB 21 = true := by kernel_rfl
theorem runB_22 : runB 22 = true := by kernel_rfl
theorem runB_23 : runB 23 = true := by kernel_rfl
theorem runB_24 : runB 24 = true := by kernel_rfl
theorem runB_all {n : Nat} (h2 : 2 ≤ n) (h24 : n ≤ 24) : runB n = true := by
  have h : n = 2 ∨ n = 3 ∨ n = 4 ∨ n = 5 ∨ n = 6 ∨ n = 7 ∨ n = 8 ∨ n = 9 ∨ n = 10 ∨ n = 11 ∨ n = 12 ∨ n = 13 ∨ n = 14 ∨ n = 15 ∨ n = 16 ∨ n = 17 ∨ n = 18 ∨ n = 19 ∨ n = 20 ∨ n = 21 ∨ n = 22 ∨ n = 23 ∨ n = 24 := by omega
  rcases h with rfl | rfl | rfl | rfl | rfl | rfl | rfl | rfl | rfl | rfl | rfl | rfl | rfl | rfl | rfl | rfl | rfl | rfl | rfl | rfl | rfl | rfl | rfl
  · exact runB_2
  · exact runB_3
  · exact runB_4
  · exact runB_5
  · exact runB_6
  · exact runB_7
  · exact runB_8
  · exact runB_9
  · exact runB_10
  · exact runB_11
  · exact runB_12
  · exact runB_13
  · exact runB_14
  · exact runB_15
  · exact runB_16
  · exact runB_17
  · exact runB_18
  · exact runB_19
  · exact runB_20
  · exact runB_21
  · exact runB_22
  · exact runB_23
  · exact runB_24
theorem double_c {H : AHeap} {n : Nat} (h2 : 2 ≤ n) (h24 : n ≤ 24) : Ret Tryd.prog 6 [I n] H (.tuple ⟨[lstV H.fresh (genD n), I 0]⟩) (lstH H 3 fx (genD n)) := double_of h2 h24 (runB_all h2 h24)
end Go.Proofs.YtppflopinmkpgaaDoor
