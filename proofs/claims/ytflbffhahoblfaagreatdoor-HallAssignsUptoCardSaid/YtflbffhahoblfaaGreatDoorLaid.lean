/- Contracts: fixtures, what is wrong with a list of them. -/
import Derived.Test.YtflbffhahoblfaaGreatDoorFnA
import Derived.Test.YtflbffhahoblfaaGreatDoorSxA
import Derived.Deep.Slices
import Derived.Deep.Strs
import Derived.Test.YtflbffhahoblfaaGreatDoorCards
import Derived.Test.YtflbffhahoblfaaGreatDoorTie
import Derived.MakeChecks
import Derived.LaidMore
noncomputable section
namespace Go.Proofs.YtflbffhahoblfaaGreatDoor
open Go Go.Den
set_option maxRecDepth 10000
structure Fx where
  day : Int
  home : Int
  away : Int
end Go.Proofs.YtflbffhahoblfaaGreatDoor
/- Contracts: counts of home matches; same lists; copies. -/
noncomputable section
namespace Go.Proofs.YtflbffhahoblfaaGreatDoor
open Go Go.Den
set_option maxRecDepth 10000
theorem sameInts79 {H : AHeap} {p q : Option Addr} {c c' : Nat} {l m : List Int} (hs : SlAt H 1 i1 p l) (ht : SlAt H 1 i1 q m) (hn : l.length < 1000000000000) :
    Ret Tryz.prog 21 [.slice p l.length c, .slice q m.length c'] H (.bool (decide (l = m))) H := by
  refine fn_start Tryz.func21 rfl rfl rfl fun hc => ?_
  apply ct_seq
  apply ct_region
  apply seq_plain; exact do_assign rfl; exact rfl
  apply seq_nil
  iterate 2 (apply ct_seq)
  apply ct_region
  apply seq_plain; exact do_move rfl; exact rfl
  apply seq_plain; exact do_lenS rfl rfl rfl; exact rfl
  apply seq_plain; exact do_move rfl; exact rfl
  apply seq_plain; exact do_lenS rfl rfl rfl; exact rfl
  apply seq_plain; exact do_binInt rfl rfl rfl trivial; exact rfl
  apply seq_nil
  refine ct_cond rfl (fun hb => ?_) (fun hb => ?_)
  · apply ct_seq
    apply ct_region
    apply seq_plain; exact do_assign rfl; exact rfl
    apply seq_nil
    apply ct_ret
    refine fin_flat hc rfl rfl ⟨?_, rfl⟩
    have : l ≠ m := by
      intro e
      subst e
      have hb : (((l.length : Int)) != (l.length : Int)) = true := hb
      simp at hb
    simp [packA, this]
  · have hlen : l.length = m.length := by
      have hb : (((l.length : Int)) != (m.length : Int)) = false := hb
      simp at hb; omega
    apply ct_skip
    iterate 2 (apply ct_seq)
    apply ct_region
    apply seq_plain; exact do_assign rfl; exact rfl
    apply seq_nil
    apply ct_block
    apply ct_loop
    refine lt_up (fun i => [(0, .slice p l.length c), (1, .slice q m.length c'), (5, I i)]) (fun i => ∀ j (hj : j < l.length), j < i → l[j] = m[j]'(by omega)) l.length (fun i hi hJ ih => ?_) 0 (by omega) (by intros; omega) (by repeat (first | exact sub_nil | apply sub_cons rfl))
    iterate 2 (apply ct_seq)
    apply ct_region
    iterate 2 (apply seq_plain; exact do_move rfl; exact rfl)
    apply seq_plain; exact do_lenS rfl rfl rfl; exact rfl
    apply seq_plain; exact do_binInt rfl rfl rfl trivial; exact rfl
    apply seq_nil
    refine ct_cond rfl (fun h1 => ?_) (fun h1 => ?_)
    · simp only [decide_eq_true_eq, Int.ofNat_lt] at h1
      have h1' : i < m.length := by omega
      obtain ⟨b, o, cs, z, s, ro, rfl, hg, hw⟩ := hs.out (by intro e; rw [e] at h1; simp at h1)
      obtain ⟨b', o', cs', z', s', ro', rfl, hg', hw'⟩ := ht.out (by intro e; rw [e] at h1'; simp at h1')
      apply ct_skip
      apply ct_seq
      apply ct_block
      apply ct_seq
      apply ct_draw (by assumption); decide +kernel
      iterate 2 (apply sd_plain (hfree := rfl); intro _; exact do_move rfl; exact rfl)
      apply sd_plain (hfree := rfl); intro _; exact do_indexAddrS rfl rfl rfl (by exact idx_nat (by omega)); exact rfl
      apply sd_look (hfree := rfl); exact do_load rfl (by exact ext_get_old (by assumption) (by assumption)) rfl (by exact pt_sl0 (by assumption) (by omega)); exact rfl
      iterate 2 (apply sd_plain (hfree := rfl); intro _; exact do_move rfl; exact rfl)
      apply sd_plain (hfree := rfl); intro _; exact do_indexAddrS rfl rfl rfl (by exact idx_nat (by omega)); exact rfl
      apply sd_look (hfree := rfl); exact do_load rfl (by exact ext_get_old (by assumption) (by assumption)) rfl (by exact pt_sl0 (by assumption) (by omega)); exact rfl
      apply sd_plain (hfree := rfl); intro _; exact do_binInt rfl rfl rfl trivial; exact rfl
      apply sd_nil
      refine ct_cond rfl (fun h2 => ?_) (fun h2 => ?_)
      · apply ct_seq
        apply ct_region
        apply seq_plain; exact do_assign rfl; exact rfl
        apply seq_nil
        apply ct_ret
        refine fin_flat hc rfl rfl ⟨?_, rfl⟩
        have : l ≠ m := by
          intro e
          subst e
          have h2 : (l[i] != l[i]) = true := h2
          simp at h2
        simp [packA, this]
      · apply ct_skip
        apply ct_region
        apply seq_plain; exact do_move rfl; exact rfl
        apply seq_plain; exact do_succ rfl (by omega); exact rfl
        apply seq_plain; exact do_assign rfl; exact rfl
        apply seq_nil
        refine lt_sub ?_ (ih (i + 1) (by omega) (by omega) fun j hj hji => ?_)
        · (repeat (first | exact sub_nil | apply sub_cons rfl))
        · rcases Nat.lt_or_ge j i with h | h
          · exact hJ j hj h
          · have : j = i := by omega
            subst this
            have h2 : (l[j] != m[j]) = false := h2
            simpa using h2
    · simp only [decide_eq_false_iff_not, Int.ofNat_lt] at h1
      apply ct_exit
      apply exit_eq; exact rfl
      apply ct_seq
      apply ct_region
      apply seq_plain; exact do_assign rfl; exact rfl
      apply seq_nil
      apply ct_ret
      refine fin_flat hc rfl rfl ⟨?_, rfl⟩
      have : l = m := List.ext_getElem hlen fun j hj _ => hJ j hj (by omega)
      simp [packA, this]
theorem take_snoc {α : Type} {l : List α} {i : Nat} (h : i < l.length) : l.take (i + 1) = l.take i ++ [l[i]] := by
  rw [List.take_add_one, List.getElem?_eq_getElem h]; rfl
theorem mk33 {l : EL} {h : AHeap} {a : Operand} {n : Nat} (ha : ev l a = some (I n)) (hn : n ≤ 24) : Does Tryz.prog l (.makeSlice 24 a a) h (.slice (some ⟨h.fresh, 0, none⟩) n n) (h.add (.cells ((List.replicate n 0).map I) 1 false false)) := by
  rw [← repl_map]
  exact do_makeSlice ha ha rfl rfl rfl rfl (Nat.le_refl _) (by omega) (Nat.le_trans (Nat.mul_le_mul_left _ hn) (Nat.le_of_ble_eq_true rfl))
end Go.Proofs.YtflbffhahoblfaaGreatDoor
/- Opening a list of fixtures. -/
noncomputable section
namespace Go.Proofs.YtflbffhahoblfaaGreatDoor
open Go Go.Den Go.ChangeShapes Go.Deep
set_option maxRecDepth 10000
noncomputable instance : Inhabited Fx := ⟨⟨0, 0, 0⟩⟩
theorem trod_i64 {H : Type} {enc : TypeId × Value → H} {W : World} {b : Nat} {sp hd} {fuel : Nat} {cs : List Value} {x : DataW H × List MemPlace} (h : DataW.trod enc Tryz.prog W b sp hd fuel 3 cs = some x) : ∃ n, cs = [I n] := by
  have hu : Tryz.prog.underlying 3 = some (.int .i64) := rfl
  cases fuel with
  | zero => simp [DataW.trod] at h
  | succ fuel =>
    unfold DataW.trod at h
    rw [hu] at h
    match cs, h with
    | [.int k n], h =>
      simp only at h
      split at h
      · rename_i hk
        obtain ⟨rfl, _⟩ := hk
        exact ⟨n, rfl⟩
      · cases h
theorem add_none (b o n : Nat) : (⟨b, o, none⟩ : Addr).add n = ⟨b, o + n, none⟩ := by
  unfold Addr.add
  split
  · rename_i h; subst h; rfl
  · rfl
end Go.Proofs.YtflbffhahoblfaaGreatDoor
/- What the listed package-level variables hold; the law's own check of the document's examples. -/
namespace Go.Proofs.YtflbffhahoblfaaGreatDoor
open Go Go.Den
set_option maxRecDepth 100000
def cs2 : List Value := [.int .u64 1, .int .u64 10, .int .u64 100, .int .u64 1000, .int .u64 10000, .int .u64 100000, .int .u64 1000000, .int .u64 10000000, .int .u64 100000000, .int .u64 1000000000, .int .u64 10000000000, .int .u64 100000000000, .int .u64 1000000000000, .int .u64 10000000000000, .int .u64 100000000000000, .int .u64 1000000000000000, .int .u64 10000000000000000, .int .u64 100000000000000000, .int .u64 1000000000000000000, .int .u64 10000000000000000000]
def cs4 : List Value := [.int .u8 0, .int .u8 1, .int .u8 28, .int .u8 2, .int .u8 29, .int .u8 14, .int .u8 24, .int .u8 3, .int .u8 30, .int .u8 22, .int .u8 20, .int .u8 15, .int .u8 25, .int .u8 17, .int .u8 4, .int .u8 8, .int .u8 31, .int .u8 27, .int .u8 13, .int .u8 23, .int .u8 21, .int .u8 19, .int .u8 16, .int .u8 7, .int .u8 26, .int .u8 12, .int .u8 18, .int .u8 6, .int .u8 11, .int .u8 5, .int .u8 10, .int .u8 9]
def cs5 : List Value := [.int .u8 0, .int .u8 1, .int .u8 56, .int .u8 2, .int .u8 57, .int .u8 49, .int .u8 28, .int .u8 3, .int .u8 61, .int .u8 58, .int .u8 42, .int .u8 50, .int .u8 38, .int .u8 29, .int .u8 17, .int .u8 4, .int .u8 62, .int .u8 47, .int .u8 59, .int .u8 36, .int .u8 45, .int .u8 43, .int .u8 51, .int .u8 22, .int .u8 53, .int .u8 39, .int .u8 33, .int .u8 30, .int .u8 24, .int .u8 18, .int .u8 12, .int .u8 5, .int .u8 63, .int .u8 55, .int .u8 48, .int .u8 27, .int .u8 60, .int .u8 41, .int .u8 37, .int .u8 16, .int .u8 46, .int .u8 35, .int .u8 44, .int .u8 21, .int .u8 52, .int .u8 32, .int .u8 23, .int .u8 11, .int .u8 54, .int .u8 26, .int .u8 40, .int .u8 15, .int .u8 34, .int .u8 20, .int .u8 31, .int .u8 10, .int .u8 25, .int .u8 14, .int .u8 19, .int .u8 9, .int .u8 13, .int .u8 8, .int .u8 7, .int .u8 6]
def bl0 : BL := [(2, cs2), (4, cs4), (5, cs5)]
noncomputable abbrev B0 : Nat → Option BB := bOf bl0
theorem bl0_ok : blOk bl0 = true := by kernel_rfl
def laidList : List (String × DataW Unit) := [("math/bits.deBruijn32tab", Rows.laid_math_bits_deBruijn32tab), ("math/bits.deBruijn64tab", Rows.laid_math_bits_deBruijn64tab), ("internal/strconv.uint64pow10", Rows.laid_internal_strconv_uint64pow10)]
theorem b0_flat : ∀ k x, B0 k = some x → x.cs.all flatC = true := fun k x h => (bOf_ok bl0_ok k x h).2
theorem laid_heap {W : World} (h : laidMetH Tryz.prog laidList W) : ∀ k x, B0 k = some x → ∃ ct fz, W.heap[k]? = some (.cells ⟨x.cs⟩ ct fz) := by
  rw [MakeChecks.laidMetH_plain _ _ _ (by kernel_rfl)] at h
  obtain ⟨ps, hL, _, _⟩ := h
  have h2 := laid_cells hL (n := "internal/strconv.uint64pow10") (d := Rows.laid_internal_strconv_uint64pow10) (g := 2) (t := 294) (cs := cs2) (by simp [laidList]) (by kernel_rfl) (by kernel_rfl) (by kernel_rfl) (by kernel_rfl)
  have h4 := laid_cells hL (n := "math/bits.deBruijn32tab") (d := Rows.laid_math_bits_deBruijn32tab) (g := 4) (t := 297) (cs := cs4) (by simp [laidList]) (by kernel_rfl) (by kernel_rfl) (by kernel_rfl) (by kernel_rfl)
  have h5 := laid_cells hL (n := "math/bits.deBruijn64tab") (d := Rows.laid_math_bits_deBruijn64tab) (g := 5) (t := 298) (cs := cs5) (by simp [laidList]) (by kernel_rfl) (by kernel_rfl) (by kernel_rfl) (by kernel_rfl)
  have key : ∀ (b : BL), (∀ p ∈ b, ∃ ct fz, W.heap[p.1]? = some (.cells ⟨p.2⟩ ct fz)) → ∀ k x, bOf b k = some x → ∃ ct fz, W.heap[k]? = some (.cells ⟨x.cs⟩ ct fz) := by
    intro b
    induction b with
    | nil => intro _ k x hx; cases hx
    | cons p r ih =>
      obtain ⟨g, cs⟩ := p
      intro hb k x hx
      simp only [bOf] at hx
      split at hx
      · rename_i e
        cases hx
        rw [← Nat.eq_of_beq_eq_true e]
        exact hb (g, cs) (by simp)
      · exact ih (fun p hp => hb p (by simp [hp])) k x hx
  refine key bl0 fun p hp => ?_
  simp only [bl0, List.mem_cons, List.not_mem_nil, or_false] at hp
  rcases hp with rfl | rfl | rfl
  · exact h2
  · exact h4
  · exact h5
theorem bOf_real : ∀ (b : BL) k x, bOf b k = some x → x = laidBB k x.cs
  | [], k, x, h => by cases h
  | (g, cs) :: r, k, x, h => by
    simp only [bOf] at h
    split at h
    · rename_i e; cases h; rw [Nat.eq_of_beq_eq_true e]; rfl
    · exact bOf_real r k x h
theorem bb0_ok {W : World} (h : laidMetH Tryz.prog laidList W) : BBok B0 W := by
  refine ⟨fun k x hx _ => ?_, fun k x hx => ?_⟩
  · rw [bOf_real _ k x hx]; exact ⟨rfl, rfl⟩
  · obtain ⟨ct, fz, hw⟩ := laid_heap h k x hx
    have hf := b0_flat k x hx
    rw [bOf_real _ k x hx]
    exact laidBB_ok hw hf
end Go.Proofs.YtflbffhahoblfaaGreatDoor
