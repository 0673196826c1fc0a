/- Contracts: pairs of teams. -/
import Derived.Test.YtppflopinmkpgaaDoorFnA
import Derived.Test.YtppflopinmkpgaaDoorSxA
import Derived.Deep.Slices
import Derived.Deep.Strs
import Derived.Test.YtppflopinmkpgaaDoorCards
import Derived.Test.YtppflopinmkpgaaDoorTie
import Derived.Test.YtppflopinmkpgaaDoorBase
import Derived.MakeChecks
import Derived.LaidMore
import Derived.WalkKit
import Derived.ProofKit
import Derived.OpenShut
import Derived.Deep.DeepHandedRow
import Derived.Lib.LaidTab
noncomputable section
namespace Go.Proofs.YtppflopinmkpgaaDoor
open Go Go.Den
set_option maxRecDepth 10000

abbrev Pr (a b : Int) : Value := .agg ⟨[I a, I b]⟩
theorem turned138 {H : AHeap} {a b : Int} : Ret Tryd.prog 55 [Pr a b] H (Pr b a) H := by
  refine fn_start Tryd.func55 rfl rfl rfl fun hc => ?_
  apply ct_seq
  apply ct_region
  apply seq_newP; exact do_box rfl rfl rfl; exact rfl
  apply seq_newP; exact do_alloc rfl rfl; exact rfl
  apply seq_nil
  apply ct_seq
  apply ct_region
  apply seq_plain; exact do_indexAddrA rfl rfl rfl (by exact rfl); exact rfl
  apply seq_plain; exact do_load rfl (by exact ext_get_new rfl) rfl (by exact rfl); exact rfl
  apply seq_plain; exact do_indexAddrA rfl rfl rfl (by exact rfl); exact rfl
  apply seq_plain; exact do_load rfl (by exact ext_get_new rfl) rfl (by exact rfl); exact rfl
  apply seq_plain; exact do_build rfl rfl rfl rfl; exact rfl
  apply seq_putC (hc := by assumption); rotate_left; exact do_store rfl rfl (by exact ext_get_new rfl) rfl rfl (nb_own _); rotate_left; exact Nat.le_of_ble_eq_true rfl
  apply ct_ret
  exact fin_cell hc rfl rfl (by exact ext_get_new rfl) (by exact rfl) (by exact rfl) (by exact rfl) (by exact ⟨rfl, rfl⟩)

def pairL (n a b : Int) : Int := firstL [whenL ([a, b].any (unknownL n)) 10, whenL (a == b) 9]
theorem check162 {H : AHeap} {n a b : Int} : Ret Tryd.prog 57 [Pr a b, I n] H (I (pairL n a b)) H := by
  refine fn_start Tryd.func57 rfl rfl rfl fun hc => ?_
  apply ct_seq
  apply ct_region
  apply seq_newP; exact do_box rfl rfl rfl; exact rfl
  apply seq_plain; exact do_assign rfl; exact rfl
  apply seq_nil
  apply ct_seq
  apply ct_draw (by assumption); decide +kernel
  apply sd_plain (hfree := rfl); intro _; exact do_move rfl; exact rfl
  apply sd_plain (hfree := rfl); intro _; exact do_indexAddrA rfl rfl rfl (by exact rfl); exact rfl
  apply sd_look (hfree := rfl); exact do_load rfl (by exact ext_get_new rfl) rfl (by exact rfl); exact rfl
  apply sd_plain (hfree := rfl); intro _; exact do_indexAddrA rfl rfl rfl (by exact rfl); exact rfl
  apply sd_look (hfree := rfl); exact do_load rfl (by exact ext_get_new rfl) rfl (by exact rfl); exact rfl
  apply sd_newS (hfree := rfl); exact do_buildSlice rfl rfl rfl rfl rfl rfl rfl; exact rfl
  apply sd_callM (ht := rfl) (hw := rfl); decide +kernel; exact known125 (l := [_, _]) (slAt_map (ext_get_new rfl)) (by simp); exact rfl
  apply sd_plain (hfree := rfl); intro _; exact do_indexAddrA rfl rfl rfl (by exact rfl); exact rfl
  apply sd_look (hfree := rfl); exact do_load rfl (by exact ext_get_new rfl) rfl (by exact rfl); exact rfl
  apply sd_plain (hfree := rfl); intro _; exact do_indexAddrA rfl rfl rfl (by exact rfl); exact rfl
  apply sd_look (hfree := rfl); exact do_load rfl (by exact ext_get_new rfl) rfl (by exact rfl); exact rfl
  apply sd_plain (hfree := rfl); intro _; exact do_binInt rfl rfl rfl trivial; exact rfl
  apply sd_call (ht := rfl); exact when85; exact rfl
  apply sd_newS (hfree := rfl); exact do_buildSlice rfl rfl rfl rfl rfl rfl rfl; exact rfl
  apply sd_callM (ht := rfl) (hw := rfl); decide +kernel; exact first84 (l := [_, _]) (slAt_map (ext_get_new rfl)) (by simp); exact rfl
  apply sd_plain (hfree := rfl); intro _; exact do_assign rfl; exact rfl
  apply sd_nil
  apply ct_ret
  exact fin_flat hc rfl rfl ⟨rfl, rfl⟩
end Go.Proofs.YtppflopinmkpgaaDoor
/- Contracts: fixtures, what is wrong with a list of them. -/
noncomputable section
namespace Go.Proofs.YtppflopinmkpgaaDoor
open Go Go.Den
set_option maxRecDepth 10000

theorem ty169 : ∃ ti e ei, (ctxOf Tryd.prog).ty.get 112 = some ti ∧ ti.und = .array 2 e ∧ (ctxOf Tryd.prog).ty.get e = some ei ∧ ei.size = 1 ∧ isAggD ei.und = false ∧ ei.und = .int .i64 :=
  ⟨_, 3, _, ctx_ty rfl, rfl, ctx_ty rfl, rfl, rfl, rfl⟩
theorem eqV169 (a b c d : Int) : eqV Tryd.prog (ctxOf Tryd.prog) 20 112 (Pr a b) (Pr c d) = some ((a == c) && (b == d)) := by
  obtain ⟨ti, e, ei, h1, h2, h3, h4, h5, h6⟩ := ty169
  have one : ∀ x y : Int, eqV Tryd.prog (ctxOf Tryd.prog) 19 e (I x) (I y) = some (x == y) := by
    intro x y
    simp only [eqV, h3, h6]; simp
  have p0 : ∀ x y : Int, partA ei [I x, I y] (0 * 1) = some (I x) := by intro x y; simp [partA, h5]
  have p1 : ∀ x y : Int, partA ei [I x, I y] (1 * 1) = some (I y) := by intro x y; simp [partA, h5]
  rw [eqV]
  simp only [h1, h2, h3]
  simp only [show List.range 2 = [0, 1] from rfl, eqIs, h4, p0, p1, one]
  cases (a == c) <;> cases (b == d) <;> rfl
def prV (p : Int × Int) : Value := Pr p.1 p.2
theorem keyPr : KeyOk Tryd.prog 112 prV := by
  refine ⟨fun a => ?_, fun a => ?_, fun a b => ?_, fun a => ?_⟩
  · obtain ⟨ti, e, ei, h1, h2, h3, h4, h5, h6⟩ := ty169
    have one : ∀ x : Int, chkV (ctxOf Tryd.prog) 19 e (I x) = true := by
      intro x
      simp only [chkV, h3, h6]
    have p0 : ∀ x y : Int, partA ei [I x, I y] (0 * 1) = some (I x) := by intro x y; simp [partA, h5]
    have p1 : ∀ x y : Int, partA ei [I x, I y] (1 * 1) = some (I y) := by intro x y; simp [partA, h5]
    have hv : chkV (ctxOf Tryd.prog) 20 112 (Pr a.1 a.2) = true := by
      rw [chkV]
      simp only [h1, h2, h3]
      simp only [show List.range 2 = [0, 1] from rfl, chkIs, h4, p0, p1, one]
      rfl
    simp [keyOk, prV, flatC, Value.cells]
    exact hv
  · simp [prV, flatC, Value.cells]
  · rw [prV, prV, eqV169]
    congr 1
    obtain ⟨a1, a2⟩ := a
    obtain ⟨b1, b2⟩ := b
    by_cases h1 : a1 = b1 <;> by_cases h2 : a2 = b2 <;> simp [h1, h2]
  · simp [sameKey, prV, eqFlats, eqFlat]

structure Fx where
  day : Int
  home : Int
  away : Int
def fx (x : Fx) : List Value := [I x.day, I x.home, I x.away]
end Go.Proofs.YtppflopinmkpgaaDoor
/- Contracts: the reference's word on a list of fixtures. -/
noncomputable section
namespace Go.Proofs.YtppflopinmkpgaaDoor
open Go Go.Den
set_option maxRecDepth 10000

theorem outL_f {n a b : Int} (h : outL n a b = false) : a ≤ n ∧ n ≤ b := by simp [outL] at h; omega
end Go.Proofs.YtppflopinmkpgaaDoor
/- Contracts: counts of home matches; same lists; copies. -/
noncomputable section
namespace Go.Proofs.YtppflopinmkpgaaDoor
open Go Go.Den
set_option maxRecDepth 10000

theorem take_snoc {α : Type} {l : List α} {i : Nat} (h : i < l.length) : l.take (i + 1) = l.take i ++ [l[i]] := by
  rw [List.take_add_one, List.getElem?_eq_getElem h]; rfl

theorem take_all {α : Type} {l : List α} {i : Nat} (h : l.length ≤ i) : l.take i = l := List.take_of_length_le h
theorem flat_ints (m : List Int) : (m.map I).all (flatD 8) = true := by
  rw [List.all_eq_true]
  intro x hx
  obtain ⟨y, _, rfl⟩ := List.mem_map.1 hx
  rfl
theorem mk33 {l : EL} {h : AHeap} {a : Operand} {n : Nat} (ha : ev l a = some (I n)) (hn : n ≤ 24) : Does Tryd.prog l (.makeSlice 40 a a) h (.slice (some ⟨h.fresh, 0, none⟩) n n) (h.add (.cells ((List.replicate n 0).map I) 1 false false)) := by
  rw [← repl_map]
  exact do_makeSlice ha ha rfl rfl rfl rfl (Nat.le_refl _) (by omega) (Nat.le_trans (Nat.mul_le_mul_left _ hn) (Nat.le_of_ble_eq_true rfl))

theorem fx_len (x : Fx) : (fx x).length = 3 := rfl
theorem flat_fx (m : List Fx) : (m.flatMap fx).all (flatD 8) = true := by
  rw [List.all_eq_true]
  intro x hx
  obtain ⟨y, _, hy⟩ := List.mem_flatMap.1 hx
  simp only [fx, List.mem_cons, List.not_mem_nil, or_false] at hy
  rcases hy with rfl | rfl | rfl <;> rfl

theorem firstL_zero {l : List Int} (h : firstL l = 0) : ∀ x ∈ l, x = 0 := by
  intro x hx
  by_cases hx0 : x = 0
  · exact hx0
  · exfalso
    cases hf : l.find? (fun e => decide (e ≠ 0)) with
    | none =>
      rw [List.find?_eq_none] at hf
      exact hf x hx (by simpa using hx0)
    | some y =>
      have := List.find?_some hf
      simp only [firstL, hf, Option.getD_some] at h
      simp [h] at this
end Go.Proofs.YtppflopinmkpgaaDoor
/- Plain law: all pairs met are counted. -/
noncomputable section
namespace Go.Proofs.YtppflopinmkpgaaDoor
open Go Go.Den

theorem nodup_len {α : Type} [DecidableEq α] : ∀ {k m : List α}, k.Nodup → (∀ x ∈ k, x ∈ m) → k.length ≤ m.length
  | [], _, _, _ => by simp
  | a :: r, m, hn, hs => by
    rw [List.nodup_cons] at hn
    have ha := hs a (List.mem_cons_self ..)
    have := nodup_len (k := r) (m := m.erase a) hn.2 (fun x hx => (List.mem_erase_of_ne (fun e => hn.1 (by rw [← e]; exact hx))).2 (hs x (List.mem_cons_of_mem _ hx)))
    rw [List.length_erase_of_mem ha] at this
    have := List.length_pos_of_mem ha
    simp only [List.length_cons]
    omega
theorem mem_addK {α : Type} [DecidableEq α] {k : List α} {a x : α} : x ∈ addK k a ↔ x ∈ k ∨ x = a := by
  unfold addK
  split
  · rename_i h
    constructor
    · exact .inl
    · rintro (h' | rfl)
      · exact h'
      · exact h
  · simp
end Go.Proofs.YtppflopinmkpgaaDoor
/- Opening a list of fixtures. -/
noncomputable section
namespace Go.Proofs.YtppflopinmkpgaaDoor
open Go Go.Den Go.ChangeShapes Go.Deep
set_option maxRecDepth 10000
noncomputable instance : Inhabited Fx := ⟨⟨0, 0, 0⟩⟩

theorem add_none (b o n : Nat) : (⟨b, o, none⟩ : Addr).add n = ⟨b, o + n, none⟩ := by
  unfold Addr.add
  split
  · rename_i h; subst h; rfl
  · rfl
end Go.Proofs.YtppflopinmkpgaaDoor
/- What the listed package-level variables hold; the law's own check of the document's examples. -/
namespace Go.Proofs.YtppflopinmkpgaaDoor
open Go Go.Den
set_option maxRecDepth 100000

def cs0 : List Value := [.string ⟨⟨[112, 108, 97, 121, 101, 100]⟩⟩, .int .i64 0, .string ⟨⟨[104, 111, 109, 101]⟩⟩, .int .i64 1, .string ⟨⟨[97, 119, 97, 121]⟩⟩, .int .i64 (-1)]
def bl0 : BL := [(0, cs0)]
noncomputable abbrev B0 : Nat → Option BB := bOf bl0
theorem bl0_ok : blOk bl0 = true := by kernel_rfl

def laidList : List (String × DataW Unit) := [("baulk/league.kinds", Rows.laid_baulk_league_kinds)]

theorem b0_flat : ∀ k x, B0 k = some x → x.cs.all flatC = true := fun k x h => (bOf_ok bl0_ok k x h).2

/-- the variables' cells in a world that meets the row's list -/
theorem laid_heap {W : World} (h : laidMetH Tryd.prog laidList W) : ∀ k x, B0 k = some x → ∃ ct fz, W.heap[k]? = some (.cells ⟨x.cs⟩ ct fz) := by
  rw [MakeChecks.laidMetH_plain _ _ _ (by kernel_rfl)] at h
  obtain ⟨ps, hL, _, _⟩ := h
  have h0 := laid_cells hL (n := "baulk/league.kinds") (d := Rows.laid_baulk_league_kinds) (g := 0) (t := 136) (cs := cs0) (by simp [laidList]) (by kernel_rfl) (by kernel_rfl) (by kernel_rfl) (by kernel_rfl)
  have key : ∀ (b : BL), (∀ p ∈ b, ∃ ct fz, W.heap[p.1]? = some (.cells ⟨p.2⟩ ct fz)) → ∀ k x, bOf b k = some x → ∃ ct fz, W.heap[k]? = some (.cells ⟨x.cs⟩ ct fz) := by
    intro b
    induction b with
    | nil => intro _ k x hx; cases hx
    | cons p r ih =>
      obtain ⟨g, cs⟩ := p
      intro hb k x hx
      simp only [bOf] at hx
      split at hx
      · rename_i e
        cases hx
        rw [← Nat.eq_of_beq_eq_true e]
        exact hb (g, cs) (by simp)
      · exact ih (fun p hp => hb p (by simp [hp])) k x hx
  refine key bl0 fun p hp => ?_
  simp only [bl0, List.mem_cons, List.not_mem_nil, or_false] at hp
  subst hp
  exact h0

theorem bOf_real : ∀ (b : BL) k x, bOf b k = some x → x = laidBB k x.cs
  | [], k, x, h => by cases h
  | (g, cs) :: r, k, x, h => by
    simp only [bOf] at h
    split at h
    · rename_i e; cases h; rw [Nat.eq_of_beq_eq_true e]; rfl
    · exact bOf_real r k x h

theorem bb0_ok {W : World} (h : laidMetH Tryd.prog laidList W) : BBok B0 W := by
  refine ⟨fun k x hx _ => ?_, fun k x hx => ?_⟩
  · rw [bOf_real _ k x hx]; exact ⟨rfl, rfl⟩
  · obtain ⟨ct, fz, hw⟩ := laid_heap h k x hx
    have hf := b0_flat k x hx
    rw [bOf_real _ k x hx]
    exact laidBB_ok hw hf

end Go.Proofs.YtppflopinmkpgaaDoor
/- LeagueChecks: the contract over every input. -/
noncomputable section
namespace Go.Proofs.YtppflopinmkpgaaDoor
open Go Go.Den Go.ChangeShapes Go.WideShapes Go.ChangeAt Go.RowKit
set_option maxRecDepth 10000

theorem b0_high {k : Nat} {x : BB} (h : B0 k = some x) : k < 1000 := by
  have h2 := (bOf_ok bl0_ok k x h).1
  first | exact h2 | omega | exact h2.1
theorem glo_ext {B : Nat → Option BB} {H : AHeap} (hB : ∀ k x, B0 k = some x → B k = some x) (hE : Ext (heapOf B) H) : Glo B0 H := by
  intro k x hx
  have := hE _ _ (heapOf_get (hB k x hx))
  rw [AHeap.get_odd _ (by omega)] at this
  rw [show (2 * k + 1) / 2 = k by omega] at this
  exact this
