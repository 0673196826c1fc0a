/- Contracts: the most of a team; what a set of teams proves. -/
import Derived.Test.YtppflopinmkpgaaDoorElB
import Derived.Test.YtppflopinmkpgaaDoorFnL
import Derived.Test.YtppflopinmkpgaaDoorOpA
noncomputable section
namespace Go.Proofs.YtppflopinmkpgaaDoor
open Go Go.Den
set_option maxRecDepth 10000

def ptL (pts : List Int) (k : Int) : Int := pts[k.toNat]?.getD 0
theorem ptL_eq {pts : List Int} {k : Int} (h : k.toNat < pts.length) : pts[k.toNat] = ptL pts k := by simp [ptL, h]
theorem ptL_bound {pts : List Int} {opn : List (Int × Int)} (hg : GoodR pts opn) (k : Int) : 0 ≤ ptL pts k ∧ ptL pts k ≤ 999999999 := by
  unfold ptL
  cases h : pts[k.toNat]? with
  | none => simp
  | some x => exact hg.pt x (List.mem_of_getElem? h)
def hasT (team : Int) (p : Int × Int) : Bool := [p.1, p.2].any fun x => team == x
def mostL (pts : List Int) (opn : List (Int × Int)) (team : Int) : Int := ptL pts team + 2 * (opn.countP (hasT team) : Nat)
theorem count_take {α : Type} {p : α → Bool} {l : List α} {i : Nat} (h : i < l.length) : (l.take (i + 1)).countP p = (l.take i).countP p + if p l[i] then 1 else 0 := by
  rw [take_snoc h, List.countP_append]; simp [List.countP_cons]
theorem count_le {α : Type} {p : α → Bool} {l : List α} {i : Nat} : (l.take i).countP p ≤ l.length := by
  have := List.countP_le_length (p := p) (l := l.take i)
  rw [List.length_take] at this; omega

theorem most_c {H : AHeap} {q r : Option Addr} {c d : Nat} {pts : List Int} {opn : List (Int × Int)} {team : Int} (hs : SlAt H 1 i1 q pts) (ht : SlAt H 2 p2 r opn) (hg : GoodR pts opn) (h0 : 0 ≤ team) (h1 : team < pts.length) :
    Ret Tryd.prog 37 [Rv q pts.length c r opn.length d, I team] H (I (mostL pts opn team)) H := by
  have hp : team.toNat < pts.length := by omega
  have hpb := ptL_bound hg team
  have hlen := hg.len
  have hpe := ptL_eq hp
  obtain ⟨b, o, cs, z, s, ro, rfl, hg1, hw1⟩ := hs.out (by intro e; rw [e] at hp; simp at hp)
  refine fn_start Tryd.func37 rfl rfl rfl fun hc => ?_
  apply ct_seq
  apply ct_region
  apply seq_newP; exact do_box rfl rfl rfl; exact rfl
  apply seq_plain; exact do_assign rfl; exact rfl
  apply seq_nil
  apply ct_seq
  apply ct_region
  apply seq_plain; exact do_fieldAddr rfl rfl; exact rfl
  apply seq_plain; exact do_load rfl (by exact ext_get_new rfl) rfl (by exact rfl); exact rfl
  apply seq_plain; exact do_move rfl; exact rfl
  apply seq_plain; exact do_indexAddrS rfl rfl rfl (by exact idx_int (by omega)); exact rfl
  apply seq_plain; exact do_load rfl (by exact ext_get_old (by assumption) (by assumption)) rfl (by exact pt_sl0 (by assumption) (by omega)); exact rfl
  apply seq_plain; exact do_assign rfl; exact rfl
  apply seq_nil
  apply ct_seq
  apply ct_seq
  apply ct_region
  apply seq_plain; exact do_fieldAddr rfl rfl; exact rfl
  apply seq_plain; exact do_load rfl (by exact ext_get_new rfl) rfl (by exact rfl); exact rfl
  apply seq_plain; exact do_lenS rfl rfl rfl; exact rfl
  apply seq_plain; exact do_move rfl; exact rfl
  apply seq_nil
  apply ct_block
  apply ct_loop
  rw [hpe]
  refine lt_upB hc (fun i => [(1, I team), (5, I (ptL pts team + 2 * ((opn.take i).countP (hasT team) : Nat))), (14, .slice r opn.length d), (15, I opn.length), (16, I i)]) (fun _ => True) opn.length (fun i h lo hc' hE0 hi _ ih => ?_) 0 (by omega) trivial (by simp; (repeat (first | exact sub_nil | apply sub_cons rfl)))
  have hE := (ext_Ext hc).trans hE0
  clear hE0
  apply ct_seq
  apply ct_region
  apply seq_plain; exact do_binInt rfl rfl rfl trivial; exact rfl
  apply seq_nil
  apply ct_seq
  refine ct_cond rfl (fun h2 => ?_) (fun h2 => ?_)
  · simp only [decide_eq_true_eq, Int.ofNat_lt] at h2
    obtain ⟨b', o', cs', z', s', ro', rfl, hg', hw'⟩ := ht.out (by intro e; rw [e] at h2; simp at h2)
    have hg' := hE _ _ hg'
    have hcnt : (opn.take i).countP (hasT team) ≤ opn.length := count_le
    have e1 := count_take (p := hasT team) h2
    apply ct_skip
    apply ct_seq
    apply ct_block
    apply ct_seq
    apply ct_region
    apply seq_plain; exact do_indexAddrS rfl rfl rfl (by exact idx_nat (by omega)); exact rfl
    apply seq_plain; exact do_load rfl (by exact ext_get_old (by assumption) (by assumption)) rfl (by exact pt_sl (by assumption) (by omega)); exact rfl
    apply seq_newP; exact do_alloc rfl rfl; exact rfl
    apply seq_putC (hc := by assumption); rotate_left; exact do_store rfl rfl (by exact ext_get_new rfl) rfl rfl (nb_own _); rotate_left; exact Nat.le_of_ble_eq_true rfl
    apply ct_seq
    apply ct_region
    apply seq_plain; exact do_sliceArr rfl rfl rfl; exact rfl
    apply seq_plain; exact do_move rfl; exact rfl
    apply seq_call (ht := rfl); exact contains_c (l := [opn[i].1, opn[i].2]) (slAt_map (ext_get_new rfl)) (by simp); exact rfl
    apply seq_nil
    refine ct_cond rfl (fun h3 => ?_) (fun h3 => ?_)
    · have h3 : hasT team opn[i] = true := h3
      have e2 : ptL pts team + 2 * ((opn.take (i + 1)).countP (hasT team) : Nat) = ptL pts team + 2 * ((opn.take i).countP (hasT team) : Nat) + 2 := by rw [e1, h3]; simp; omega
      apply ct_region
      apply seq_plain; exact do_move rfl; exact rfl
      apply seq_plain; exact do_add rfl rfl (by omega); exact rfl
      apply seq_plain; exact do_assign rfl; exact rfl
      apply seq_nil
      apply ct_region
      apply seq_plain; exact do_succ rfl (by omega); exact rfl
      apply seq_plain; exact do_move rfl; exact rfl
      apply seq_nil
      have ih := fun h' lo2 L2 a b => ih (i + 1) h' lo2 L2 a b (by omega) (by omega) trivial
      rw [e2] at ih
      exact lt_sub (by repeat (first | exact sub_nil | apply sub_cons rfl)) (ih _ _ _ hc' (.refl _))
    · have h3 : hasT team opn[i] = false := h3
      have e2 : (opn.take (i + 1)).countP (hasT team) = (opn.take i).countP (hasT team) := by rw [e1, h3]; simp
      apply ct_skip
      apply ct_region
      apply seq_plain; exact do_succ rfl (by omega); exact rfl
      apply seq_plain; exact do_move rfl; exact rfl
      apply seq_nil
      have ih := fun h' lo2 L2 a b => ih (i + 1) h' lo2 L2 a b (by omega) (by omega) trivial
      rw [e2] at ih
      exact lt_sub (by repeat (first | exact sub_nil | apply sub_cons rfl)) (ih _ _ _ hc' (.refl _))
  · simp only [decide_eq_false_iff_not, Int.ofNat_lt] at h2
    rw [take_all (by omega)]
    apply ct_exit
    apply exit_eq; exact rfl
    apply ct_seq
    apply ct_region
    apply seq_plain; exact do_move rfl; exact rfl
    apply seq_plain; exact do_assign rfl; exact rfl
    apply seq_nil
    apply ct_ret
    exact fin_flatB hc hc' hE rfl rfl ⟨rfl, rfl⟩

theorem hasT_or {team : Int} {p : Int × Int} : hasT team p = ((p.1 == team) || (p.2 == team)) := by
  rw [Bool.eq_iff_iff]
  simp only [hasT, List.any_cons, List.any_nil, Bool.or_false, Bool.or_eq_true, beq_iff_eq]
  omega

end Go.Proofs.YtppflopinmkpgaaDoor
/- Contracts: what a set of teams proves. -/
noncomputable section
namespace Go.Proofs.YtppflopinmkpgaaDoor
open Go Go.Den
set_option maxRecDepth 10000

def sumP (pts : List Int) (set : List Int) : Int := (set.map (ptL pts)).sum
def inS (set : List Int) (p : Int × Int) : Bool := (set.any fun x => p.1 == x) && (set.any fun x => p.2 == x)
def proveL (pts : List Int) (opn : List (Int × Int)) (team : Int) (set : List Int) : Bool := decide (sumP pts set + 2 * (opn.countP (inS set) : Nat) > set.length * mostL pts opn team)
theorem mostL_bound {pts : List Int} {opn : List (Int × Int)} (hg : GoodR pts opn) (team : Int) : 0 ≤ mostL pts opn team ∧ mostL pts opn team ≤ 1000000127 := by
  have h1 := ptL_bound hg team
  have h2 := List.countP_le_length (p := hasT team) (l := opn)
  have h3 := hg.len
  unfold mostL; omega
theorem mkBools {l : EL} {h : AHeap} {a : Operand} {n : Nat} (ha : ev l a = some (I n)) (hn : n ≤ 24) : Does Tryd.prog l (.makeSlice 95 a a) h (.slice (some ⟨h.fresh, 0, none⟩) n n) (h.add (.cells ((List.replicate n false).map Value.bool) 1 false false)) := by
  rw [← repl_map]
  exact do_makeSlice ha ha rfl rfl rfl rfl (Nat.le_refl _) (by omega) (Nat.le_trans (Nat.mul_le_mul_left _ hn) (Nat.le_of_ble_eq_true rfl))
end Go.Proofs.YtppflopinmkpgaaDoor
/- Bits of numbers; sets by their bits; the first best set. -/
noncomputable section
namespace Go.Proofs.YtppflopinmkpgaaDoor
open Go Go.Den
set_option maxRecDepth 10000

section
variable {P : Program} {l : EL} {h : AHeap}
end

/-- the numbers below k whose bit is set -/
def setTo (k bits : Nat) : List Int := ((List.range k).filter fun i => (bits >>> i) % 2 == 1).map fun (i : Nat) => (i : Int)
theorem setTo_mem {k bits : Nat} {x : Int} : x ∈ setTo k bits ↔ 0 ≤ x ∧ x < k ∧ (bits >>> x.toNat) % 2 = 1 := by
  unfold setTo
  simp only [List.mem_map, List.mem_filter, List.mem_range, beq_iff_eq]
  constructor
  · rintro ⟨i, ⟨h1, h2⟩, rfl⟩
    exact ⟨by omega, by omega, by simpa using h2⟩
  · rintro ⟨h1, h2, h3⟩
    exact ⟨x.toNat, ⟨by omega, h3⟩, by omega⟩
theorem setTo_sorted {k bits : Nat} : (setTo k bits).Pairwise (· < ·) := by
  unfold setTo
  rw [List.pairwise_map]
  refine List.Pairwise.imp ?_ ((List.pairwise_lt_range (n := k)).filter _)
  intro a b h; omega
def stepB (pts : List Int) (opn : List (Int × Int)) (team : Int) (best : List Int) (k : Nat) : List Int :=
  if ((best.isEmpty || beforeL (setTo pts.length k) best) && !(setTo pts.length k).isEmpty && ((k >>> team.toNat) % 2 == 0) && proveL pts opn team (setTo pts.length k)) = true then setTo pts.length k else best
def bestTo (pts : List Int) (opn : List (Int × Int)) (team : Int) : Nat → List Int
  | 0 => []
  | k + 1 => stepB pts opn team (bestTo pts opn team k) k
def bestL (pts : List Int) (opn : List (Int × Int)) (team : Int) : List Int := bestTo pts opn team (2 ^ pts.length)

end Go.Proofs.YtppflopinmkpgaaDoor

/- The law's own check of the document's examples. -/
namespace Go.Proofs.YtppflopinmkpgaaDoor
open Go Go.Den
set_option maxRecDepth 100000
theorem nap_run : allAre isTrue ((iterM Tryd.prog (ctxOf Tryd.prog) bl0 [] 10000).call 5 [] (heapOf B0)) = true := by kernel_rfl
theorem nap_call : CallT Tryd.prog 5 [] (heapOf B0) (fun u _ => u = .bool true) := by
  have h := nap_run
  unfold allAre at h
  split at h
  · rename_i l hl
    refine ((iterM_ok bl0_ok memo_nil PC.ok 10000).call hl).mono fun u k hm => isTrue_eq u ?_
    rw [List.all_eq_true] at h
    exact h _ hm
  · cases h
theorem nap_c {H : AHeap} (hG : Glo B0 H) : Ret Tryd.prog 5 [] H (.bool true) H := ret_frame nap_call b0_flat rfl rfl hG
end Go.Proofs.YtppflopinmkpgaaDoor
/- LeagueEliminates: the contract over every input, the row's forms, the card. -/
noncomputable section
namespace Go.Proofs.YtppflopinmkpgaaDoor
open Go Go.Den Go.ChangeShapes Go.WideShapes Go.ChangeAt Go.RowKit Go.Deep
set_option maxRecDepth 10000
noncomputable instance : Inhabited (Int × Int) := ⟨(0, 0)⟩

section
variable {H : Type} {enc : TypeId × Value → H} {W : World} {sp : Nat → Bool} {hd : Bool} {fuel : Nat}
end

end Go.Proofs.YtppflopinmkpgaaDoor
