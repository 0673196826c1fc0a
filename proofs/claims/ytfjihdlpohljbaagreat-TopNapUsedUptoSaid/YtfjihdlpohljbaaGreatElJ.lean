/- Contracts: races, pairs, searches in lists of numbers, comparisons. -/
import Derived.Test.YtfjihdlpohljbaaGreatSxK
import Derived.Test.YtfjihdlpohljbaaGreatOpA
noncomputable section
namespace Go.Proofs.YtfjihdlpohljbaaGreat
open Go Go.Den
set_option maxRecDepth 10000

abbrev p2 (p : Int × Int) : List Value := [I p.1, I p.2]
theorem isNaN_c {H : AHeap} {n : Int} : Ret Tryz.prog 94 [I n] H (.bool false) H := by
  refine fn_start Tryz.func94 rfl rfl rfl fun hc => ?_
  apply ct_seq
  apply ct_region
  apply seq_plain; exact do_assign rfl; exact rfl
  apply seq_nil
  apply ct_seq
  apply ct_region
  apply seq_plain; exact do_move rfl; exact rfl
  apply seq_plain; exact do_move rfl; exact rfl
  apply seq_plain; exact do_binInt rfl rfl rfl trivial; exact rfl
  apply seq_plain; exact do_assign rfl; exact rfl
  apply seq_nil
  apply ct_ret
  refine fin_flat hc rfl rfl ⟨?_, rfl⟩
  have : (n != n) = false := by simp
  show Value.bool (n != n) = _
  rw [this]

def cmpI (a b : Int) : Int := if a < b then -1 else if a > b then 1 else 0
theorem compare_c {H : AHeap} {a b : Int} : Ret Tryz.prog 60 [I a, I b] H (I (cmpI a b)) H := by
  refine fn_start Tryz.func60 rfl rfl rfl fun hc => ?_
  apply ct_seq
  apply ct_region
  apply seq_plain; exact do_assign rfl; exact rfl
  apply seq_nil
  apply ct_seq
  apply ct_region
  apply seq_plain; exact do_move rfl; exact rfl
  apply seq_call (ht := rfl); exact isNaN_c; exact rfl
  apply seq_plain; exact do_assign rfl; exact rfl
  apply seq_nil
  apply ct_seq
  apply ct_region
  apply seq_plain; exact do_move rfl; exact rfl
  apply seq_call (ht := rfl); exact isNaN_c; exact rfl
  apply seq_plain; exact do_assign rfl; exact rfl
  apply seq_nil
  apply ct_seq
  apply ct_seq
  apply ct_region
  apply seq_plain; exact do_move rfl; exact rfl
  apply seq_nil
  refine ct_cond_f rfl rfl ?_
  apply ct_skip
  apply ct_seq
  apply ct_seq
  apply ct_region
  apply seq_plain; exact do_move rfl; exact rfl
  apply seq_nil
  refine ct_cond_f rfl rfl ?_
  apply ct_skip
  apply ct_seq
  apply ct_seq
  apply ct_region
  apply seq_plain; exact do_move rfl; exact rfl
  apply seq_plain; exact do_move rfl; exact rfl
  apply seq_plain; exact do_binInt rfl rfl rfl trivial; exact rfl
  apply seq_nil
  refine ct_cond rfl (fun h1 => ?_) (fun h1 => ?_)
  · simp only [decide_eq_true_eq] at h1
    apply ct_seq
    apply ct_region
    apply seq_plain; exact do_assign rfl; exact rfl
    apply seq_nil
    apply ct_ret
    refine fin_flat hc rfl rfl ⟨?_, rfl⟩
    simp [packA, cmpI, h1]
  · simp only [decide_eq_false_iff_not] at h1
    apply ct_skip
    apply ct_seq
    apply ct_seq
    apply ct_region
    apply seq_plain; exact do_move rfl; exact rfl
    apply seq_plain; exact do_move rfl; exact rfl
    apply seq_plain; exact do_binInt rfl rfl rfl trivial; exact rfl
    apply seq_nil
    refine ct_cond rfl (fun h2 => ?_) (fun h2 => ?_)
    · simp only [decide_eq_true_eq] at h2
      apply ct_seq
      apply ct_region
      apply seq_plain; exact do_assign rfl; exact rfl
      apply seq_nil
      apply ct_ret
      refine fin_flat hc rfl rfl ⟨?_, rfl⟩
      simp [packA, cmpI, h1, h2]
    · simp only [decide_eq_false_iff_not] at h2
      apply ct_skip
      apply ct_seq
      apply ct_region
      apply seq_plain; exact do_assign rfl; exact rfl
      apply seq_nil
      apply ct_ret
      refine fin_flat hc rfl rfl ⟨?_, rfl⟩
      have h2' : ¬ b < a := h2
      simp [packA, cmpI, h1, h2']

end Go.Proofs.YtfjihdlpohljbaaGreat
/- LeagueEliminates: the law's own walk. -/
noncomputable section
namespace Go.Proofs.YtfjihdlpohljbaaGreat
open Go Go.Den
set_option maxRecDepth 10000

structure LowS (q : Option Addr) (c n : Nat) : Prop where
  cap : n ≤ c
  nil : q = none → n = 0 ∧ c = 0
  spot : ∀ a, q = some a → a.spot = none

end Go.Proofs.YtfjihdlpohljbaaGreat

/- The law's own check of the document's examples, run call by call. -/
namespace Go.Proofs.YtfjihdlpohljbaaGreat
open Go Go.Den
set_option maxRecDepth 100000
def w22x0 : Memo := ⟨22, [.slice (some ⟨0, 0, none⟩) 1 1, .slice (some ⟨2, 0, none⟩) 2 2], [.cells [.string ⟨⟨[97]⟩⟩, .string ⟨⟨[112, 111, 111, 108]⟩⟩] 2 false false, .cells [.string ⟨⟨[97, 110, 110]⟩⟩, .string ⟨⟨[112, 111, 111, 108]⟩⟩, .int .i64 4, .int .i64 8, .string ⟨⟨[98, 101, 110]⟩⟩, .string ⟨⟨[112, 111, 111, 108]⟩⟩, .int .i64 8, .int .i64 9] 4 false false], .tuple ⟨[.slice (some ⟨4, 0, none⟩) 2 2, .int .i64 0]⟩, [.cells [.int .i64 0, .int .i64 0] 1 false false]⟩
theorem w22x0_run : memoIs Tryz.prog (ctxOf Tryz.prog) bl0 [] 10000 w22x0 = true := by kernel_rfl
theorem w22x0_ret : Ret Tryz.prog w22x0.f w22x0.args (smallH (bOf bl0) w22x0.blks) w22x0.v (addL (smallH (bOf bl0) w22x0.blks) w22x0.ys) := memo_one bl0_ok memo_nil w22x0_run
def w12x1 : Memo := ⟨12, [.slice (some ⟨0, 0, none⟩) 1 1, .int .i64 4, .int .i64 9], [.cells [.int .i64 0, .int .i64 96, .int .i64 250] 3 false false], .tuple ⟨[.int .i64 1250, .int .i64 0]⟩, []⟩
theorem w12x1_run : memoIs Tryz.prog (ctxOf Tryz.prog) bl0 [] 10000 w12x1 = true := by kernel_rfl
theorem w12x1_ret : Ret Tryz.prog w12x1.f w12x1.args (smallH (bOf bl0) w12x1.blks) w12x1.v (addL (smallH (bOf bl0) w12x1.blks) w12x1.ys) := memo_one bl0_ok memo_nil w12x1_run
def w13x2 : Memo := ⟨13, [.slice (some ⟨0, 0, none⟩) 1 1, .int .i64 4, .int .i64 9, .int .i64 3], [.cells [.int .i64 0, .int .i64 96, .int .i64 250] 3 false false], .tuple ⟨[.slice (some ⟨2, 0, none⟩) 3 3, .int .i64 0]⟩, [.cells [.int .i64 417, .int .i64 417, .int .i64 416] 1 false false]⟩
theorem w13x2_run : memoIs Tryz.prog (ctxOf Tryz.prog) bl0 [] 10000 w13x2 = true := by kernel_rfl
theorem w13x2_ret : Ret Tryz.prog w13x2.f w13x2.args (smallH (bOf bl0) w13x2.blks) w13x2.v (addL (smallH (bOf bl0) w13x2.blks) w13x2.ys) := memo_one bl0_ok memo_nil w13x2_run
def w14x3 : Memo := ⟨14, [.int .i64 1250, .slice (some ⟨0, 0, none⟩) 3 3], [.cells [.int .i64 1, .int .i64 1, .int .i64 1] 1 false false], .tuple ⟨[.slice (some ⟨2, 0, none⟩) 3 3, .int .i64 0]⟩, [.cells [.int .i64 417, .int .i64 417, .int .i64 416] 1 false false]⟩
theorem w14x3_run : memoIs Tryz.prog (ctxOf Tryz.prog) bl0 [] 10000 w14x3 = true := by kernel_rfl
theorem w14x3_ret : Ret Tryz.prog w14x3.f w14x3.args (smallH (bOf bl0) w14x3.blks) w14x3.v (addL (smallH (bOf bl0) w14x3.blks) w14x3.ys) := memo_one bl0_ok memo_nil w14x3_run
def w15x4 : Memo := ⟨15, [.slice (some ⟨0, 0, none⟩) 2 2, .slice (some ⟨2, 0, none⟩) 2 2], [.cells [.int .i64 0, .int .i64 0] 1 false false, .cells [.int .i64 0, .int .i64 0] 1 false false], .bool true, []⟩
theorem w15x4_run : memoIs Tryz.prog (ctxOf Tryz.prog) bl0 [] 10000 w15x4 = true := by kernel_rfl
theorem w15x4_ret : Ret Tryz.prog w15x4.f w15x4.args (smallH (bOf bl0) w15x4.blks) w15x4.v (addL (smallH (bOf bl0) w15x4.blks) w15x4.ys) := memo_one bl0_ok memo_nil w15x4_run
def w15x5 : Memo := ⟨15, [.slice (some ⟨0, 0, none⟩) 3 3, .slice (some ⟨2, 0, none⟩) 3 3], [.cells [.int .i64 417, .int .i64 417, .int .i64 416] 1 false false, .cells [.int .i64 417, .int .i64 417, .int .i64 416] 1 false false], .bool true, []⟩
theorem w15x5_run : memoIs Tryz.prog (ctxOf Tryz.prog) bl0 [] 10000 w15x5 = true := by kernel_rfl
theorem w15x5_ret : Ret Tryz.prog w15x5.f w15x5.args (smallH (bOf bl0) w15x5.blks) w15x5.v (addL (smallH (bOf bl0) w15x5.blks) w15x5.ys) := memo_one bl0_ok memo_nil w15x5_run
def wAll : List Memo := [w22x0, w12x1, w13x2, w14x3, w15x4, w15x5]
theorem awake_run : allAre isTrue ((iterM Tryz.prog (ctxOf Tryz.prog) bl0 wAll 10000).call 10 [] (heapOf B0)) = true := by kernel_rfl
theorem awake_call : CallT Tryz.prog 10 [] (heapOf B0) (fun u _ => u = .bool true) := by
  have h := awake_run
  unfold allAre at h
  split at h
  · rename_i l hl
    refine ((iterM_ok bl0_ok (memo_cons w22x0_ret (memo_cons w12x1_ret (memo_cons w13x2_ret (memo_cons w14x3_ret (memo_cons w15x4_ret (memo_cons w15x5_ret memo_nil)))))) PC.ok 10000).call hl).mono fun u k hm => isTrue_eq u ?_
    rw [List.all_eq_true] at h
    exact h _ hm
  · cases h
theorem awake17 {H : AHeap} (hG : Glo B0 H) : Ret Tryz.prog 10 [] H (.bool true) H := ret_frame awake_call b0_flat rfl rfl hG
end Go.Proofs.YtfjihdlpohljbaaGreat
/- LeagueEliminates: the contract over every input, the row's forms, the card. -/
noncomputable section
namespace Go.Proofs.YtfjihdlpohljbaaGreat
open Go Go.Den Go.ChangeShapes Go.WideShapes Go.ChangeAt Go.RowKit Go.Deep
set_option maxRecDepth 10000
noncomputable instance : Inhabited (Int × Int) := ⟨(0, 0)⟩

theorem cellsInt : Tryz.prog.cellsOf 3 = 1 := by decide +kernel
section
variable {H : Type} {enc : TypeId × Value → H} {W : World} {sp : Nat → Bool} {hd : Bool} {fuel : Nat}
end

end Go.Proofs.YtfjihdlpohljbaaGreat
