import Derived.Test.YtppflopinmkpgaaDoorLaid
/- The law's own check of the document's examples. -/
namespace Go.Proofs.YtppflopinmkpgaaDoor
open Go Go.Den
set_option maxRecDepth 100000
theorem nap_run : allAre isTrue ((iterM Tryd.prog (ctxOf Tryd.prog) bl0 [] 10000).call 5 [] (heapOf B0)) = true := by kernel_rfl
theorem nap_call : CallT Tryd.prog 5 [] (heapOf B0) (fun u _ => u = .bool true) := by
  have h := nap_run
  unfold allAre at h
  split at h
  · rename_i l hl
    refine ((iterM_ok bl0_ok memo_nil PC.ok 10000).call hl).mono fun u k hm => isTrue_eq u ?_
    rw [List.all_eq_true] at h
    exact h _ hm
  · cases h
theorem nap_c {H : AHeap} (hG : Glo B0 H) : Ret Tryd.prog 5 [] H (.bool true) H := ret_frame nap_call b0_flat rfl rfl hG
end Go.Proofs.YtppflopinmkpgaaDoor
